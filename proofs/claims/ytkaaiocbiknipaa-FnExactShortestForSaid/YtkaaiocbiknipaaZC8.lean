/- Part 8: lemmas and contracts of the claim's functions. -/
import Derived.Test.YtkaaiocbiknipaaZC1
import Derived.Test.YtkaaiocbiknipaaZC2
import Derived.Test.YtkaaiocbiknipaaZC3
import Derived.Test.YtkaaiocbiknipaaZC4
import Derived.Test.YtkaaiocbiknipaaZC5
import Derived.Test.YtkaaiocbiknipaaZC6
import Derived.Test.YtkaaiocbiknipaaZC7
namespace Go.Proofs.Ytkaaiocbiknipaa
open Go.RowKit Go.Sort
theorem mulUpto_next {ts : List Int} {k : Nat} (h : k < ts.length) : mulUpto ts (k + 1) = mulUpto ts k ++ mulIns k ts[k] := by
  rw [← getD_of h]; rfl
set_option maxRecDepth 100000 in
set_option maxHeartbeats 3200000 in
theorem l12Turns_any (g : Nat) (A : Option Addr) (c : Nat) (ts : List Int) (w : World) (q2 : w.cell? ⟨g, 1, none⟩ = some (.slice A ts.length c)) (hr : RI w A ts.length ts) (hl : ts.length ≤ 100) (hd : ∀ d ∈ ts, -16 ≤ d ∧ d ≤ 16) :
    Calls Try.prog 146 #[.pointer (some ⟨g, 0, none⟩)] w fun e w' => ∃ A' c', e = .returned (.slice A' (mulP ts).length c') ∧ Kn w [rowIns (.slice A' (mulP ts).length c') (mulP ts)] w' := by
  have hlt : g < w.heap.size := World.block_lt_of_cell? w _ q2
  have HP := Lib.hid (fun W (hW : Below w.heap.size w W) => (hW.cell (p := ⟨g, 1, none⟩) hlt).trans q2)
  have HR := Lib.hid (fun W (hW : Below w.heap.size w W) => hr.below hW)
  have HDB := Lib.hid hd
  have HPR := Lib.hid (show mulP ts = mulUpto ts ts.length from rfl)
  clear hd hr hlt
  go_enter Try.func146, Try.ntmps146
  go_wp2_with fail
  have hK2 : Kn w [rowIns (.slice (some ⟨w.heap.size, 0, none⟩) 0 0) (mulUpto ts 0)] (w.alloc (.cells #[] 156)) := ((Kn.nil w).al [] 156).litRow (size := 2) (n := 0) rfl (by decide)
  go_loopw [3, 4] (fun vv kk wr => ∃ (k : Nat), k ≤ ts.length ∧ kk = .int .i64 k ∧ Kn w [rowIns vv (mulUpto ts k)] wr) (fun _ kk _ => ts.length - (intOf kk).toNat)
  case atStart => exact ⟨0, Nat.zero_le _, rfl, hK2⟩
  case round =>
    clear hK2
    obtain ⟨k, hk, rfl, hK⟩ := hrel
    have a1 := HP.out _ hK.below
    by_cases hkn : k < ts.length
    · have hi1 : (k : Int) < (ts.length : Int) := by omega
      obtain ⟨ad, hA, hlt, hkl, hc⟩ := (HR.out _ hK.below).at_ hkn
      subst hA
      have HC0 := (fun W (hW : Below w.heap.size w W) => show W.cell? (ad.add k) = some (.int .i64 ts[k]) from by
        obtain ⟨ad', e, -, hk', h⟩ := (HR.out W hW).at_ hkn
        cases e
        exact h)
      obtain ⟨d, hd⟩ : ∃ d, ts[k] = d := ⟨_, rfl⟩
      rw [hd] at HC0 hc
      have HC := Lib.hid HC0
      clear HC0
      have HNX := mulUpto_next hkl
      rw [hd] at HNX
      have hdb := HDB.out d (by rw [← hd]; exact List.getElem_mem _)
      obtain ⟨ds, hds⟩ : ∃ ds, mulUpto ts k = ds := ⟨_, rfl⟩
      rw [hds] at hK HNX
      have hln := mulUpto_len ts k
      rw [hds] at hln
      obtain ⟨A0, c0, rfl⟩ := row_form hK.at0
      have wnd : IntKind.i64.wrap (-d) = -d := wrapI64 (by omega)
      have HNX := Lib.hid HNX
      clear hd hds
      by_cases hk0 : 0 < k
      · have hk1 : (0 : Int) < (k : Int) := by omega
        rcases Int.lt_trichotomy d 0 with hd0 | rfl | hd0
        · have hd1 : ¬ 0 < d := by omega
          have HI := Lib.hid (show mulIns k d = [⟨4, 1⟩] ++ [⟨3, -d⟩] by unfold mulIns; rw [if_pos hk0, if_neg hd1, if_pos hd0])
          go_wp2_with (first
            | (at_builtin; refine kn_pushIns (m := []) (ys := [⟨4, 1⟩]) rfl _ _ rfl _ ds rfl rfl (hK.al [.int .i64 4, .int .i64 1] 156) (by simp; omega) ?_; intro v3 w3 hK3; clear hK; (have a1 := HP.out _ hK3.below; have hc := HC.out _ hK3.below))
            | (at_builtin; refine kn_pushIns (m := []) (ys := [⟨3, -d⟩]) rfl _ _ rfl _ (ds ++ [⟨4, 1⟩]) rfl rfl (hK3.al [.int .i64 3, .int .i64 (-d)] 156) (by simp; omega) ?_; intro v4 w4 hK4; have hE : ds ++ [⟨4, 1⟩] ++ [⟨3, -d⟩] = mulUpto ts (k + 1) := (by rw [HNX.out, HI.out, List.append_assoc]); rw [hE] at hK4; clear hE))
          go_roundw
          case rel => exact ⟨k + 1, by omega, by go_num, hK4⟩
          case measure => simp [intOf]; omega
        · have HI := Lib.hid (show mulIns k 0 = [⟨4, 1⟩] by unfold mulIns; rw [if_pos hk0]; rfl)
          go_wp2_with (first
            | (at_builtin; refine kn_pushIns (m := []) (ys := [⟨4, 1⟩]) rfl _ _ rfl _ ds rfl rfl (hK.al [.int .i64 4, .int .i64 1] 156) (by simp; omega) ?_; intro v3 w4 hK4; clear hK; have hK3 := hK4; (have a1 := HP.out _ hK3.below; have hc := HC.out _ hK3.below); clear hK3; have hE : ds ++ [⟨4, 1⟩] = mulUpto ts (k + 1) := (by rw [HNX.out, HI.out]); rw [hE] at hK4; clear hE))
          go_roundw
          case rel => exact ⟨k + 1, by omega, by go_num, hK4⟩
          case measure => simp [intOf]; omega
        · have hd1 : ¬ d < 0 := by omega
          have HI := Lib.hid (show mulIns k d = [⟨4, 1⟩] ++ [⟨2, d⟩] by unfold mulIns; rw [if_pos hk0, if_pos hd0])
          go_wp2_with (first
            | (at_builtin; refine kn_pushIns (m := []) (ys := [⟨4, 1⟩]) rfl _ _ rfl _ ds rfl rfl (hK.al [.int .i64 4, .int .i64 1] 156) (by simp; omega) ?_; intro v3 w3 hK3; clear hK; (have a1 := HP.out _ hK3.below; have hc := HC.out _ hK3.below))
            | (at_builtin; refine kn_pushIns (m := []) (ys := [⟨2, d⟩]) rfl _ _ rfl _ (ds ++ [⟨4, 1⟩]) rfl rfl (hK3.al [.int .i64 2, .int .i64 d] 156) (by simp; omega) ?_; intro v4 w4 hK4; have hE : ds ++ [⟨4, 1⟩] ++ [⟨2, d⟩] = mulUpto ts (k + 1) := (by rw [HNX.out, HI.out, List.append_assoc]); rw [hE] at hK4; clear hE))
          go_roundw
          case rel => exact ⟨k + 1, by omega, by go_num, hK4⟩
          case measure => simp [intOf]; omega
      · have hk1 : ¬ (0 : Int) < (k : Int) := by omega
        rcases Int.lt_trichotomy d 0 with hd0 | rfl | hd0
        · have hd1 : ¬ 0 < d := by omega
          have HI := Lib.hid (show mulIns k d = [⟨3, -d⟩] by unfold mulIns; rw [if_neg hk0, if_neg hd1, if_pos hd0]; rfl)
          go_wp2_with (first
            | (at_builtin; refine kn_pushIns (m := []) (ys := [⟨3, -d⟩]) rfl _ _ rfl _ ds rfl rfl (hK.al [.int .i64 3, .int .i64 (-d)] 156) (by simp; omega) ?_; intro v4 w4 hK4; clear hK; have hE : ds ++ [⟨3, -d⟩] = mulUpto ts (k + 1) := (by rw [HNX.out, HI.out]); rw [hE] at hK4; clear hE))
          go_roundw
          case rel => exact ⟨k + 1, by omega, by go_num, hK4⟩
          case measure => simp [intOf]; omega
        · have HI := Lib.hid (show mulIns k 0 = [] by unfold mulIns; rw [if_neg hk0]; rfl)
          go_wp2_with fail
          have hK4 := hK
          have hE : ds = mulUpto ts (k + 1) := (by rw [HNX.out, HI.out, List.append_nil])
          rw [hE] at hK4 ⊢
          clear hE hK
          go_roundw
          case rel => exact ⟨k + 1, by omega, by go_num, hK4⟩
          case measure => simp [intOf]; omega
        · have hd1 : ¬ d < 0 := by omega
          have HI := Lib.hid (show mulIns k d = [⟨2, d⟩] by unfold mulIns; rw [if_neg hk0, if_pos hd0]; rfl)
          go_wp2_with (first
            | (at_builtin; refine kn_pushIns (m := []) (ys := [⟨2, d⟩]) rfl _ _ rfl _ ds rfl rfl (hK.al [.int .i64 2, .int .i64 d] 156) (by simp; omega) ?_; intro v4 w4 hK4; clear hK; have hE : ds ++ [⟨2, d⟩] = mulUpto ts (k + 1) := (by rw [HNX.out, HI.out]); rw [hE] at hK4; clear hE))
          go_roundw
          case rel => exact ⟨k + 1, by omega, by go_num, hK4⟩
          case measure => simp [intOf]; omega
    · have hi1 : ¬ (k : Int) < (ts.length : Int) := by omega
      obtain rfl : k = ts.length := by omega
      obtain ⟨A0, c0, rfl⟩ := row_form hK.at0
      rw [← HPR.out] at hK ⊢
      go_wp2_with fail
      go_ret
      exact ⟨A0, c0, rfl, hK⟩
/-- what a function that makes a program returns -/
def MPRet (b f : Int) (sh : Bool) (w : World) (e : Ending) (w' : World) : Prop :=
  (trnC b f = 2 ∧ e = .returned (.tuple #[.slice none 0 0, .int .i64 2]) ∧ Below w.heap.size w w') ∨
  (trnC b f = 0 ∧ ∃ A c, e = .returned (.tuple #[.slice A (mulP (turnL sh b f)).length c, .int .i64 0]) ∧ Kn w [rowIns (.slice A (mulP (turnL sh b f)).length c) (mulP (turnL sh b f))] w')
theorem turnL_bd (sh : Bool) {b f : Int} (hb : 2 ≤ b) (hb2 : b ≤ 16) (h0 : 0 ≤ f) (h1 : f ≤ 62500000) : (turnL sh b f).length ≤ 30 ∧ ∀ d ∈ turnL sh b f, -16 ≤ d ∧ d ≤ 16 :=
  ⟨turnF_len sh b 30 f, fun d hd => by have := turnF_bd sh hb 30 f h0 (Int.le_trans h1 (by decide)) d hd; omega⟩
set_option maxRecDepth 100000 in
theorem specMultiplyProgram_any (b f : Int) (sh : Bool) (w : World) : Calls Try.prog 161 #[.int .i64 b, .int .i64 f, .bool sh] w (MPRet b f sh w) := by
  unfold MPRet
  have KD := Lib.hid (fun W => l12Digits_any b f sh W)
  go_enter Try.func161, Try.ntmps161
  go_wp2_with fail
  (with_reducible refine (KD.out _).mono ?_); rintro e w2 (⟨hc, rfl, hw⟩ | ⟨hc, A, c, rfl, hKn⟩)
  · have HC := Lib.hid hc
    have hK2 := (Kn.nil w).keep hw
    clear hc
    go_wp2_with fail
    go_ret2
    exact .inl ⟨HC.out, rfl, (hK2.al_ _).below⟩
  · have HC := Lib.hid hc
    obtain ⟨hb, hb2, h0, h1⟩ := (trnC_cases b f).elim (fun h => absurd (h.symm.trans hc) (by decide)) (fun h => h.2)
    obtain ⟨hl, hd⟩ := turnL_bd sh hb hb2 h0 h1
    obtain ⟨ts, hts⟩ : ∃ ts, turnL sh b f = ts := ⟨_, rfl⟩
    rw [hts] at hKn hl hd ⊢
    have HTS := Lib.hid hts
    have HD := Lib.hid hd
    clear hc hd hts hb hb2 h0 h1 KD
    have hK2 := hKn.al [.int .i64 b, .slice A ts.length c] 163
    go_wp2_with fail
    refine Calls.kn hK2 ?_; clear hK2; intro w3 hK3
    refine (l12Turns_any _ A c ts _ (box2 hK3).2 (Kn.riv (hK3.sel [1] 99 (by decide) (by decide))) (by omega) HD.out).mono ?_; rintro e w4 ⟨A', c', rfl, hKp⟩
    have hK4 := hK3.join hKp
    go_wp2_with fail
    go_ret2
    rw [HTS.out]
    exact .inr ⟨HC.out, A', c', rfl, hK4.sel [0] 99 (by decide) (by decide)⟩
set_option maxRecDepth 100000 in
set_option maxHeartbeats 6400000 in
theorem MultiplyProgram_any (b f : Int) (sh : Bool) (w : World) : Calls Try.prog 147 #[.int .i64 b, .int .i64 f, .bool sh] w (MPRet b f sh w) := by
  unfold MPRet
  have KI := (fun W => isTurnsInput_any b f W)
  rcases hi : (betB b 2 16 && betB f 0 62500000) with _ | _
  · have HC := Lib.hid (show trnC b f = 2 by unfold trnC; rw [hi]; rfl)
    rw [hi] at KI
    have KI := Lib.hid KI
    clear hi
    go_enter Try.func147, Try.ntmps147
    go_wp2_with (go_at_call 193; refine (KI.out _).mono ?_; rintro e w' ⟨rfl, rfl⟩)
    go_ret2
    exact .inl ⟨HC.out, rfl, Below.refl _ _⟩
  have HC := Lib.hid (show trnC b f = 0 by unfold trnC; rw [hi]; rfl)
  rw [hi] at KI
  have KI := Lib.hid KI
  obtain ⟨hb, hb2, h0, h1⟩ := (trnC_cases b f).elim (fun h => absurd (h.symm.trans HC.out) (by decide)) (fun h => h.2)
  have K0 := (fun W => plainTurns_any b f W hb hb2 h0 h1)
  have K1 := (fun W => fewestTurns_any b f W hb hb2 h0 h1)
  obtain ⟨hl, hd⟩ := turnL_bd sh hb hb2 h0 h1
  rcases sh with _ | _
  · obtain ⟨ts, hts⟩ : ∃ ts, turnL false b f = ts := ⟨_, rfl⟩
    rw [hts] at K0 hl hd ⊢
    have K0 := Lib.hid K0
    have HDB := Lib.hid hd
    have HPR := Lib.hid (show mulP ts = mulUpto ts ts.length from rfl)
    clear K1 hts hi hb hb2 h0 h1 hd
    go_enter Try.func147, Try.ntmps147
    go_wp2_with (go_at_call 193; refine (KI.out _).mono ?_; rintro e w' ⟨rfl, rfl⟩)
    (with_reducible refine (K0.out _).mono ?_); rintro e w2 ⟨A, c, rfl, hK1⟩
    go_wp2_with fail
    have hK2 : Kn w [rowIns (.slice (some ⟨w2.heap.size, 0, none⟩) 0 0) (mulUpto ts 0), rowI A c ts] (w2.alloc (.cells #[] 156)) := (hK1.al [] 156).litRow (size := 2) (n := 0) rfl (by decide)
    go_loopw [9, 26] (fun vv kk wr => ∃ (k : Nat), k ≤ ts.length ∧ kk = .int .i64 k ∧ Kn w [rowIns vv (mulUpto ts k), rowI A c ts] wr) (fun _ kk _ => ts.length - (intOf kk).toNat)
    case atStart => exact ⟨0, Nat.zero_le _, rfl, hK2⟩
    case round =>
      clear hK2 hK1
      obtain ⟨k, hk, rfl, hK⟩ := hrel
      by_cases hkn : k < ts.length
      · have hi1 : (k : Int) < (ts.length : Int) := by omega
        obtain ⟨ad, hA, hlt, hkl, hc⟩ := (Kn.riv (hK.sel [1] 99 (by decide) (by decide))).at_ hkn
        subst hA
        obtain ⟨d, hd⟩ : ∃ d, ts[k] = d := ⟨_, rfl⟩
        rw [hd] at hc
        have HNX := mulUpto_next hkl
        rw [hd] at HNX
        have hdb := HDB.out d (by rw [← hd]; exact List.getElem_mem _)
        obtain ⟨ds, hds⟩ : ∃ ds, mulUpto ts k = ds := ⟨_, rfl⟩
        rw [hds] at hK HNX
        have hln := mulUpto_len ts k
        rw [hds] at hln
        obtain ⟨A0, c0, rfl⟩ := row_form hK.at0
        have wnd : IntKind.i64.wrap (-d) = -d := wrapI64 (by omega)
        have HNX := Lib.hid HNX
        clear hd hds
        by_cases hk0 : 0 < k
        · have hk1 : (0 : Int) < (k : Int) := by omega
          rcases Int.lt_trichotomy d 0 with hd0 | rfl | hd0
          · have hd1 : ¬ 0 < d := by omega
            have HI := Lib.hid (show mulIns k d = [⟨4, 1⟩] ++ [⟨3, -d⟩] by unfold mulIns; rw [if_pos hk0, if_neg hd1, if_pos hd0])
            go_wp2_with (first
              | (at_builtin; refine kn_pushIns (m := [rowI (some ad) c ts]) (ys := [⟨4, 1⟩]) rfl _ _ rfl _ ds rfl rfl (hK.al [.int .i64 4, .int .i64 1] 156) (by simp; omega) ?_; intro v3 w3 hK3; clear hK; skip)
              | (at_builtin; refine kn_pushIns (m := [rowI (some ad) c ts]) (ys := [⟨3, -d⟩]) rfl _ _ rfl _ (ds ++ [⟨4, 1⟩]) rfl rfl (hK3.al [.int .i64 3, .int .i64 (-d)] 156) (by simp; omega) ?_; intro v4 w4 hK4; have hE : ds ++ [⟨4, 1⟩] ++ [⟨3, -d⟩] = mulUpto ts (k + 1) := (by rw [HNX.out, HI.out, List.append_assoc]); rw [hE] at hK4; clear hE))
            go_roundw
            case rel => exact ⟨k + 1, by omega, by go_num, hK4⟩
            case measure => simp [intOf]; omega
          · have HI := Lib.hid (show mulIns k 0 = [⟨4, 1⟩] by unfold mulIns; rw [if_pos hk0]; rfl)
            go_wp2_with (first
              | (at_builtin; refine kn_pushIns (m := [rowI (some ad) c ts]) (ys := [⟨4, 1⟩]) rfl _ _ rfl _ ds rfl rfl (hK.al [.int .i64 4, .int .i64 1] 156) (by simp; omega) ?_; intro v3 w4 hK4; clear hK; have hK3 := hK4; skip; clear hK3; have hE : ds ++ [⟨4, 1⟩] = mulUpto ts (k + 1) := (by rw [HNX.out, HI.out]); rw [hE] at hK4; clear hE))
            go_roundw
            case rel => exact ⟨k + 1, by omega, by go_num, hK4⟩
            case measure => simp [intOf]; omega
          · have hd1 : ¬ d < 0 := by omega
            have HI := Lib.hid (show mulIns k d = [⟨4, 1⟩] ++ [⟨2, d⟩] by unfold mulIns; rw [if_pos hk0, if_pos hd0])
            go_wp2_with (first
              | (at_builtin; refine kn_pushIns (m := [rowI (some ad) c ts]) (ys := [⟨4, 1⟩]) rfl _ _ rfl _ ds rfl rfl (hK.al [.int .i64 4, .int .i64 1] 156) (by simp; omega) ?_; intro v3 w3 hK3; clear hK; skip)
              | (at_builtin; refine kn_pushIns (m := [rowI (some ad) c ts]) (ys := [⟨2, d⟩]) rfl _ _ rfl _ (ds ++ [⟨4, 1⟩]) rfl rfl (hK3.al [.int .i64 2, .int .i64 d] 156) (by simp; omega) ?_; intro v4 w4 hK4; have hE : ds ++ [⟨4, 1⟩] ++ [⟨2, d⟩] = mulUpto ts (k + 1) := (by rw [HNX.out, HI.out, List.append_assoc]); rw [hE] at hK4; clear hE))
            go_roundw
            case rel => exact ⟨k + 1, by omega, by go_num, hK4⟩
            case measure => simp [intOf]; omega
        · have hk1 : ¬ (0 : Int) < (k : Int) := by omega
          rcases Int.lt_trichotomy d 0 with hd0 | rfl | hd0
          · have hd1 : ¬ 0 < d := by omega
            have HI := Lib.hid (show mulIns k d = [⟨3, -d⟩] by unfold mulIns; rw [if_neg hk0, if_neg hd1, if_pos hd0]; rfl)
            go_wp2_with (first
              | (at_builtin; refine kn_pushIns (m := [rowI (some ad) c ts]) (ys := [⟨3, -d⟩]) rfl _ _ rfl _ ds rfl rfl (hK.al [.int .i64 3, .int .i64 (-d)] 156) (by simp; omega) ?_; intro v4 w4 hK4; clear hK; have hE : ds ++ [⟨3, -d⟩] = mulUpto ts (k + 1) := (by rw [HNX.out, HI.out]); rw [hE] at hK4; clear hE))
            go_roundw
            case rel => exact ⟨k + 1, by omega, by go_num, hK4⟩
            case measure => simp [intOf]; omega
          · have HI := Lib.hid (show mulIns k 0 = [] by unfold mulIns; rw [if_neg hk0]; rfl)
            go_wp2_with fail
            have hK4 := hK
            have hE : ds = mulUpto ts (k + 1) := (by rw [HNX.out, HI.out, List.append_nil])
            rw [hE] at hK4 ⊢
            clear hE hK
            go_roundw
            case rel => exact ⟨k + 1, by omega, by go_num, hK4⟩
            case measure => simp [intOf]; omega
          · have hd1 : ¬ d < 0 := by omega
            have HI := Lib.hid (show mulIns k d = [⟨2, d⟩] by unfold mulIns; rw [if_neg hk0, if_pos hd0]; rfl)
            go_wp2_with (first
              | (at_builtin; refine kn_pushIns (m := [rowI (some ad) c ts]) (ys := [⟨2, d⟩]) rfl _ _ rfl _ ds rfl rfl (hK.al [.int .i64 2, .int .i64 d] 156) (by simp; omega) ?_; intro v4 w4 hK4; clear hK; have hE : ds ++ [⟨2, d⟩] = mulUpto ts (k + 1) := (by rw [HNX.out, HI.out]); rw [hE] at hK4; clear hE))
            go_roundw
            case rel => exact ⟨k + 1, by omega, by go_num, hK4⟩
            case measure => simp [intOf]; omega
      · have hi1 : ¬ (k : Int) < (ts.length : Int) := by omega
        obtain rfl : k = ts.length := by omega
        obtain ⟨A0, c0, rfl⟩ := row_form hK.at0
        rw [← HPR.out] at hK ⊢
        go_wp2_with fail
        go_ret2
        exact .inr ⟨HC.out, A0, c0, rfl, hK.sel [0] 99 (by decide) (by decide)⟩
  · obtain ⟨ts, hts⟩ : ∃ ts, turnL true b f = ts := ⟨_, rfl⟩
    rw [hts] at K1 hl hd ⊢
    obtain ⟨t0, ht0⟩ : ∃ ts, turnL false b f = ts := ⟨_, rfl⟩
    rw [ht0] at K0
    have K0 := Lib.hid K0
    have K1 := Lib.hid K1
    have HDB := Lib.hid hd
    have HPR := Lib.hid (show mulP ts = mulUpto ts ts.length from rfl)
    clear hts ht0 hi hb hb2 h0 h1 hd
    go_enter Try.func147, Try.ntmps147
    go_wp2_with (go_at_call 193; refine (KI.out _).mono ?_; rintro e w' ⟨rfl, rfl⟩)
    (with_reducible refine (K0.out _).mono ?_); rintro e w1 ⟨A0, c0, rfl, hK0⟩
    go_wp2_with fail
    (with_reducible refine (K1.out _).mono ?_); rintro e w2 ⟨A, c, rfl, hKn⟩
    have hK1 := (hK0.join hKn).sel [0] 99 (by decide) (by decide)
    clear hK0 hKn
    go_wp2_with fail
    have hK2 : Kn w [rowIns (.slice (some ⟨w2.heap.size, 0, none⟩) 0 0) (mulUpto ts 0), rowI A c ts] (w2.alloc (.cells #[] 156)) := (hK1.al [] 156).litRow (size := 2) (n := 0) rfl (by decide)
    go_loopw [9, 26] (fun vv kk wr => ∃ (k : Nat), k ≤ ts.length ∧ kk = .int .i64 k ∧ Kn w [rowIns vv (mulUpto ts k), rowI A c ts] wr) (fun _ kk _ => ts.length - (intOf kk).toNat)
    case atStart => exact ⟨0, Nat.zero_le _, rfl, hK2⟩
    case round =>
      clear hK2 hK1
      obtain ⟨k, hk, rfl, hK⟩ := hrel
      by_cases hkn : k < ts.length
      · have hi1 : (k : Int) < (ts.length : Int) := by omega
        obtain ⟨ad, hA, hlt, hkl, hc⟩ := (Kn.riv (hK.sel [1] 99 (by decide) (by decide))).at_ hkn
        subst hA
        obtain ⟨d, hd⟩ : ∃ d, ts[k] = d := ⟨_, rfl⟩
        rw [hd] at hc
        have HNX := mulUpto_next hkl
        rw [hd] at HNX
        have hdb := HDB.out d (by rw [← hd]; exact List.getElem_mem _)
        obtain ⟨ds, hds⟩ : ∃ ds, mulUpto ts k = ds := ⟨_, rfl⟩
        rw [hds] at hK HNX
        have hln := mulUpto_len ts k
        rw [hds] at hln
        obtain ⟨A0, c0, rfl⟩ := row_form hK.at0
        have wnd : IntKind.i64.wrap (-d) = -d := wrapI64 (by omega)
        have HNX := Lib.hid HNX
        clear hd hds
        by_cases hk0 : 0 < k
        · have hk1 : (0 : Int) < (k : Int) := by omega
          rcases Int.lt_trichotomy d 0 with hd0 | rfl | hd0
          · have hd1 : ¬ 0 < d := by omega
            have HI := Lib.hid (show mulIns k d = [⟨4, 1⟩] ++ [⟨3, -d⟩] by unfold mulIns; rw [if_pos hk0, if_neg hd1, if_pos hd0])
            go_wp2_with (first
              | (at_builtin; refine kn_pushIns (m := [rowI (some ad) c ts]) (ys := [⟨4, 1⟩]) rfl _ _ rfl _ ds rfl rfl (hK.al [.int .i64 4, .int .i64 1] 156) (by simp; omega) ?_; intro v3 w3 hK3; clear hK; skip)
              | (at_builtin; refine kn_pushIns (m := [rowI (some ad) c ts]) (ys := [⟨3, -d⟩]) rfl _ _ rfl _ (ds ++ [⟨4, 1⟩]) rfl rfl (hK3.al [.int .i64 3, .int .i64 (-d)] 156) (by simp; omega) ?_; intro v4 w4 hK4; have hE : ds ++ [⟨4, 1⟩] ++ [⟨3, -d⟩] = mulUpto ts (k + 1) := (by rw [HNX.out, HI.out, List.append_assoc]); rw [hE] at hK4; clear hE))
            go_roundw
            case rel => exact ⟨k + 1, by omega, by go_num, hK4⟩
            case measure => simp [intOf]; omega
          · have HI := Lib.hid (show mulIns k 0 = [⟨4, 1⟩] by unfold mulIns; rw [if_pos hk0]; rfl)
            go_wp2_with (first
              | (at_builtin; refine kn_pushIns (m := [rowI (some ad) c ts]) (ys := [⟨4, 1⟩]) rfl _ _ rfl _ ds rfl rfl (hK.al [.int .i64 4, .int .i64 1] 156) (by simp; omega) ?_; intro v3 w4 hK4; clear hK; have hK3 := hK4; skip; clear hK3; have hE : ds ++ [⟨4, 1⟩] = mulUpto ts (k + 1) := (by rw [HNX.out, HI.out]); rw [hE] at hK4; clear hE))
            go_roundw
            case rel => exact ⟨k + 1, by omega, by go_num, hK4⟩
            case measure => simp [intOf]; omega
          · have hd1 : ¬ d < 0 := by omega
            have HI := Lib.hid (show mulIns k d = [⟨4, 1⟩] ++ [⟨2, d⟩] by unfold mulIns; rw [if_pos hk0, if_pos hd0])
            go_wp2_with (first
              | (at_builtin; refine kn_pushIns (m := [rowI (some ad) c ts]) (ys := [⟨4, 1⟩]) rfl _ _ rfl _ ds rfl rfl (hK.al [.int .i64 4, .int .i64 1] 156) (by simp; omega) ?_; intro v3 w3 hK3; clear hK; skip)
              | (at_builtin; refine kn_pushIns (m := [rowI (some ad) c ts]) (ys := [⟨2, d⟩]) rfl _ _ rfl _ (ds ++ [⟨4, 1⟩]) rfl rfl (hK3.al [.int .i64 2, .int .i64 d] 156) (by simp; omega) ?_; intro v4 w4 hK4; have hE : ds ++ [⟨4, 1⟩] ++ [⟨2, d⟩] = mulUpto ts (k + 1) := (by rw [HNX.out, HI.out, List.append_assoc]); rw [hE] at hK4; clear hE))
            go_roundw
            case rel => exact ⟨k + 1, by omega, by go_num, hK4⟩
            case measure => simp [intOf]; omega
        · have hk1 : ¬ (0 : Int) < (k : Int) := by omega
          rcases Int.lt_trichotomy d 0 with hd0 | rfl | hd0
          · have hd1 : ¬ 0 < d := by omega
            have HI := Lib.hid (show mulIns k d = [⟨3, -d⟩] by unfold mulIns; rw [if_neg hk0, if_neg hd1, if_pos hd0]; rfl)
            go_wp2_with (first
              | (at_builtin; refine kn_pushIns (m := [rowI (some ad) c ts]) (ys := [⟨3, -d⟩]) rfl _ _ rfl _ ds rfl rfl (hK.al [.int .i64 3, .int .i64 (-d)] 156) (by simp; omega) ?_; intro v4 w4 hK4; clear hK; have hE : ds ++ [⟨3, -d⟩] = mulUpto ts (k + 1) := (by rw [HNX.out, HI.out]); rw [hE] at hK4; clear hE))
            go_roundw
            case rel => exact ⟨k + 1, by omega, by go_num, hK4⟩
            case measure => simp [intOf]; omega
          · have HI := Lib.hid (show mulIns k 0 = [] by unfold mulIns; rw [if_neg hk0]; rfl)
            go_wp2_with fail
            have hK4 := hK
            have hE : ds = mulUpto ts (k + 1) := (by rw [HNX.out, HI.out, List.append_nil])
            rw [hE] at hK4 ⊢
            clear hE hK
            go_roundw
            case rel => exact ⟨k + 1, by omega, by go_num, hK4⟩
            case measure => simp [intOf]; omega
          · have hd1 : ¬ d < 0 := by omega
            have HI := Lib.hid (show mulIns k d = [⟨2, d⟩] by unfold mulIns; rw [if_neg hk0, if_pos hd0]; rfl)
            go_wp2_with (first
              | (at_builtin; refine kn_pushIns (m := [rowI (some ad) c ts]) (ys := [⟨2, d⟩]) rfl _ _ rfl _ ds rfl rfl (hK.al [.int .i64 2, .int .i64 d] 156) (by simp; omega) ?_; intro v4 w4 hK4; clear hK; have hE : ds ++ [⟨2, d⟩] = mulUpto ts (k + 1) := (by rw [HNX.out, HI.out]); rw [hE] at hK4; clear hE))
            go_roundw
            case rel => exact ⟨k + 1, by omega, by go_num, hK4⟩
            case measure => simp [intOf]; omega
      · have hi1 : ¬ (k : Int) < (ts.length : Int) := by omega
        obtain rfl : k = ts.length := by omega
        obtain ⟨A0, c0, rfl⟩ := row_form hK.at0
        rw [← HPR.out] at hK ⊢
        go_wp2_with fail
        go_ret2
        exact .inr ⟨HC.out, A0, c0, rfl, hK.sel [0] 99 (by decide) (by decide)⟩
end Go.Proofs.Ytkaaiocbiknipaa

namespace Go.Proofs.Ytkaaiocbiknipaa
open Go.RowKit Go.Sort
/-- whether multiplying by f keeps its promise for all inputs -/
noncomputable def okF (sh : Bool) (b : Int) (n1 n2 n3 N : Nat) (f : Nat) : Bool := decide (failsL (badB (mulP (turnL sh b f)) b n1 n2 n3 1 f) N = [])
def fpC (b z1 z2 z3 most : Int) : Int := if betB most 0 30 = false then 2 else inC b z1 z2 z3
noncomputable def fpL (b z1 z2 z3 most : Int) (sh : Bool) : List Int := if fpC b z1 z2 z3 most ≠ 0 then [] else failsL (okF sh b z1.toNat z2.toNat z3.toNat (pw b z1.toNat * pw b z2.toNat).toNat) (most.toNat + 1)
def FPRet (b z1 z2 z3 most : Int) (sh : Bool) (w : World) (e : Ending) (w' : World) : Prop := ∃ A c, e = .returned (.tuple #[.slice A (fpL b z1 z2 z3 most sh).length c, .int .i64 (fpC b z1 z2 z3 most)]) ∧ Kn w [rowI A c (fpL b z1 z2 z3 most sh)] w'
theorem fpC_cases (b z1 z2 z3 most : Int) : fpC b z1 z2 z3 most ≠ 0 ∨ (fpC b z1 z2 z3 most = 0 ∧ inC b z1 z2 z3 = 0 ∧ ∃ n1 n2 n3 N M : Nat, z1 = n1 ∧ z2 = n2 ∧ z3 = n3 ∧ most = M ∧ M ≤ 30 ∧ NmB b n1 n2 n3 ∧ ¬ 256 < pw b n1 * pw b n2 ∧ pw b n1 * pw b n2 = (N : Int) ∧ N ≤ 256) := by
  by_cases h : fpC b z1 z2 z3 most = 0
  · refine .inr ⟨h, ?_⟩
    unfold fpC at h
    split at h
    · cases h
    rename_i hm
    have hm := betB_iff.1 (show betB most 0 30 = true by simpa using hm)
    rcases inC_cases b z1 z2 z3 with h2 | ⟨-, n1, n2, n3, e1, e2, e3, hB, hbig⟩
    · exact absurd h h2
    · have hm0 : 0 ≤ pw b n1 * pw b n2 := Int.mul_nonneg (by have := hB.q1; omega) (by have := hB.q2; omega)
      obtain ⟨N, hN⟩ := Int.eq_ofNat_of_zero_le hm0
      obtain ⟨M, hM⟩ := Int.eq_ofNat_of_zero_le hm.1
      exact ⟨h, n1, n2, n3, N, M, e1, e2, e3, hM, by omega, hB, hbig, hN, by omega⟩
  · exact .inl h
theorem fp_bad {b z1 z2 z3 most : Int} {sh : Bool} (h : fpC b z1 z2 z3 most ≠ 0) : fpL b z1 z2 z3 most sh = [] := by unfold fpL; rw [if_pos h]
theorem fp_fine {b : Int} {n1 n2 n3 N M : Nat} {sh : Bool} (h : fpC b n1 n2 n3 M = 0) (hN : pw b n1 * pw b n2 = (N : Int)) : fpL b n1 n2 n3 M sh = failsL (okF sh b n1 n2 n3 N) (M + 1) := by
  have hn : ¬ (fpC b n1 n2 n3 M ≠ 0) := fun h2 => h2 h
  unfold fpL
  rw [if_neg hn]
  simp only [Int.toNat_natCast, hN]
theorem fpL_len (b z1 z2 z3 most : Int) (sh : Bool) : (fpL b z1 z2 z3 most sh).length ≤ 31 := by
  rcases fpC_cases b z1 z2 z3 most with h | ⟨h, -, n1, n2, n3, N, M, rfl, rfl, rfl, rfl, hM, hB, hbig, hN, hN2⟩
  · rw [fp_bad h]; simp
  · rw [fp_fine h hN]; have := failsL_len (okF sh b n1 n2 n3 N) (M + 1); omega
theorem mp_fine {b : Int} {f : Nat} {sh : Bool} {w : World} {P : Calls Try.prog 147 #[.int .i64 b, .int .i64 f, .bool sh] w (MPRet b f sh w)} (hc : trnC b f = 0) :
    Calls Try.prog 147 #[.int .i64 b, .int .i64 f, .bool sh] w fun e w' => ∃ A c, e = .returned (.tuple #[.slice A (mulP (turnL sh b f)).length c, .int .i64 0]) ∧ Kn w [rowIns (.slice A (mulP (turnL sh b f)).length c) (mulP (turnL sh b f))] w' := by
  refine P.mono ?_
  rintro e w' (⟨h, -⟩ | ⟨-, h⟩)
  · rw [hc] at h; cases h
  · exact h
theorem spec_mp_fine {b : Int} {f : Nat} {sh : Bool} {w : World} {P : Calls Try.prog 161 #[.int .i64 b, .int .i64 f, .bool sh] w (MPRet b f sh w)} (hc : trnC b f = 0) :
    Calls Try.prog 161 #[.int .i64 b, .int .i64 f, .bool sh] w fun e w' => ∃ A c, e = .returned (.tuple #[.slice A (mulP (turnL sh b f)).length c, .int .i64 0]) ∧ Kn w [rowIns (.slice A (mulP (turnL sh b f)).length c) (mulP (turnL sh b f))] w' := by
  refine P.mono ?_
  rintro e w' (⟨h, -⟩ | ⟨-, h⟩)
  · rw [hc] at h; cases h
  · exact h
theorem trnC_fine {b : Int} {n1 n2 n3 : Nat} (hB : NmB b n1 n2 n3) {f : Nat} (hf : f ≤ 1000) : trnC b f = 0 := by
  unfold trnC
  rw [if_pos]
  rw [Bool.and_eq_true, betB_iff, betB_iff]
  have := hB.b1
  have := hB.b2
  omega
theorem take_one {α : Type} {xs : List α} : (xs = [] ∧ xs.take 1 = []) ∨ (xs ≠ [] ∧ ∃ x, xs.take 1 = [x]) := by
  cases xs with
  | nil => exact .inl ⟨rfl, rfl⟩
  | cons x xs => exact .inr ⟨by simp, x, rfl⟩
set_option maxRecDepth 100000 in
set_option maxHeartbeats 6400000 in
theorem FactorProofs_any (b z1 z2 z3 most : Int) (sh : Bool) (w : World) :
    Calls Try.prog 75 #[.int .i64 b, .int .i64 z1, .int .i64 z2, .int .i64 z3, .int .i64 most, .bool sh] w (FPRet b z1 z2 z3 most sh w) := by
  unfold FPRet
  rcases fpC_cases b z1 z2 z3 most with hb | ⟨h0, hi0, n1, n2, n3, N, M, rfl, rfl, rfl, rfl, hM, hB, hbig, hN, hN2⟩
  · have hl := fp_bad (sh := sh) hb
    rw [hl]
    clear hl
    rcases hm : betB most 0 30 with _ | _
    · have HC := Lib.hid (show fpC b z1 z2 z3 most = 2 by unfold fpC; rw [if_pos hm])
      have KB := Lib.hid (fun W => calls_val (between_B most 0 30 W) (congrArg Value.bool hm))
      rw [HC.out]
      clear hm hb
      go_enter Try.func75, Try.ntmps75
      go_wp2_with (go_at_call 81; refine (KB.out _).mono ?_; rintro e w' ⟨rfl, hw⟩; have hK := (Kn.nil w).keep hw)
      go_ret2
      exact ⟨none, 0, rfl, hK.nilRow _ _⟩
    · have HC := Lib.hid (show fpC b z1 z2 z3 most = inC b z1 z2 z3 by unfold fpC; rw [if_neg (by rw [hm]; decide)])
      have KB := Lib.hid (fun W => calls_val (between_B most 0 30 W) (congrArg Value.bool hm))
      rw [HC.out] at hb
      have KI := (fun W => inputsOf_bad b z1 z2 z3 W hb)
      rw [HC.out]
      obtain ⟨c, hc⟩ : ∃ c, inC b z1 z2 z3 = c := ⟨_, rfl⟩
      rw [hc] at KI hb
      rw [hc]
      have KI := Lib.hid KI
      have hcb : (c != 0) = true := by simpa using hb
      have hcb2 : (c == 0) = false := by simpa using hb
      clear hm hb hc HC
      go_enter Try.func75, Try.ntmps75
      go_wp2_with (first | (go_at_call 81; refine (KB.out _).mono ?_; rintro e w' ⟨rfl, hw⟩; have hK := (Kn.nil w).keep hw) | (go_at_call 160; refine (KI.out _).mono ?_; rintro e w'' ⟨rfl, hw2⟩; have hK2 := hK.keep hw2))
      go_ret2
      exact ⟨none, 0, rfl, (hK2.al_ _).nilRow _ _⟩
  have HL := Lib.hid (fp_fine (sh := sh) h0 hN)
  have HC := Lib.hid h0
  have KB := Lib.hid (fun W => calls_val (between_B (M : Int) 0 30 W) (congrArg Value.bool (betB_iff.2 (show (0 : Int) ≤ M ∧ (M : Int) ≤ 30 by omega))))
  have KI := (fun W => inputsOf_fine W hB hbig)
  rw [hN] at KI
  have KM := Lib.hid (fun (f : Nat) (hf : f ≤ 30) W => mp_fine (P := MultiplyProgram_any b f sh W) (trnC_fine hB (by omega)))
  have KF := (fun (f : Nat) (hf : f ≤ 30) (LA : Option Addr) (lc : Nat) (E1 E2 E3 : Option Addr) (g1 g2 g3 : Nat) W q1 q2 q3 hr => failures_any (L := mulP (turnL sh b f)) (n := (mulP (turnL sh b f)).length) (lc := lc) (LA := LA) E1 E2 E3 g1 g2 g3 1 f 1 W hB hN hN2 q1 q2 q3 (mulP_ok hB.b1 hB.b2 (by omega) (by omega)) hr (show isP 1 f = true from betB_iff.2 (by omega)) (by decide))
  have HOK := Lib.hid (fun f : Nat => show okF sh b n1 n2 n3 N f = decide (failsL (badB (mulP (turnL sh b f)) b n1 n2 n3 1 f) N = []) from rfl)
  rw [HL.out, HC.out]
  obtain ⟨q, hq⟩ : ∃ q, okF sh b n1 n2 n3 N = q := ⟨_, rfl⟩
  rw [hq] at HOK
  rw [hq]
  obtain ⟨x1, hx1⟩ : ∃ x, digD b n1 0 = x := ⟨_, rfl⟩
  obtain ⟨x2, hx2⟩ : ∃ x, digD b n2 0 = x := ⟨_, rfl⟩
  obtain ⟨x3, hx3⟩ : ∃ x, digD b n3 0 = x := ⟨_, rfl⟩
  rw [hx1, hx2, hx3] at KI KF
  have KI := Lib.hid KI
  have KF := Lib.hid KF
  have HFL := Lib.hid (failsL_len q)
  have HSC := Lib.hid (failsL_succ q)
  have wM : IntKind.i64.wrap ((M : Int) + 1) = (M : Int) + 1 := wrapI64 (by omega)
  clear h0 hi0 hB hbig hN hx1 hx2 hx3 hq HL HC
  go_enter Try.func75, Try.ntmps75
  go_wp2_with (first | (go_at_call 81; refine (KB.out _).mono ?_; rintro e w1 ⟨rfl, hw⟩; have hK := (Kn.nil w).keep hw; clear hw) | (go_at_call 160; refine (KI.out _).mono ?_; rintro e w2 ⟨E1, g1, E2, g2, E3, g3, rfl, hKn⟩; have hK2 := hK.join hKn; clear hK hKn))
  have hK3 := ((hK2.al [.int .i64 b, .slice E1 x1.length g1, .int .i64 b, .slice E2 x2.length g2, .int .i64 b, .slice E3 x3.length g3, .int .i64 0, .int .i64 (N : Int)] 175).al [] 2).litRow (size := 1) (n := 0) rfl (by decide)
  simp only [World.size_alloc] at hK3
  go_loopw [16, 37] (fun vv kk wr => ∃ (k : Nat) (A : Option Addr) (c : Nat), k ≤ M + 1 ∧ kk = .int .i64 k ∧ vv = .slice A (failsL q k).length c ∧ Kn w [rowI A c (failsL q k), .blk w2.heap.size [.int .i64 b, .slice E1 x1.length g1, .int .i64 b, .slice E2 x2.length g2, .int .i64 b, .slice E3 x3.length g3, .int .i64 0, .int .i64 (N : Int)] 175, rowI E3 g3 x3, rowI E2 g2 x2, rowI E1 g1 x1] wr) (fun _ kk _ => M + 1 - (intOf kk).toNat)
  case atStart => exact ⟨0, some ⟨w2.heap.size + 1, 0, none⟩, 0, Nat.zero_le _, rfl, rfl, hK3⟩
  case round =>
    obtain ⟨k, A, c, hkN, rfl, rfl, hK⟩ := hrel
    clear hK2 hK3
    have hds := HFL.out k
    have HSK := HSC.out k
    obtain ⟨ds, hd⟩ : ∃ ds, failsL q k = ds := ⟨_, rfl⟩
    have HD := Lib.hid hd
    rw [hd] at HSK hK hds ⊢
    have HSK := Lib.hid HSK
    clear hd
    by_cases hkn : k < M + 1
    · have hk1 : (k : Int) < (M : Int) + 1 := by omega
      have hk30 : k ≤ 30 := by omega
      have KM1 := KM.out k hk30
      have KF1 := KF.out k hk30
      have HO := HOK.out k
      obtain ⟨P, hP⟩ : ∃ P, mulP (turnL sh b k) = P := ⟨_, rfl⟩
      rw [hP] at KM1 KF1 HO
      have hto := take_one (xs := failsL (badB P b n1 n2 n3 1 k) N)
      obtain ⟨rs, hrs⟩ : ∃ rs, (failsL (badB P b n1 n2 n3 1 k) N).take 1 = rs := ⟨_, rfl⟩
      rw [hrs] at KF1 hto
      have KM1 := Lib.hid KM1
      have KF1 := Lib.hid KF1
      clear hP hrs
      rcases hto with ⟨hf, rfl⟩ | ⟨hf, x, rfl⟩
      · have HQ := Lib.hid (show q k = true by rw [HO, hf]; simp)
        clear hf HO
        go_wp2_with fail
        (with_reducible refine (KM1.out _).mono ?_); rintro e w3 ⟨PA, pc, rfl, hKp⟩
        have hK4 := hK.join hKp
        clear hKp hK
        obtain ⟨a1, a2, a3, -⟩ := hK4.cells
        go_wp2_with fail
        (refine (KF1.out PA pc E1 E2 E3 g1 g2 g3 _ (Kn.riv (hK4.sel [5] 99 (by decide) (by decide))) (Kn.riv (hK4.sel [4] 99 (by decide) (by decide))) (Kn.riv (hK4.sel [3] 99 (by decide) (by decide))) (hK4.rlIns).2).mono ?_); rintro e w4 ⟨FA, fc, rfl, hKf⟩
        have hK5 := (hK4.join hKf).sel [2, 3, 4, 5, 6] 99 (by decide) (by decide)
        clear hK4 hKf a1 a2 a3
        obtain ⟨a1, a2, a3, -⟩ := hK5.cells
        go_wp2_with (at_builtin; refine kn_pushI rfl _ _ rfl _ ds rfl rfl (hK5.al [.int .i64 (k : Int)] 2) (by omega) ?_; intro v5 w6 hK9; obtain ⟨A5, c5, rfl⟩ := row_form hK9.at0)
        go_roundw
        case rel =>
          have h2 : failsL q (k + 1) = ds ++ [(k : Int)] := by rw [HSK.out, if_pos HQ.out]
          refine ⟨k + 1, A5, c5, by omega, by go_num, by rw [h2]; simp, ?_⟩
          rw [h2]
          exact hK9
        case measure => simp [intOf]; omega
      · have HQ := Lib.hid (show ¬ q k = true by rw [HO]; simpa using hf)
        clear hf HO
        go_wp2_with fail
        (with_reducible refine (KM1.out _).mono ?_); rintro e w3 ⟨PA, pc, rfl, hKp⟩
        have hK4 := hK.join hKp
        clear hKp hK
        obtain ⟨a1, a2, a3, -⟩ := hK4.cells
        go_wp2_with fail
        (refine (KF1.out PA pc E1 E2 E3 g1 g2 g3 _ (Kn.riv (hK4.sel [5] 99 (by decide) (by decide))) (Kn.riv (hK4.sel [4] 99 (by decide) (by decide))) (Kn.riv (hK4.sel [3] 99 (by decide) (by decide))) (hK4.rlIns).2).mono ?_); rintro e w4 ⟨FA, fc, rfl, hKf⟩
        have hK5 := (hK4.join hKf).sel [2, 3, 4, 5, 6] 99 (by decide) (by decide)
        clear hK4 hKf a1 a2 a3
        go_wp2_with fail
        go_roundw
        case rel =>
          have h2 : failsL q (k + 1) = ds := by rw [HSK.out, if_neg HQ.out]
          refine ⟨k + 1, A, c, by omega, by go_num, by rw [h2], ?_⟩
          rw [h2]
          exact hK5
        case measure => simp [intOf]; omega
    · have hk1 : ¬ (k : Int) < (M : Int) + 1 := by omega
      have hkk : k = M + 1 := by omega
      have HX := Lib.hid (show failsL q (M + 1) = ds by rw [← hkk]; exact HD.out)
      clear hkk
      go_wp2_with fail
      go_ret2
      rw [HX.out]
      exact ⟨A, c, rfl, hK.sel [0] 99 (by decide) (by decide)⟩
set_option maxRecDepth 100000 in
set_option maxHeartbeats 6400000 in
theorem specFactorProofs_any (b z1 z2 z3 most : Int) (sh : Bool) (w : World) :
    Calls Try.prog 74 #[.int .i64 b, .int .i64 z1, .int .i64 z2, .int .i64 z3, .int .i64 most, .bool sh] w (FPRet b z1 z2 z3 most sh w) := by
  unfold FPRet
  have KB0 := (fun W => l00In_any most 0 30 W)
  have KS0 := (fun W => l14Size_any b z1 z2 z3 W)
  rcases fpC_cases b z1 z2 z3 most with hb | ⟨h0, hi0, n1, n2, n3, N, M, rfl, rfl, rfl, rfl, hM, hB, hbig, hN, hN2⟩
  · have hl := fp_bad (sh := sh) hb
    rw [hl]
    clear hl
    rcases hn : nmOk b z1 z2 z3 with _ | _
    · have KN := Lib.hid (fun W => specNewMachine_no b z1 z2 z3 W hn)
      have HC := Lib.hid (show fpC b z1 z2 z3 most = 2 by unfold fpC; rw [inC_no hn]; split <;> rfl)
      rw [HC.out]
      clear hn hb KB0 KS0
      go_enter Try.func74, Try.ntmps74
      go_wp2_with fail
      (with_reducible refine (KN.out _).mono ?_); rintro e w2 ⟨rfl, hw⟩
      have hK2 := (Kn.nil w).keep hw
      go_wp2_with fail
      go_ret2
      exact ⟨none, 0, rfl, (hK2.al_ _).nilRow _ _⟩
    obtain ⟨n1, n2, n3, rfl, rfl, rfl, hB⟩ := nmOk_true hn
    have KN := Lib.hid (fun W => specNewMachine_yes W hB)
    rcases hm : betB most 0 30 with _ | _
    · have HC := Lib.hid (show fpC b n1 n2 n3 most = 2 by unfold fpC; rw [if_pos hm])
      rw [hm] at KB0
      have KB := Lib.hid KB0
      rw [HC.out]
      clear hm hb KS0 hB hn KB0
      go_enter Try.func74, Try.ntmps74
      go_wp2_with fail
      (with_reducible refine (KN.out _).mono ?_); rintro e w2 ⟨E1, g1, E2, g2, E3, g3, rfl, hKn⟩
      go_wp2_with (go_at_call 107; refine (KB.out _).mono ?_; rintro e w' ⟨rfl, rfl⟩)
      go_ret2
      exact ⟨none, 0, rfl, ((hKn.bare).al_ _).nilRow _ _⟩
    · have HC := Lib.hid (show fpC b n1 n2 n3 most = inC b n1 n2 n3 by unfold fpC; rw [if_neg (by rw [hm]; decide)])
      rw [hm] at KB0
      have KB := Lib.hid KB0
      rw [HC.out] at hb
      rw [HC.out]
      obtain ⟨c, hc⟩ : ∃ c, inC b n1 n2 n3 = c := ⟨_, rfl⟩
      rw [hc] at KS0 hb
      rw [hc]
      have KS := Lib.hid KS0
      have hcb : (c != 0) = true := by simpa using hb
      have hcb2 : (c == 0) = false := by simpa using hb
      clear hm hb hc HC hB hn KB0 KS0
      go_enter Try.func74, Try.ntmps74
      go_wp2_with fail
      (with_reducible refine (KN.out _).mono ?_); rintro e w2 ⟨E1, g1, E2, g2, E3, g3, rfl, hKn⟩
      go_wp2_with (go_at_call 107; refine (KB.out _).mono ?_; rintro e w' ⟨rfl, rfl⟩)
      refine Calls.kn (hKn.bare.al_ _) ?_; intro w3 hK3
      (with_reducible refine (KS.out _).mono ?_); rintro e w4 ⟨rfl, hw⟩
      have hK4 := hK3.keep hw
      go_wp2_with fail
      go_ret2
      exact ⟨none, 0, rfl, hK4.nilRow _ _⟩
  have HL := Lib.hid (fp_fine (sh := sh) h0 hN)
  have HC := Lib.hid h0
  have KB := Lib.hid (fun W => calls_val (l00In_any (M : Int) 0 30 W) (congrArg Value.bool (betB_iff.2 (show (0 : Int) ≤ M ∧ (M : Int) ≤ 30 by omega))))
  have KN := Lib.hid (fun W => specNewMachine_yes W hB)
  have KS := Lib.hid (fun W => calls_val (l14Size_any b n1 n2 n3 W) (congrArg (Value.int .i64) hi0))
  have KM := Lib.hid (fun (f : Nat) (hf : f ≤ 30) W => spec_mp_fine (P := specMultiplyProgram_any b f sh W) (trnC_fine hB (by omega)))
  have KF := Lib.hid (fun (f : Nat) (hf : f ≤ 30) (LA : Option Addr) (lc : Nat) W hr => l14First_any (L := mulP (turnL sh b f)) (n := (mulP (turnL sh b f)).length) (lc := lc) (LA := LA) 1 f W hB hN hN2 (mulP_ok hB.b1 hB.b2 (by omega) (by omega)) hr (show isP 1 f = true from betB_iff.2 (by omega)))
  have HOK := Lib.hid (fun f : Nat => show okF sh b n1 n2 n3 N f = decide (failsL (badB (mulP (turnL sh b f)) b n1 n2 n3 1 f) N = []) from rfl)
  rw [HL.out, HC.out]
  obtain ⟨q, hq⟩ : ∃ q, okF sh b n1 n2 n3 N = q := ⟨_, rfl⟩
  rw [hq] at HOK
  rw [hq]
  have HFL := Lib.hid (failsL_len q)
  have HSC := Lib.hid (failsL_succ q)
  clear h0 hi0 hB hbig hN hq HL HC KB0 KS0
  go_enter Try.func74, Try.ntmps74
  go_wp2_with fail
  (with_reducible refine (KN.out _).mono ?_); rintro e w2 ⟨E1, g1, E2, g2, E3, g3, rfl, hKn⟩
  go_wp2_with (go_at_call 107; refine (KB.out _).mono ?_; rintro e w' ⟨rfl, rfl⟩)
  refine Calls.kn (hKn.bare.al_ _) ?_; intro w3 hK3
  (with_reducible refine (KS.out _).mono ?_); rintro e w4 ⟨rfl, hw⟩
  have hK4 := hK3.keep hw
  go_wp2_with fail
  have hK5 := (hK4.al [] 2).litRow (size := 1) (n := 0) rfl (by decide)
  clear hKn hK3 hw hK4
  go_loopw [16, 17] (fun vv kk wr => ∃ (k : Nat) (A : Option Addr) (c : Nat), k ≤ M + 1 ∧ kk = .int .i64 k ∧ vv = .slice A (failsL q k).length c ∧ Kn w [rowI A c (failsL q k)] wr) (fun _ kk _ => M + 1 - (intOf kk).toNat)
  case atStart => exact ⟨0, some ⟨w4.heap.size, 0, none⟩, 0, Nat.zero_le _, rfl, rfl, hK5⟩
  case round =>
    obtain ⟨k, A, c, hkN, rfl, rfl, hK⟩ := hrel
    clear hK5
    have hds := HFL.out k
    have HSK := HSC.out k
    obtain ⟨ds, hd⟩ : ∃ ds, failsL q k = ds := ⟨_, rfl⟩
    have HD := Lib.hid hd
    rw [hd] at HSK hK hds ⊢
    have HSK := Lib.hid HSK
    clear hd
    by_cases hkn : k < M + 1
    · have hk1 : (k : Int) ≤ (M : Int) := by omega
      have hk30 : k ≤ 30 := by omega
      have KM1 := KM.out k hk30
      have KF1 := KF.out k hk30
      have HO := HOK.out k
      obtain ⟨P, hP⟩ : ∃ P, mulP (turnL sh b k) = P := ⟨_, rfl⟩
      rw [hP] at KM1 KF1 HO
      have hhd := head_neg (p := badB P b n1 n2 n3 1 k) (N := N)
      obtain ⟨rs, hrs⟩ : ∃ rs, failsL (badB P b n1 n2 n3 1 k) N = rs := ⟨_, rfl⟩
      rw [hrs] at KF1 hhd HO
      obtain ⟨x, hx⟩ : ∃ x, rs.headD (-1) = x := ⟨_, rfl⟩
      rw [hx] at KF1 hhd
      have KM1 := Lib.hid KM1
      have KF1 := Lib.hid KF1
      clear hP hrs hx
      rcases hhd with ⟨hf, rfl⟩ | ⟨hf, h2, h3, h4⟩
      · have HQ := Lib.hid (show q k = true by rw [HO, hf]; simp)
        clear hf HO
        go_wp2_with fail
        (with_reducible refine (KM1.out _).mono ?_); rintro e w3 ⟨PA, pc, rfl, hKp⟩
        have hK4 := hK.join hKp
        clear hKp hK
        go_wp2_with fail
        (refine (KF1.out PA pc _ (hK4.rlIns).2).mono ?_); rintro e w5 ⟨rfl, hw⟩
        have hK5 := (hK4.keep hw).sel [1] 99 (by decide) (by decide)
        clear hK4 hw
        go_wp2_with (at_builtin; refine kn_pushI rfl _ _ rfl _ ds rfl rfl (hK5.al [.int .i64 (k : Int)] 2) (by omega) ?_; intro v5 w6 hK9; obtain ⟨A5, c5, rfl⟩ := row_form hK9.at0)
        go_roundw
        case rel =>
          have h2 : failsL q (k + 1) = ds ++ [(k : Int)] := by rw [HSK.out, if_pos HQ.out]
          refine ⟨k + 1, A5, c5, by omega, by go_num, by rw [h2]; simp, ?_⟩
          rw [h2]
          exact hK9
        case measure => simp [intOf]; omega
      · have HQ := Lib.hid (show ¬ q k = true by rw [HO]; simpa using hf)
        rw [← h2] at h3 h4
        have hx0 : ¬ x < 0 := by omega
        clear hf HO h2
        go_wp2_with fail
        (with_reducible refine (KM1.out _).mono ?_); rintro e w3 ⟨PA, pc, rfl, hKp⟩
        have hK4 := hK.join hKp
        clear hKp hK
        go_wp2_with fail
        (refine (KF1.out PA pc _ (hK4.rlIns).2).mono ?_); rintro e w5 ⟨rfl, hw⟩
        have hK5 := (hK4.keep hw).sel [1] 99 (by decide) (by decide)
        clear hK4 hw
        go_wp2_with fail
        go_roundw
        case rel =>
          have h2 : failsL q (k + 1) = ds := by rw [HSK.out, if_neg HQ.out]
          refine ⟨k + 1, A, c, by omega, by go_num, by rw [h2], ?_⟩
          rw [h2]
          exact hK5
        case measure => simp [intOf]; omega
    · have hk1 : ¬ (k : Int) ≤ (M : Int) := by omega
      have hkk : k = M + 1 := by omega
      have HX := Lib.hid (show failsL q (M + 1) = ds by rw [← hkk]; exact HD.out)
      clear hkk
      go_wp2_with fail
      go_ret2
      rw [HX.out]
      exact ⟨A, c, rfl, hK.sel [0] 99 (by decide) (by decide)⟩
end Go.Proofs.Ytkaaiocbiknipaa

namespace Go.Proofs.Ytkaaiocbiknipaa
open Go.RowKit Go.Sort
/-- a machine on which only the setting is not 0 -/
def freshT (t : Tri) (v : Int) : Tri := ⟨⟨t.a.base, digD t.a.base t.a.digits.length v⟩, ⟨t.a.base, digD t.a.base t.b.digits.length 0⟩, ⟨t.a.base, digD t.a.base t.s.digits.length 0⟩, 0⟩
set_option maxRecDepth 100000 in
set_option maxHeartbeats 1600000 in
theorem l12Fresh_any (g : Nat) (b : Int) (A1 A2 A3 : Option Addr) (n1 n2 n3 c1 c2 c3 : Nat) (v : Int) (w : World)
    (q1 : w.cell? ⟨g, 0, none⟩ = some (.int .i64 b)) (q2 : w.cell? ⟨g, 1, none⟩ = some (.slice A1 n1 c1)) (q4 : w.cell? ⟨g, 3, none⟩ = some (.slice A2 n2 c2)) (q6 : w.cell? ⟨g, 5, none⟩ = some (.slice A3 n3 c3))
    (b1 : 2 ≤ b) (b2 : b ≤ 16) (h1 : n1 ≤ 1000000) (h2 : n2 ≤ 1000000) (h3 : n3 ≤ 1000000) (v0 : 0 ≤ v) (v1 : v ≤ 9223372036854775807) :
    Calls Try.prog 121 #[.pointer (some ⟨g, 0, none⟩), .int .i64 v] w fun e w' => ∃ E1 g1 E2 g2 E3 g3, e = .returned (.agg #[.int .i64 b, .slice E1 (digD b n1 v).length g1, .int .i64 b, .slice E2 (digD b n2 0).length g2, .int .i64 b, .slice E3 (digD b n3 0).length g3, .int .i64 0]) ∧
      Kn w [rowI E3 g3 (digD b n3 0), rowI E2 g2 (digD b n2 0), rowI E1 g1 (digD b n1 v)] w' := by
  have hlt : g < w.heap.size := World.block_lt_of_cell? w _ q1
  have HP := Lib.hid (fun W (hW : Below w.heap.size w W) => (show W.cell? ⟨g, 0, none⟩ = some (.int .i64 b) ∧ W.cell? ⟨g, 1, none⟩ = some (.slice A1 n1 c1) ∧ W.cell? ⟨g, 3, none⟩ = some (.slice A2 n2 c2) ∧ W.cell? ⟨g, 5, none⟩ = some (.slice A3 n3 c3) from
    ⟨(hW.cell (p := ⟨g, 0, none⟩) hlt).trans q1, (hW.cell (p := ⟨g, 1, none⟩) hlt).trans q2, (hW.cell (p := ⟨g, 3, none⟩) hlt).trans q4, (hW.cell (p := ⟨g, 5, none⟩) hlt).trans q6⟩))
  have KN := (fun W => l10New_any b n1 n2 n3 W b1 b2 h1 h2 h3)
  have KV := (fun W => l02NewV_any b n1 v W b1 b2 h1 v0 v1)
  obtain ⟨x1, hx1⟩ : ∃ x, digD b n1 0 = x := ⟨_, rfl⟩
  obtain ⟨x2, hx2⟩ : ∃ x, digD b n2 0 = x := ⟨_, rfl⟩
  obtain ⟨x3, hx3⟩ : ∃ x, digD b n3 0 = x := ⟨_, rfl⟩
  obtain ⟨ds, hds⟩ : ∃ x, digD b n1 v = x := ⟨_, rfl⟩
  rw [hx1, hx2, hx3] at KN
  rw [hds] at KV
  rw [hx2, hx3, hds]
  have KN := Lib.hid KN
  have KV := Lib.hid KV
  clear hx1 hx2 hx3 hds q1 q2 q4 q6 hlt
  go_enter Try.func121, Try.ntmps121
  go_wp2_with fail
  have hK2 := (Kn.nil w).al [.int .i64 0, .slice none 0 0, .int .i64 0, .slice none 0 0, .int .i64 0, .slice none 0 0, .int .i64 0] 65
  generalize w.alloc (.cells #[.int .i64 0, .slice none 0 0, .int .i64 0, .slice none 0 0, .int .i64 0, .slice none 0 0, .int .i64 0] 65) = w2 at hK2 ⊢
  have HT := Lib.hid (HP.out _ hK2.drew.below)
  have HA := Lib.hid (HP.out _ (hK2.al [.int .i64 0, .slice none 0 0, .int .i64 0, .slice none 0 0, .int .i64 0, .slice none 0 0, .int .i64 0] 65).drew.below)
  have HS := HT
  go_cut [5] (fun pp wx => ∃ (g5 : Nat) (E1 : Option Addr) (g1 : Nat) (E2 : Option Addr) (g2 : Nat) (E3 : Option Addr) (g3 : Nat), pp = .pointer (some ⟨g5, 0, none⟩) ∧ Kn w [.blk g5 [.int .i64 b, .slice E1 x1.length g1, .int .i64 b, .slice E2 x2.length g2, .int .i64 b, .slice E3 x3.length g3, .int .i64 0] 65, rowI E3 g3 x3, rowI E2 g2 x2, rowI E1 g1 x1, .blk w.heap.size [.int .i64 0, .slice none 0 0, .int .i64 0, .slice none 0 0, .int .i64 0, .slice none 0 0, .int .i64 0] 65] wx)
  case first =>
    go_region_held3 (fun W => W.cell? ⟨g, 0, none⟩ = some (.int .i64 b) ∧ W.cell? ⟨g, 1, none⟩ = some (.slice A1 n1 c1) ∧ W.cell? ⟨g, 3, none⟩ = some (.slice A2 n2 c2) ∧ W.cell? ⟨g, 5, none⟩ = some (.slice A3 n3 c3))
      (first | with_reducible exact HT.out | with_reducible exact HA.out | with_reducible exact HS.out) (first
      | (go_at_call 181; (with_reducible refine (KN.out _).mono ?_); rintro e w4 ⟨E1, g1, E2, g2, E3, g3, rfl, hK⟩; clear HT HA; first
        | (have hK4 := hK2.drew.join hK; have HT := Lib.hid (HP.out _ hK4.below); have HA := Lib.hid (HP.out _ (hK4.al [.int .i64 0, .slice none 0 0, .int .i64 0, .slice none 0 0, .int .i64 0, .slice none 0 0, .int .i64 0] 65).below); have hK5 := hK4.al [.int .i64 b, .slice E1 x1.length g1, .int .i64 b, .slice E2 x2.length g2, .int .i64 b, .slice E3 x3.length g3, .int .i64 0] 65; have HS := Lib.hid (HP.out _ hK5.below))
        | (have hK4 := (hK2.al [.int .i64 0, .slice none 0 0, .int .i64 0, .slice none 0 0, .int .i64 0, .slice none 0 0, .int .i64 0] 65).drew.join hK; have HT := Lib.hid (HP.out _ hK4.below); obtain ⟨p1, p2, p3⟩ := hK4.drop.drop.drop.blkAt; have HA := HT; have hK5 := ((((((hK4.sw3.st 0 (.int .i64 b)).st 1 (.slice E1 x1.length g1)).st 2 (.int .i64 b)).st 3 (.slice E2 x2.length g2)).st 4 (.int .i64 b)).st 5 (.slice E3 x3.length g3)).st 6 (.int .i64 0); have HS := Lib.hid (HP.out _ hK5.below))))
    all_goals
      go_wp2_with fail
      go_meet
      exact ⟨_, _, _, _, _, _, _, rfl, hK5⟩
  case rest =>
    obtain ⟨g5, E1, g1, E2, g2, E3, g3, rfl, hK5⟩ := hcut
    clear HT HA HS hK2 KN
    go_wp2_with fail
    have HT := Lib.hid (HP.out _ hK5.drew.below)
    have HA := Lib.hid (HP.out _ (hK5.al [.int .i64 0, .slice none 0 0] 26).drew.below)
    have HS := HT
    go_cut [6] (fun pp wx => ∃ (g6 : Nat) (F : Option Addr) (f : Nat), pp = .pointer (some ⟨g6, 0, none⟩) ∧ Kn w [.blk g6 [.int .i64 b, .slice F ds.length f] 26, rowI F f ds, .blk g5 [.int .i64 b, .slice E1 x1.length g1, .int .i64 b, .slice E2 x2.length g2, .int .i64 b, .slice E3 x3.length g3, .int .i64 0] 65, rowI E3 g3 x3, rowI E2 g2 x2, rowI E1 g1 x1, .blk w.heap.size [.int .i64 0, .slice none 0 0, .int .i64 0, .slice none 0 0, .int .i64 0, .slice none 0 0, .int .i64 0] 65] wx)
    case first =>
      go_region_held3 (fun W => W.cell? ⟨g, 0, none⟩ = some (.int .i64 b) ∧ W.cell? ⟨g, 1, none⟩ = some (.slice A1 n1 c1) ∧ W.cell? ⟨g, 3, none⟩ = some (.slice A2 n2 c2) ∧ W.cell? ⟨g, 5, none⟩ = some (.slice A3 n3 c3))
        (first | with_reducible exact HT.out | with_reducible exact HA.out | with_reducible exact HS.out) (first
        | (go_at_call 93; (with_reducible refine (KV.out _).mono ?_); rintro e w4 ⟨F, f, rfl, hK⟩; clear HT HA; first
          | (have hK6 := hK5.drew.join hK; have HT := Lib.hid (HP.out _ hK6.below); have HA := Lib.hid (HP.out _ (hK6.al [.int .i64 0, .slice none 0 0] 26).below); have hK7 := hK6.al [.int .i64 b, .slice F ds.length f] 26; have HS := Lib.hid (HP.out _ hK7.below))
          | (have hK6 := (hK5.al [.int .i64 0, .slice none 0 0] 26).drew.join hK; have HT := Lib.hid (HP.out _ hK6.below); obtain ⟨p1, p2, p3⟩ := hK6.drop.blkAt; have HA := HT; have hK7 := (hK6.sw1.st 0 (.int .i64 b)).st 1 (.slice F ds.length f); have HS := Lib.hid (HP.out _ hK7.below))))
      all_goals
        go_wp2_with fail
        go_meet
        exact ⟨_, _, _, rfl, hK7⟩
    case rest =>
      obtain ⟨g6, F, f, rfl, hK7⟩ := hcut
      clear HT HA HS hK5 KV HP
      obtain ⟨a1, a2, a3, d1, d2, d3, c1', c2', c3', -⟩ := hK7.cells
      have ne1 := hK7.ne 2 6 rfl rfl (by decide)
      have ne2 := ne1.symm
      go_wp2_with fail
      refine bodyPost.kn ((((((((((hK7.front 2 rfl).st 0 (.int .i64 b)).st 1 (.slice F ds.length f)).front 6 rfl).st 0 (.int .i64 b)).st 1 (.slice F ds.length f)).st 2 (.int .i64 b)).st 3 (.slice E2 x2.length g2)).st 4 (.int .i64 b)).st 5 (.slice E3 x3.length g3) |>.st 6 (.int .i64 0)) ?_; intro w8 hK8
      clear a1 a2 a3 d1 d2 d3 c1' c2' c3'
      obtain ⟨a1, a2, a3, -⟩ := hK8.cells
      refine bodyPost_ret (v := .agg #[.int .i64 b, .slice F ds.length f, .int .i64 b, .slice E2 x2.length g2, .int .i64 b, .slice E3 x3.length g3, .int .i64 0]) (by simp [results, Try.results121, go_sem, a1]) rfl ⟨F, f, E2, g2, E3, g3, rfl, ?_⟩
      exact hK8.sel [4, 5, 3] 99 (by decide) (by decide)
end Go.Proofs.Ytkaaiocbiknipaa

namespace Go.Proofs.Ytkaaiocbiknipaa
open Go.RowKit Go.Sort
def dvStart (t : Tri) (x y : Int) : Tri := ⟨⟨t.a.base, digD t.a.base t.a.digits.length y⟩, ⟨t.b.base, digD t.b.base t.b.digits.length x⟩, ⟨t.s.base, digD t.s.base t.s.digits.length 0⟩, 0⟩
def dvC (t : Tri) (x y : Int) : Int :=
  if vmach t = false then 1 else if betB x 0 (pw t.b.base t.b.digits.length - 1) = false then 2 else if betB y 1 (pw t.a.base t.a.digits.length - 1) = false then 2 else if pw t.a.base (vplaces t).toNat ≤ x.tdiv y then 5 else 0
noncomputable def dvEnd (t : Tri) (x y : Int) : RS := endR (divProg (vplaces t).toNat) (dvStart t x y)
noncomputable def dvQ (t : Tri) (x y : Int) : Int := if dvC t x y = 0 then (pw t.s.base t.s.digits.length - valL (dvEnd t x y).m.s.base (dvEnd t x y).m.s.digits).tmod (pw t.s.base t.s.digits.length) else 0
noncomputable def dvR (t : Tri) (x y : Int) : Int := if dvC t x y = 0 then valL (dvEnd t x y).m.b.base (dvEnd t x y).m.b.digits else 0
noncomputable def dvN (t : Tri) (x y : Int) : Int := if dvC t x y = 0 then ((dvEnd t x y).tr.length : Int) else 0
def DVRet (t : Tri) (x y : Int) (w : World) (e : Ending) (w' : World) : Prop := e = .returned (.tuple #[.int .i64 (dvQ t x y), .int .i64 (dvR t x y), .int .i64 (dvN t x y), .int .i64 (dvC t x y)]) ∧ Below w.heap.size w w'
theorem dv_code {t : Tri} {x y c : Int} (h : dvC t x y = c) (hc : ¬ c = 0) : dvQ t x y = 0 ∧ dvR t x y = 0 ∧ dvN t x y = 0 ∧ dvC t x y = c := by
  refine ⟨?_, ?_, ?_, h⟩
  · unfold dvQ; rw [h, if_neg hc]
  · unfold dvR; rw [h, if_neg hc]
  · unfold dvN; rw [h, if_neg hc]
theorem dv_fine {t : Tri} {x y : Int} (h : dvC t x y = 0) {s : RS} {b : Bool} (he : Ev (divProg (vplaces t).toNat) (.run 0 (divProg (vplaces t).toNat).length) (startR (dvStart t x y)) s b) :
    dvQ t x y = (pw t.s.base t.s.digits.length - valL s.m.s.base s.m.s.digits).tmod (pw t.s.base t.s.digits.length) ∧ dvR t x y = valL s.m.b.base s.m.b.digits ∧ dvN t x y = (s.tr.length : Int) ∧ dvC t x y = 0 := by
  have h1 : dvEnd t x y = s := endR_eq he
  refine ⟨?_, ?_, ?_, h⟩
  · unfold dvQ; rw [h, h1, if_pos rfl]
  · unfold dvR; rw [h, h1, if_pos rfl]
  · unfold dvN; rw [h, h1, if_pos rfl]
theorem dvStart_ok {t : Tri} {x y : Int} (hv : vmach t = true) (hx : betB x 0 (pw t.b.base t.b.digits.length - 1) = true) (hy : betB y 1 (pw t.a.base t.a.digits.length - 1) = true) : vmach (dvStart t x y) = true := by
  obtain ⟨k1, k2, k3, e1, e2, f1, f2, l1, p0, p1⟩ := vmach_all hv
  obtain ⟨⟨b1, b2⟩, ⟨n1, n2⟩, -⟩ := vreg_iff.1 k1
  obtain ⟨⟨b3, b4⟩, ⟨n3, n4⟩, -⟩ := vreg_iff.1 k2
  obtain ⟨⟨b5, b6⟩, ⟨n5, n6⟩, -⟩ := vreg_iff.1 k3
  have hx' := betB_iff.1 hx
  have hy' := betB_iff.1 hy
  have hm := pw_mono t.a.base (by omega) _ _ l1
  rw [← e1] at f1
  rw [← e1] at hx'
  refine vmach_mk (t := dvStart t x y) (digD_vreg _ b1 b2 _ (by omega) (by omega) y (by omega) (by omega) (by omega)) (digD_vreg _ b3 b4 _ (by omega) (by omega) x (by omega) (by rw [← e1]; omega) (by omega)) (zero_ok k3) e1 e2 ?_ ?_ ?_ (by simp [dvStart]) ?_
  · simp only [dvStart, digD_len]; rw [← e1]; exact f1
  · simp only [dvStart, digD_len]; exact f2
  · simp only [dvStart, digD_len]; exact l1
  · simp only [dvStart, vplaces, digD_len]; unfold vplaces at p1; omega
theorem vplaces_bd {t : Tri} (hv : vmach t = true) : 1 ≤ (vplaces t).toNat ∧ (vplaces t).toNat ≤ 16 ∧ ((vplaces t).toNat : Int) = vplaces t ∧ pw t.a.base (vplaces t).toNat ≤ 1000000000001 ∧ 1 ≤ pw t.a.base (vplaces t).toNat := by
  obtain ⟨k1, k2, k3, e1, e2, f1, f2, l1, p0, p1⟩ := vmach_all hv
  obtain ⟨⟨b1, b2⟩, ⟨n1, n2⟩, -⟩ := vreg_iff.1 k1
  obtain ⟨-, ⟨n5, n6⟩, -⟩ := vreg_iff.1 k3
  have h1 : vplaces t ≤ t.s.digits.length := by unfold vplaces; omega
  have hm := pw_mono t.a.base b1 (vplaces t).toNat t.s.digits.length (by omega)
  rw [e2] at f2
  rw [← e1] at f2
  exact ⟨by omega, by omega, by omega, by omega, pw_pos _ b1 _⟩
set_option maxRecDepth 100000 in
set_option maxHeartbeats 3200000 in
theorem DivideOn_any (t : Tri) (A1 A2 A3 : Option Addr) (c1 c2 c3 : Nat) (x y : Int) (w : World) (r1 : RI w A1 t.a.digits.length t.a.digits) (r2 : RI w A2 t.b.digits.length t.b.digits) (r3 : RI w A3 t.s.digits.length t.s.digits) (hs : SmallTri t) :
    Calls Try.prog 45 #[.agg #[.int .i64 t.a.base, .slice A1 t.a.digits.length c1, .int .i64 t.b.base, .slice A2 t.b.digits.length c2, .int .i64 t.s.base, .slice A3 t.s.digits.length c3, .int .i64 t.carry], .int .i64 x, .int .i64 y] w (DVRet t x y w) := by
  have KV := (fun W (hW : Below w.heap.size w W) => ValidMachine_any t A1 A2 A3 c1 c2 c3 W (r1.below hW) (r2.below hW) (r3.below hW) hs)
  rcases hv : vmach t with _ | _
  · rw [hv] at KV
    have HB := Lib.hid (dv_code (t := t) (x := x) (y := y) (c := 1) (by unfold dvC; rw [if_pos hv]) (by decide))
    have KV := Lib.hid KV
    clear hv r1 r2 r3 hs
    go_enter Try.func45, Try.ntmps45
    go_wp2_with fail
    refine Calls.kn ((Kn.nil w).al [.int .i64 t.a.base, .slice A1 t.a.digits.length c1, .int .i64 t.b.base, .slice A2 t.b.digits.length c2, .int .i64 t.s.base, .slice A3 t.s.digits.length c3, .int .i64 t.carry] 65) ?_; intro w1 hK0
    refine (KV.out _ hK0.below).mono ?_; rintro e w2 ⟨rfl, hw⟩
    have hK1 := hK0.keep hw
    go_wp2_with fail
    refine bodyPost_ret (v := .tuple #[.int .i64 0, .int .i64 0, .int .i64 0, .int .i64 1]) (by simp [results, Try.results45, go_sem]) rfl ⟨?_, hK1.below⟩
    rw [HB.out.1, HB.out.2.1, HB.out.2.2.1, HB.out.2.2.2]
  obtain ⟨k1, k2, k3, e1, e2, f1, f2, l1, p0, p1⟩ := vmach_all hv
  obtain ⟨⟨b1, b2⟩, ⟨n1, n2⟩, -⟩ := vreg_iff.1 k1
  obtain ⟨⟨b3, b4⟩, ⟨n3, n4⟩, -⟩ := vreg_iff.1 k2
  obtain ⟨⟨b5, b6⟩, ⟨n5, n6⟩, -⟩ := vreg_iff.1 k3
  have hmo := pw_mono t.a.base b1 _ _ l1
  rw [e1] at hmo
  have pb := pw_pos t.b.base b3 t.b.digits.length
  have pa := pw_pos t.a.base b1 t.a.digits.length
  rw [← e1] at hmo
  have pa2 : pw t.a.base t.a.digits.length ≤ 1000000000001 := by rw [e1] at hmo ⊢; omega
  have KN2 := (fun W => values_any t.b.base A2 t.b.digits.length c2 W b3 b4 (by omega))
  have hp2 : powC t.b.base t.b.digits.length = pw t.b.base t.b.digits.length := by unfold powC; rw [if_pos f1]
  rw [hp2] at KN2
  have KN1 := (fun W => values_any t.a.base A1 t.a.digits.length c1 W b1 b2 (by omega))
  have hp1 : powC t.a.base t.a.digits.length = pw t.a.base t.a.digits.length := by unfold powC; rw [if_pos pa2]
  rw [hp1] at KN1
  rw [hv] at KV
  have hC0 : dvC t x y = if betB x 0 (pw t.b.base t.b.digits.length - 1) = false then 2 else if betB y 1 (pw t.a.base t.a.digits.length - 1) = false then 2 else if pw t.a.base (vplaces t).toNat ≤ x.tdiv y then 5 else 0 := by unfold dvC; rw [if_neg (by rw [hv]; decide)]
  rcases hx : betB x 0 (pw t.b.base t.b.digits.length - 1) with _ | _
  · have KB := Lib.hid (fun W => calls_val (between_B x 0 (pw t.b.base t.b.digits.length - 1) W) (congrArg Value.bool hx))
    have HB := Lib.hid (dv_code (t := t) (x := x) (y := y) (c := 2) (by rw [hC0, if_pos hx]) (by decide))
    obtain ⟨N2, hN2⟩ : ∃ N, pw t.b.base t.b.digits.length = N := ⟨_, rfl⟩
    rw [hN2] at KN2 f1 pb
    have KB := KB.out
    rw [hN2] at KB
    have KB := Lib.hid KB
    have KV := Lib.hid KV
    have KN2 := Lib.hid KN2
    clear hv r1 r2 r3 hs k1 k2 k3 hx hN2 hmo pa2 pa hp1 hp2 hC0 KN1 e1 e2 f2 l1 p0 p1
    go_enter Try.func45, Try.ntmps45
    go_wp2_with fail
    refine Calls.kn ((Kn.nil w).al [.int .i64 t.a.base, .slice A1 t.a.digits.length c1, .int .i64 t.b.base, .slice A2 t.b.digits.length c2, .int .i64 t.s.base, .slice A3 t.s.digits.length c3, .int .i64 t.carry] 65) ?_; intro w1 hK0
    refine (KV.out _ hK0.below).mono ?_; rintro e w2 ⟨rfl, hw⟩
    have hK1 := hK0.keep hw
    clear hK0 hw
    obtain ⟨a1, a2, a3, -⟩ := hK1.cells
    go_wp2_with fail
    refine (KN2.out _).mono ?_; rintro e w3 ⟨rfl, hw⟩
    have hK2 := hK1.keep hw
    clear hK1 hw a1 a2 a3
    obtain ⟨a1, a2, a3, -⟩ := hK2.cells
    go_wp2_with fail
    refine (KB.out _).mono ?_; rintro e w4 ⟨rfl, hw⟩
    have hK3 := hK2.keep hw
    go_wp2_with fail
    refine bodyPost_ret (v := .tuple #[.int .i64 0, .int .i64 0, .int .i64 0, .int .i64 2]) (by simp [results, Try.results45, go_sem]) rfl ⟨?_, hK3.below⟩
    rw [HB.out.1, HB.out.2.1, HB.out.2.2.1, HB.out.2.2.2]
  have hx' := betB_iff.1 hx
  have KB := (fun W => calls_val (between_B x 0 (pw t.b.base t.b.digits.length - 1) W) (congrArg Value.bool hx))
  rcases hy : betB y 1 (pw t.a.base t.a.digits.length - 1) with _ | _
  · have KB2 := (fun W => calls_val (between_B y 1 (pw t.a.base t.a.digits.length - 1) W) (congrArg Value.bool hy))
    have HB := Lib.hid (dv_code (t := t) (x := x) (y := y) (c := 2) (by rw [hC0, if_neg (by rw [hx]; decide), if_pos hy]) (by decide))
    obtain ⟨N2, hN2⟩ : ∃ N, pw t.b.base t.b.digits.length = N := ⟨_, rfl⟩
    obtain ⟨N1, hN1⟩ : ∃ N, pw t.a.base t.a.digits.length = N := ⟨_, rfl⟩
    rw [hN2] at KN2 f1 pb KB
    rw [hN1] at KN1 pa pa2 KB2
    have KB := Lib.hid KB
    have KB2 := Lib.hid KB2
    have KV := Lib.hid KV
    have KN2 := Lib.hid KN2
    have KN1 := Lib.hid KN1
    clear hv r1 r2 r3 hs k1 k2 k3 hx hy hN2 hN1 hmo hp1 hp2 hC0 e1 e2 f2 l1 p0 p1 hx'
    go_enter Try.func45, Try.ntmps45
    go_wp2_with fail
    refine Calls.kn ((Kn.nil w).al [.int .i64 t.a.base, .slice A1 t.a.digits.length c1, .int .i64 t.b.base, .slice A2 t.b.digits.length c2, .int .i64 t.s.base, .slice A3 t.s.digits.length c3, .int .i64 t.carry] 65) ?_; intro w1 hK0
    refine (KV.out _ hK0.below).mono ?_; rintro e w2 ⟨rfl, hw⟩
    have hK1 := hK0.keep hw
    clear hK0 hw
    obtain ⟨a1, a2, a3, -⟩ := hK1.cells
    go_wp2_with fail
    refine (KN2.out _).mono ?_; rintro e w3 ⟨rfl, hw⟩
    have hK2 := hK1.keep hw
    clear hK1 hw a1 a2 a3
    obtain ⟨a1, a2, a3, -⟩ := hK2.cells
    go_wp2_with fail
    refine (KB.out _).mono ?_; rintro e w4 ⟨rfl, hw⟩
    have hK3 := hK2.keep hw
    clear hK2 hw a1 a2 a3
    obtain ⟨a1, a2, a3, -⟩ := hK3.cells
    go_wp2_with fail
    refine (KN1.out _).mono ?_; rintro e w5 ⟨rfl, hw⟩
    have hK4 := hK3.keep hw
    clear hK3 hw a1 a2 a3
    obtain ⟨a1, a2, a3, -⟩ := hK4.cells
    go_wp2_with fail
    refine (KB2.out _).mono ?_; rintro e w6 ⟨rfl, hw⟩
    have hK5 := hK4.keep hw
    clear hK4 hw a1 a2 a3
    go_wp2_with fail
    refine bodyPost_ret (v := .tuple #[.int .i64 0, .int .i64 0, .int .i64 0, .int .i64 2]) (by simp [results, Try.results45, go_sem]) rfl ⟨?_, hK5.below⟩
    rw [HB.out.1, HB.out.2.1, HB.out.2.2.1, HB.out.2.2.2]
  have hy' := betB_iff.1 hy
  have KB2 := (fun W => calls_val (between_B y 1 (pw t.a.base t.a.digits.length - 1) W) (congrArg Value.bool hy))
  obtain ⟨vp1, vp2, vp3, vp4, vp5⟩ := vplaces_bd hv
  have KP := (fun W (hW : Below w.heap.size w W) => places_any t A1 A2 A3 c1 c2 c3 W (r1.below hW) (r2.below hW) (r3.below hW) n2 n4 n6)
  have KW := (fun W => power_B t.a.base (vplaces t).toNat W b1 b2 (by omega))
  have hpw : powC t.a.base (vplaces t).toNat = pw t.a.base (vplaces t).toNat := by unfold powC; rw [if_pos vp4]
  rw [hpw, vp3] at KW
  have KD := (fun W => divideProgram_any (vplaces t).toNat W vp1 vp2)
  rw [vp3] at KD
  have hxy : 0 ≤ x.tdiv y ∧ x.tdiv y ≤ 1000000000001 := by
    rw [Int.tdiv_eq_ediv_of_nonneg hx'.1]
    have := Int.ediv_le_self y hx'.1
    exact ⟨Int.ediv_nonneg hx'.1 (by omega), by omega⟩
  have hqw : IntKind.i64.wrap (x.tdiv y) = x.tdiv y := wrapI64 (by omega)
  have ny1 : y ≠ 0 := by omega
  have ny2 : (y == 0) = false := by simp; omega
  have hC1 : dvC t x y = if pw t.a.base (vplaces t).toNat ≤ x.tdiv y then 5 else 0 := by rw [hC0, if_neg (by rw [hx]; decide), if_neg (by rw [hy]; decide)]
  have hst := dvStart_ok hv hx hy
  obtain ⟨N2, hN2⟩ : ∃ N, pw t.b.base t.b.digits.length = N := ⟨_, rfl⟩
  obtain ⟨N1, hN1⟩ : ∃ N, pw t.a.base t.a.digits.length = N := ⟨_, rfl⟩
  obtain ⟨PW, hPW⟩ : ∃ N, pw t.a.base (vplaces t).toNat = N := ⟨_, rfl⟩
  obtain ⟨PL, hPL⟩ : ∃ N, (vplaces t) = N := ⟨_, rfl⟩
  have hdq : pw t.a.base (vplaces t).toNat ≤ x.tdiv y ↔ PW ≤ x.tdiv y := by rw [hPW]
  rw [hN2] at KN2 f1 pb KB hx'
  rw [hN1] at KN1 pa pa2 KB2 hy'
  rw [hPW] at KW vp4 vp5
  obtain ⟨XY, hXY⟩ : ∃ q, x.tdiv y = q := ⟨_, rfl⟩
  have KC := (fun W => clearedM_any t A1 A2 A3 c1 c2 c3 W ⟨b1, b2⟩ ⟨b3, b4⟩ ⟨b5, b6⟩ (sized_of hv))
  have hszc : Sized (clrT t) := by have := sized_of hv; exact ⟨by simp only [clrT, digD_len]; exact this.a0, by simp only [clrT, digD_len]; exact this.b0, by simp only [clrT, digD_len]; exact this.s0, by simp only [clrT, digD_len]; exact this.a, by simp only [clrT, digD_len]; exact this.b, by simp only [clrT, digD_len]; exact this.s⟩
  have KS := (fun (B1 B2 B3 : Option Addr) (h1 h2 h3 : Nat) W q1 q2 q3 => withSetting_any (clrT t) B1 B2 B3 h1 h2 h3 y W q1 q2 q3 hszc b1 b2 (by omega) (by omega))
  have KX := (fun W => withValue_any t.b.base A2 t.b.digits.length c2 x W b3 b4 (by omega) (by omega) (by omega))
  simp only [clrT, digD_len, rowI] at KS KC KX
  have KN3 := (fun (A3 : Option Addr) (c3 : Nat) W => values_any t.s.base A3 t.s.digits.length c3 W b5 b6 (by omega))
  have hp3 : powC t.s.base t.s.digits.length = pw t.s.base t.s.digits.length := by unfold powC; rw [if_pos f2]
  rw [hp3] at KN3
  have p3 := pw_pos t.s.base b5 t.s.digits.length
  have KRP := (fun (LA : Option Addr) (lc : Nat) (E1 : Option Addr) (g1 : Nat) (E2 : Option Addr) (g2 : Nat) (E3 : Option Addr) (g3 : Nat) W q1 q2 q3 hq => runProgram_any (lc := lc) (LA := LA) (n := (divProg (vplaces t).toNat).length) (dvStart t x y) E1 E2 E3 g1 g2 g3 W q1 q2 q3 hst (divProg_ok vp1 vp2) hq)
  unfold RunPI at KRP
  simp only [dvStart, digD_len] at KRP
  have H5 := Lib.hid (fun (h : PW ≤ XY) => dv_code (t := t) (x := x) (y := y) (c := 5) (by rw [hC1, if_pos (hdq.2 (by rw [hXY]; exact h))]) (by decide))
  have H0 := Lib.hid (fun (h : ¬ PW ≤ XY) => show dvC t x y = 0 by rw [hC1, if_neg (fun h2 => h (by rw [← hXY]; exact hdq.1 h2))])
  have hdf := (fun (s : RS) (b : Bool) h he => dv_fine (t := t) (x := x) (y := y) (s := s) (b := b) h he)
  unfold dvStart at hdf
  obtain ⟨N3, hN3⟩ : ∃ N, pw t.s.base t.s.digits.length = N := ⟨_, rfl⟩
  rw [hN3] at KN3 f2 p3 hdf
  obtain ⟨ds, hds⟩ : ∃ l, digD t.a.base t.a.digits.length y = l := ⟨_, rfl⟩
  obtain ⟨es, hes⟩ : ∃ l, digD t.b.base t.b.digits.length x = l := ⟨_, rfl⟩
  obtain ⟨fs, hfs⟩ : ∃ l, digD t.s.base t.s.digits.length 0 = l := ⟨_, rfl⟩
  obtain ⟨zs, hzs⟩ : ∃ l, digD t.b.base t.b.digits.length 0 = l := ⟨_, rfl⟩
  obtain ⟨ys, hys⟩ : ∃ l, digD t.a.base t.a.digits.length 0 = l := ⟨_, rfl⟩
  obtain ⟨ok, hok⟩ : ∃ l, (restD t.a.base t.a.digits.length y == 0) = l := ⟨_, rfl⟩
  obtain ⟨LP, hLP⟩ : ∃ l, divProg (vplaces t).toNat = l := ⟨_, rfl⟩
  rw [hds, hes, hfs] at KRP hdf
  rw [hLP] at KRP KD hdf
  rw [hfs, hzs, hds, hys, hok] at KS
  rw [hfs, hzs, hys] at KC
  rw [hes] at KX
  rw [hPL] at KP KW KD
  have hplb : 0 ≤ PL ∧ PL ≤ 16 := by omega
  rw [hXY] at hqw hxy
  have HQW := Lib.hid hqw
  clear hqw
  have KB := Lib.hid KB
  have KB2 := Lib.hid KB2
  have KV := Lib.hid KV
  have KN2 := Lib.hid KN2
  have KN1 := Lib.hid KN1
  have KN3 := Lib.hid KN3
  have KP := Lib.hid KP
  have KW := Lib.hid KW
  have KD := Lib.hid KD
  have KC := Lib.hid KC
  have KS := Lib.hid KS
  have KX := Lib.hid KX
  have KRP := Lib.hid KRP
  have HDF := Lib.hid hdf
  have HXY := Lib.hid hXY
  clear hv r1 r2 r3 hs k1 k2 k3 hx hy hN2 hN1 hN3 hmo hp1 hp2 hp3 hC0 hC1 e1 e2 l1 p0 p1 hPW hPL hdq hXY hszc hst hdf hds hes hfs hzs hys hok hLP vp1 vp2 vp3 hpw
  go_enter Try.func45, Try.ntmps45
  go_wp2_with fail
  refine Calls.kn ((Kn.nil w).al [.int .i64 t.a.base, .slice A1 t.a.digits.length c1, .int .i64 t.b.base, .slice A2 t.b.digits.length c2, .int .i64 t.s.base, .slice A3 t.s.digits.length c3, .int .i64 t.carry] 65) ?_; intro w1 hK0
  refine (KV.out _ hK0.below).mono ?_; rintro e w2 ⟨rfl, hw⟩
  have hK1 := hK0.keep hw
  clear hK0 hw
  obtain ⟨a1, a2, a3, -⟩ := hK1.cells
  go_wp2_with fail
  refine (KN2.out _).mono ?_; rintro e w3 ⟨rfl, hw⟩
  have hK2 := hK1.keep hw
  clear hK1 hw a1 a2 a3
  obtain ⟨a1, a2, a3, -⟩ := hK2.cells
  go_wp2_with fail
  refine (KB.out _).mono ?_; rintro e w4 ⟨rfl, hw⟩
  have hK3 := hK2.keep hw
  clear hK2 hw a1 a2 a3
  obtain ⟨a1, a2, a3, -⟩ := hK3.cells
  go_wp2_with fail
  refine (KN1.out _).mono ?_; rintro e w5 ⟨rfl, hw⟩
  have hK4 := hK3.keep hw
  clear hK3 hw a1 a2 a3
  obtain ⟨a1, a2, a3, -⟩ := hK4.cells
  go_wp2_with fail
  refine (KB2.out _).mono ?_; rintro e w6 ⟨rfl, hw⟩
  have hK5 := hK4.keep hw
  clear hK4 hw a1 a2 a3
  go_wp2_with fail
  have HG := Lib.hid (box7 hK5.drew)
  go_cut [43] (fun bb wx => bb = .bool (decide (PW ≤ XY)) ∧ Kn w [.blk w.heap.size [.int .i64 t.a.base, .slice A1 t.a.digits.length c1, .int .i64 t.b.base, .slice A2 t.b.digits.length c2, .int .i64 t.s.base, .slice A3 t.s.digits.length c3, .int .i64 t.carry] 65] wx)
  case first =>
    go_region_held3 (fun W => W.cell? ⟨w.heap.size, 0, none⟩ = some (.int .i64 t.a.base) ∧ W.cell? ⟨w.heap.size, 1, none⟩ = some (.slice A1 t.a.digits.length c1) ∧ W.cell? ⟨w.heap.size, 2, none⟩ = some (.int .i64 t.b.base) ∧ W.cell? ⟨w.heap.size, 3, none⟩ = some (.slice A2 t.b.digits.length c2) ∧ W.cell? ⟨w.heap.size, 4, none⟩ = some (.int .i64 t.s.base) ∧ W.cell? ⟨w.heap.size, 5, none⟩ = some (.slice A3 t.s.digits.length c3) ∧ W.cell? ⟨w.heap.size, 6, none⟩ = some (.int .i64 t.carry)) (first | with_reducible exact HG.out | exact HG.out) (first
      | (go_at_call 129; (with_reducible refine (KP.out _ hK5.drew.below).mono ?_); rintro e w7 ⟨rfl, hw⟩; have hK6 := hK5.drew.keep hw; clear HG; have HG := Lib.hid (box7 hK6))
      | (go_at_call 128; (with_reducible refine (KW.out _).mono ?_); rintro e w8 ⟨rfl, hw⟩; have hK7 := hK6.keep hw; clear HG; have HG := Lib.hid (box7 hK7)))
    all_goals
      go_wp2_with fail
      go_meet
      exact ⟨by rw [HXY.out, HQW.out], hK7⟩
  case rest =>
    obtain ⟨rfl, hK8⟩ := hcut
    clear HG hK5
    obtain ⟨a1, a2, a3, -⟩ := hK8.cells
    rcases hle : decide (PW ≤ XY) with _ | _
    rotate_left
    · have HB := Lib.hid (H5.out (of_decide_eq_true hle))
      clear hle
      go_wp2_with fail
      refine bodyPost_ret (v := .tuple #[.int .i64 0, .int .i64 0, .int .i64 0, .int .i64 5]) (by simp [results, Try.results45, go_sem]) rfl ⟨?_, hK8.below⟩
      rw [HB.out.1, HB.out.2.1, HB.out.2.2.1, HB.out.2.2.2]
    have HZ := Lib.hid (H0.out (by simpa using hle))
    clear hle
    go_wp2_with fail
    refine (KC.out _).mono ?_; rintro e w9 ⟨B1, h1, B2, h2, B3, h3, rfl, hKc⟩
    have hK9 : Kn w [rowN B3 t.s.digits.length h3 fs, rowN B2 t.b.digits.length h2 zs, rowN B1 t.a.digits.length h1 ys, .blk w.heap.size [.int .i64 t.a.base, .slice A1 t.a.digits.length c1, .int .i64 t.b.base, .slice A2 t.b.digits.length c2, .int .i64 t.s.base, .slice A3 t.s.digits.length c3, .int .i64 t.carry] 65] w9 := hK8.join hKc
    clear hK8 hKc a1 a2 a3
    obtain ⟨a1, a2, a3, -⟩ := hK9.cells
    go_wp2_with fail
    refine (KS.out _ _ _ _ _ _ _ (Kn.riN hK9.drop.drop) (Kn.riN hK9.drop) (Kn.riN hK9)).mono ?_; rintro e w10 ⟨E1, g1, E2, g2, E3, g3, rfl, hKs⟩
    have hK10 : Kn w [rowN E3 t.s.digits.length g3 fs, rowN E2 t.b.digits.length g2 zs, rowN E1 t.a.digits.length g1 ds, .blk w.heap.size [.int .i64 t.a.base, .slice A1 t.a.digits.length c1, .int .i64 t.b.base, .slice A2 t.b.digits.length c2, .int .i64 t.s.base, .slice A3 t.s.digits.length c3, .int .i64 t.carry] 65] w10 := (hK9.drop.drop.drop).join hKs
    clear hK9 hKs a1 a2 a3
    obtain ⟨a1, a2, a3, -⟩ := hK10.cells
    go_wp2_with fail
    refine Calls.kn (hK10.al [.int .i64 t.a.base, .slice E1 t.a.digits.length g1, .int .i64 t.b.base, .slice E2 t.b.digits.length g2, .int .i64 t.s.base, .slice E3 t.s.digits.length g3, .int .i64 0] 65) ?_; intro w11 hK11
    refine (KX.out _).mono ?_; rintro e w12 ⟨F, f, rfl, hKx⟩
    have hK12 : Kn w [rowN F t.b.digits.length f es, .blk w10.heap.size [.int .i64 t.a.base, .slice E1 t.a.digits.length g1, .int .i64 t.b.base, .slice E2 t.b.digits.length g2, .int .i64 t.s.base, .slice E3 t.s.digits.length g3, .int .i64 0] 65, rowN E3 t.s.digits.length g3 fs, rowN E2 t.b.digits.length g2 zs, rowN E1 t.a.digits.length g1 ds, .blk w.heap.size [.int .i64 t.a.base, .slice A1 t.a.digits.length c1, .int .i64 t.b.base, .slice A2 t.b.digits.length c2, .int .i64 t.s.base, .slice A3 t.s.digits.length c3, .int .i64 t.carry] 65] w12 := hK11.join hKx
    clear hK10 hK11 hKx a1 a2 a3
    obtain ⟨d1, d2, d3, a1, a2, a3, -⟩ := hK12.cells
    go_wp2_with fail
    refine Code.wp.kn ((hK12.sw1.st 2 (.int .i64 t.b.base)).st 3 (.slice F t.b.digits.length f)) ?_; intro w13 hK13
    have hK14 : Kn w [.blk w10.heap.size [.int .i64 t.a.base, .slice E1 t.a.digits.length g1, .int .i64 t.b.base, .slice F t.b.digits.length f, .int .i64 t.s.base, .slice E3 t.s.digits.length g3, .int .i64 0] 65, .blk w.heap.size [.int .i64 t.a.base, .slice A1 t.a.digits.length c1, .int .i64 t.b.base, .slice A2 t.b.digits.length c2, .int .i64 t.s.base, .slice A3 t.s.digits.length c3, .int .i64 t.carry] 65, rowN F t.b.digits.length f es, rowN E3 t.s.digits.length g3 fs, rowN E1 t.a.digits.length g1 ds] w13 := hK13.sel [0, 5, 1, 2, 4] 99 (by decide) (by decide)
    clear hK12 hK13 d1 d2 d3 a1 a2 a3
    go_wp2_with fail
    have HG := Lib.hid (And.intro (box7at hK14.drew 0 rfl) (box7at hK14.drew 1 rfl))
    go_cut [12] (fun pp wx => ∃ (g : Nat) (s : RS) (b' : Bool) (LV : Value) (SA : Option Addr) (sc : Nat) (M1 : Option Addr) (j1 : Nat) (M2 : Option Addr) (j2 : Nat) (M3 : Option Addr) (j3 : Nat), pp = .pointer (some ⟨g, 0, none⟩) ∧ Ev LP (.run 0 LP.length) (startR ⟨⟨t.a.base, ds⟩, ⟨t.b.base, es⟩, ⟨t.s.base, fs⟩, 0⟩) s b' ∧ s.Good ∧
      Kn w [.blk g [.int .i64 s.m.a.base, .slice M1 s.m.a.digits.length j1, .int .i64 s.m.b.base, .slice M2 s.m.b.digits.length j2, .int .i64 s.m.s.base, .slice M3 s.m.s.digits.length j3, .int .i64 s.m.carry, LV, .int .i64 (s.done : Int), .slice SA s.tr.length sc, .int .i64 s.code] 153, rowI M3 j3 s.m.s.digits, rowI M2 j2 s.m.b.digits, .blk w.heap.size [.int .i64 t.a.base, .slice A1 t.a.digits.length c1, .int .i64 t.b.base, .slice A2 t.b.digits.length c2, .int .i64 t.s.base, .slice A3 t.s.digits.length c3, .int .i64 t.carry] 65] wx)
    case first =>
      go_region_held3 (fun W => (W.cell? ⟨w10.heap.size, 0, none⟩ = some (.int .i64 t.a.base) ∧ W.cell? ⟨w10.heap.size, 1, none⟩ = some (.slice E1 t.a.digits.length g1) ∧ W.cell? ⟨w10.heap.size, 2, none⟩ = some (.int .i64 t.b.base) ∧ W.cell? ⟨w10.heap.size, 3, none⟩ = some (.slice F t.b.digits.length f) ∧ W.cell? ⟨w10.heap.size, 4, none⟩ = some (.int .i64 t.s.base) ∧ W.cell? ⟨w10.heap.size, 5, none⟩ = some (.slice E3 t.s.digits.length g3) ∧ W.cell? ⟨w10.heap.size, 6, none⟩ = some (.int .i64 0)) ∧
          (W.cell? ⟨w.heap.size, 0, none⟩ = some (.int .i64 t.a.base) ∧ W.cell? ⟨w.heap.size, 1, none⟩ = some (.slice A1 t.a.digits.length c1) ∧ W.cell? ⟨w.heap.size, 2, none⟩ = some (.int .i64 t.b.base) ∧ W.cell? ⟨w.heap.size, 3, none⟩ = some (.slice A2 t.b.digits.length c2) ∧ W.cell? ⟨w.heap.size, 4, none⟩ = some (.int .i64 t.s.base) ∧ W.cell? ⟨w.heap.size, 5, none⟩ = some (.slice A3 t.s.digits.length c3) ∧ W.cell? ⟨w.heap.size, 6, none⟩ = some (.int .i64 t.carry)))
        (first | with_reducible exact HG.out | exact HG.out) (first
        | (go_at_call 129; (with_reducible refine (KP.out _ hK14.drew.below).mono ?_); rintro e w15 ⟨rfl, hw⟩; have hK15 := hK14.drew.keep hw; clear HG; have HG := Lib.hid (And.intro (box7at hK15 0 rfl) (box7at hK15 1 rfl)))
        | (go_at_call 134; (with_reducible refine (KD.out _).mono ?_); rintro e w16 ⟨LA, lc, rfl, hKd⟩; have hK16 : Kn w [rowIns (.slice LA LP.length lc) LP, .blk w10.heap.size [.int .i64 t.a.base, .slice E1 t.a.digits.length g1, .int .i64 t.b.base, .slice F t.b.digits.length f, .int .i64 t.s.base, .slice E3 t.s.digits.length g3, .int .i64 0] 65, .blk w.heap.size [.int .i64 t.a.base, .slice A1 t.a.digits.length c1, .int .i64 t.b.base, .slice A2 t.b.digits.length c2, .int .i64 t.s.base, .slice A3 t.s.digits.length c3, .int .i64 t.carry] 65, rowN F t.b.digits.length f es, rowN E3 t.s.digits.length g3 fs, rowN E1 t.a.digits.length g1 ds] w16 := hK15.join hKd; clear HG; have HG := Lib.hid (And.intro (box7at hK16 1 rfl) (box7at hK16 2 rfl)))
        | (go_at_call 133; refine (KRP.out _ _ _ _ _ _ _ _ _ (Kn.riN (hK16.sel [5] 99 (by decide) (by decide))) (Kn.riN (hK16.sel [3] 99 (by decide) (by decide))) (Kn.riN (hK16.sel [4] 99 (by decide) (by decide))) (Kn.rlIns hK16).2).mono ?_; rintro e w17 ⟨g, s, b', rfl, he, ⟨SA, sc, M1, j1, M2, j2, M3, j3, hKr⟩, hg⟩; have hK17 := hK16.join hKr; clear HG; have HG := Lib.hid (And.intro (box7at hK17 6 rfl) (box7at hK17 7 rfl))))
      all_goals
        go_wp2_with fail
        go_meet
        exact ⟨_, _, _, _, _, _, _, _, _, _, _, _, rfl, he, hg, hK17.sel [0, 1, 2, 7] 99 (by decide) (by decide)⟩
    case rest =>
      obtain ⟨g, s, b', LV, SA, sc, M1, j1, M2, j2, M3, j3, rfl, he, hg, hK18⟩ := hcut
      have HB := Lib.hid (HDF.out s b' HZ.out he)
      obtain ⟨k1, k2, k3, -, -, g1', g2', -⟩ := vmach_all hg.m
      obtain ⟨⟨y3, y4⟩, ⟨z3, z4⟩, yd2, -⟩ := vreg_iff.1 k2
      obtain ⟨⟨y5, y6⟩, ⟨z5, z6⟩, yd3, -⟩ := vreg_iff.1 k3
      have hv3 := (valL_bd s.m.s.base y5 s.m.s.digits (fun d h => (yd3 d h).1)).1
      have hv3' := valL_lt s.m.s.base y5 s.m.s.digits yd3
      have KVC := Lib.hid (fun W (h : RI W M3 s.m.s.digits.length s.m.s.digits) => value_any s.m.s.base M3 s.m.s.digits.length j3 s.m.s.digits W y5 y6 yd3 h (by omega))
      have KVR := Lib.hid (fun W (h : RI W M2 s.m.b.digits.length s.m.b.digits) => value_any s.m.b.base M2 s.m.b.digits.length j2 s.m.b.digits W y3 y4 yd2 h (by omega))
      obtain ⟨VC, hVC⟩ : ∃ v, valL s.m.s.base s.m.s.digits = v := ⟨_, rfl⟩
      obtain ⟨VR, hVR⟩ : ∃ v, valL s.m.b.base s.m.b.digits = v := ⟨_, rfl⟩
      have KVC := KVC.out
      have KVR := KVR.out
      have HB := HB.out
      rw [hVC] at KVC HB hv3 hv3'
      rw [hVR] at KVR HB
      have KVC := Lib.hid KVC
      have KVR := Lib.hid KVR
      have HB := Lib.hid HB
      have nz1 : N3 ≠ 0 := by omega
      have nz2 : (N3 == 0) = false := by simp; omega
      have hwq := wrapI64 (n := N3 - VC) (by omega)
      clear HG hK14 KP KD KRP k1 k2 k3 hVC hVR y3 y4 y5 y6 yd2 yd3 he hg
      obtain ⟨d1, d2, d3, a1, a2, a3, -⟩ := hK18.cells
      go_wp2_with fail
      refine (KN3.out _ _ _).mono ?_; rintro e w19 ⟨rfl, hw⟩
      have hK19 := hK18.keep hw
      clear hK18 hw a1 a2 a3 d1 d2 d3
      obtain ⟨d1, d2, d3, a1, a2, a3, -⟩ := hK19.cells
      go_wp2_with fail
      refine (KVC.out _ hK19.drop.riv).mono ?_; rintro e w20 ⟨rfl, hw⟩
      have hK20 := hK19.keep hw
      clear hK19 hw a1 a2 a3 d1 d2 d3
      obtain ⟨d1, d2, d3, a1, a2, a3, -⟩ := hK20.cells
      go_wp2_with fail
      have HG := Lib.hid (And.intro (hK20.drew.cellIs 2 (.int .i64 s.m.b.base) rfl) (And.intro (hK20.drew.cellIs 3 (.slice M2 s.m.b.digits.length j2) rfl) (hK20.drew.cellIs 9 (.slice SA s.tr.length sc) rfl)))
      go_region_held3 (fun W => W.cell? ⟨g, 2, none⟩ = some (.int .i64 s.m.b.base) ∧ W.cell? ⟨g, 3, none⟩ = some (.slice M2 s.m.b.digits.length j2) ∧ W.cell? ⟨g, 9, none⟩ = some (.slice SA s.tr.length sc)) (first | with_reducible exact HG.out | exact HG.out) (first
        | (go_at_call 135; (with_reducible refine (KVR.out _ hK20.drew.drop.drop.riv).mono ?_); rintro e w21 ⟨rfl, hw⟩; have hK21 := hK20.drew.keep hw; clear HG; have HG := Lib.hid (And.intro (hK21.cellIs 2 (.int .i64 s.m.b.base) rfl) (And.intro (hK21.cellIs 3 (.slice M2 s.m.b.digits.length j2) rfl) (hK21.cellIs 9 (.slice SA s.tr.length sc) rfl)))))
      all_goals
        go_wp2_with fail
        refine bodyPost_ret (v := .tuple #[.int .i64 ((N3 - VC).tmod N3), .int .i64 VR, .int .i64 s.tr.length, .int .i64 0]) (by simp [results, Try.results45, go_sem]) rfl ⟨?_, hK21.below⟩
        rw [HB.out.1, HB.out.2.1, HB.out.2.2.1, HB.out.2.2.2]
end Go.Proofs.Ytkaaiocbiknipaa

namespace Go.Proofs.Ytkaaiocbiknipaa
open Go.RowKit Go.Sort
set_option maxRecDepth 100000 in
set_option maxHeartbeats 3200000 in
theorem specDivideOn_any (t : Tri) (A1 A2 A3 : Option Addr) (c1 c2 c3 : Nat) (x y : Int) (w : World) (r1 : RI w A1 t.a.digits.length t.a.digits) (r2 : RI w A2 t.b.digits.length t.b.digits) (r3 : RI w A3 t.s.digits.length t.s.digits) (hs : SmallTri t) :
    Calls Try.prog 43 #[.agg #[.int .i64 t.a.base, .slice A1 t.a.digits.length c1, .int .i64 t.b.base, .slice A2 t.b.digits.length c2, .int .i64 t.s.base, .slice A3 t.s.digits.length c3, .int .i64 t.carry], .int .i64 x, .int .i64 y] w (DVRet t x y w) := by
  have hTC : ∀ W, Kn w [.blk w.heap.size [.int .i64 t.a.base, .slice A1 t.a.digits.length c1, .int .i64 t.b.base, .slice A2 t.b.digits.length c2, .int .i64 t.s.base, .slice A3 t.s.digits.length c3, .int .i64 t.carry] 65] W → TriC W ⟨w.heap.size, 0, none⟩ t A1 c1 A2 c2 A3 c3 := fun W h => ⟨⟨h.blkAt.1 0, h.blkAt.1 1, h.blkAt.1 2, h.blkAt.1 3, h.blkAt.1 4, h.blkAt.1 5, h.blkAt.1 6⟩, r1.below h.below, r2.below h.below, r3.below h.below⟩
  have KV := (fun W (hW : Kn w [.blk w.heap.size [.int .i64 t.a.base, .slice A1 t.a.digits.length c1, .int .i64 t.b.base, .slice A2 t.b.digits.length c2, .int .i64 t.s.base, .slice A3 t.s.digits.length c3, .int .i64 t.carry] 65] W) => l10Ok_any ⟨w.heap.size, 0, none⟩ t W (hTC W hW).tri hs)
  rcases hv : vmach t with _ | _
  · rw [hv] at KV
    have HB := Lib.hid (dv_code (t := t) (x := x) (y := y) (c := 1) (by unfold dvC; rw [if_pos hv]) (by decide))
    have KV := Lib.hid KV
    clear hv r1 r2 r3 hs hTC
    go_enter Try.func43, Try.ntmps43
    go_wp2_with fail
    refine Calls.kn ((Kn.nil w).al [.int .i64 t.a.base, .slice A1 t.a.digits.length c1, .int .i64 t.b.base, .slice A2 t.b.digits.length c2, .int .i64 t.s.base, .slice A3 t.s.digits.length c3, .int .i64 t.carry] 65) ?_; intro w1 hK0
    refine (KV.out _ hK0).mono ?_; rintro e w2 ⟨rfl, q, rfl⟩
    have hK1 := hK0.drewN q
    generalize w1.drewN q = w2 at hK1 ⊢
    clear hK0
    obtain ⟨a1, a2, a3, -⟩ := hK1.cells
    go_wp2_with fail
    refine bodyPost_ret (v := .tuple #[.int .i64 0, .int .i64 0, .int .i64 0, .int .i64 1]) (by simp [results, Try.results43, go_sem]) rfl ⟨?_, hK1.below⟩
    rw [HB.out.1, HB.out.2.1, HB.out.2.2.1, HB.out.2.2.2]
  obtain ⟨k1, k2, k3, e1, e2, f1, f2, l1, p0, p1⟩ := vmach_all hv
  obtain ⟨⟨b1, b2⟩, ⟨n1, n2⟩, -⟩ := vreg_iff.1 k1
  obtain ⟨⟨b3, b4⟩, ⟨n3, n4⟩, -⟩ := vreg_iff.1 k2
  obtain ⟨⟨b5, b6⟩, ⟨n5, n6⟩, -⟩ := vreg_iff.1 k3
  have hmo := pw_mono t.a.base b1 _ _ l1
  rw [e1] at hmo
  have pb := pw_pos t.b.base b3 t.b.digits.length
  have pa := pw_pos t.a.base b1 t.a.digits.length
  rw [← e1] at hmo
  have pa2 : pw t.a.base t.a.digits.length ≤ 1000000000001 := by rw [e1] at hmo ⊢; omega
  have KN2 := (fun W (hW : Kn w [.blk w.heap.size [.int .i64 t.a.base, .slice A1 t.a.digits.length c1, .int .i64 t.b.base, .slice A2 t.b.digits.length c2, .int .i64 t.s.base, .slice A3 t.s.digits.length c3, .int .i64 t.carry] 65] W) => l12Room_any ⟨w.heap.size, 2, none⟩ t.b.base A2 t.b.digits.length c2 W ⟨hW.blkAt.1 2, hW.blkAt.1 3⟩ b3 b4 (by omega))
  have hp2 : powS t.b.base t.b.digits.length = pw t.b.base t.b.digits.length := by unfold powS; omega
  rw [hp2] at KN2
  have KN1 := (fun W (hW : Kn w [.blk w.heap.size [.int .i64 t.a.base, .slice A1 t.a.digits.length c1, .int .i64 t.b.base, .slice A2 t.b.digits.length c2, .int .i64 t.s.base, .slice A3 t.s.digits.length c3, .int .i64 t.carry] 65] W) => l12Room_any ⟨w.heap.size, 0, none⟩ t.a.base A1 t.a.digits.length c1 W ⟨hW.blkAt.1 0, hW.blkAt.1 1⟩ b1 b2 (by omega))
  have hp1 : powS t.a.base t.a.digits.length = pw t.a.base t.a.digits.length := by unfold powS; omega
  rw [hp1] at KN1
  rw [hv] at KV
  have hC0 : dvC t x y = if betB x 0 (pw t.b.base t.b.digits.length - 1) = false then 2 else if betB y 1 (pw t.a.base t.a.digits.length - 1) = false then 2 else if pw t.a.base (vplaces t).toNat ≤ x.tdiv y then 5 else 0 := by unfold dvC; rw [if_neg (by rw [hv]; decide)]
  have KB := (fun W => l00In_any x 0 (pw t.b.base t.b.digits.length - 1) W)
  have KB2 := (fun W => l00In_any y 1 (pw t.a.base t.a.digits.length - 1) W)
  rcases hx : betB x 0 (pw t.b.base t.b.digits.length - 1) with _ | _
  · have HB := Lib.hid (dv_code (t := t) (x := x) (y := y) (c := 2) (by rw [hC0, if_pos hx]) (by decide))
    rw [hx] at KB
    obtain ⟨N2, hN2⟩ : ∃ N, pw t.b.base t.b.digits.length = N := ⟨_, rfl⟩
    rw [hN2] at KN2 f1 pb KB
    have KB := Lib.hid KB
    have KV := Lib.hid KV
    have KN2 := Lib.hid KN2
    clear hv r1 r2 r3 hs k1 k2 k3 hx hN2 hmo pa2 pa hp1 hp2 hC0 KN1 KB2 e1 e2 f2 l1 p0 p1 hTC
    go_enter Try.func43, Try.ntmps43
    go_wp2_with fail
    refine Calls.kn ((Kn.nil w).al [.int .i64 t.a.base, .slice A1 t.a.digits.length c1, .int .i64 t.b.base, .slice A2 t.b.digits.length c2, .int .i64 t.s.base, .slice A3 t.s.digits.length c3, .int .i64 t.carry] 65) ?_; intro w1 hK0
    refine (KV.out _ hK0).mono ?_; rintro e w2 ⟨rfl, q, rfl⟩
    have hK1 := hK0.drewN q
    generalize w1.drewN q = w2 at hK1 ⊢
    clear hK0
    obtain ⟨a1, a2, a3, -⟩ := hK1.cells
    go_wp2_with fail
    refine (KN2.out _ hK1).mono ?_; rintro e w3 ⟨rfl, q, rfl⟩
    have hK2 := hK1.drewN q
    generalize w2.drewN q = w3 at hK2 ⊢
    clear hK1 a1 a2 a3
    obtain ⟨a1, a2, a3, -⟩ := hK2.cells
    go_wp2_with fail
    refine (KB.out _).mono ?_; rintro e w4 ⟨rfl, rfl⟩
    go_wp2_with fail
    refine bodyPost_ret (v := .tuple #[.int .i64 0, .int .i64 0, .int .i64 0, .int .i64 2]) (by simp [results, Try.results43, go_sem]) rfl ⟨?_, hK2.below⟩
    rw [HB.out.1, HB.out.2.1, HB.out.2.2.1, HB.out.2.2.2]
  have hx' := betB_iff.1 hx
  rw [hx] at KB
  rcases hy : betB y 1 (pw t.a.base t.a.digits.length - 1) with _ | _
  · have HB := Lib.hid (dv_code (t := t) (x := x) (y := y) (c := 2) (by rw [hC0, if_neg (by rw [hx]; decide), if_pos hy]) (by decide))
    rw [hy] at KB2
    obtain ⟨N2, hN2⟩ : ∃ N, pw t.b.base t.b.digits.length = N := ⟨_, rfl⟩
    obtain ⟨N1, hN1⟩ : ∃ N, pw t.a.base t.a.digits.length = N := ⟨_, rfl⟩
    rw [hN2] at KN2 f1 pb KB
    rw [hN1] at KN1 pa pa2 KB2
    have KB := Lib.hid KB
    have KB2 := Lib.hid KB2
    have KV := Lib.hid KV
    have KN2 := Lib.hid KN2
    have KN1 := Lib.hid KN1
    clear hv r1 r2 r3 hs k1 k2 k3 hx hy hN2 hN1 hmo hp1 hp2 hC0 e1 e2 f2 l1 p0 p1 hx' hTC
    go_enter Try.func43, Try.ntmps43
    go_wp2_with fail
    refine Calls.kn ((Kn.nil w).al [.int .i64 t.a.base, .slice A1 t.a.digits.length c1, .int .i64 t.b.base, .slice A2 t.b.digits.length c2, .int .i64 t.s.base, .slice A3 t.s.digits.length c3, .int .i64 t.carry] 65) ?_; intro w1 hK0
    refine (KV.out _ hK0).mono ?_; rintro e w2 ⟨rfl, q, rfl⟩
    have hK1 := hK0.drewN q
    generalize w1.drewN q = w2 at hK1 ⊢
    clear hK0
    obtain ⟨a1, a2, a3, -⟩ := hK1.cells
    go_wp2_with fail
    refine (KN2.out _ hK1).mono ?_; rintro e w3 ⟨rfl, q, rfl⟩
    have hK2 := hK1.drewN q
    generalize w2.drewN q = w3 at hK2 ⊢
    clear hK1 a1 a2 a3
    obtain ⟨a1, a2, a3, -⟩ := hK2.cells
    go_wp2_with fail
    refine (KB.out _).mono ?_; rintro e w4 ⟨rfl, rfl⟩
    go_wp2_with fail
    refine (KN1.out _ hK2).mono ?_; rintro e w5 ⟨rfl, q, rfl⟩
    have hK5 := hK2.drewN q
    generalize w3.drewN q = w5 at hK5 ⊢
    clear hK2 a1 a2 a3
    obtain ⟨a1, a2, a3, -⟩ := hK5.cells
    go_wp2_with fail
    refine (KB2.out _).mono ?_; rintro e w6 ⟨rfl, rfl⟩
    go_wp2_with fail
    refine bodyPost_ret (v := .tuple #[.int .i64 0, .int .i64 0, .int .i64 0, .int .i64 2]) (by simp [results, Try.results43, go_sem]) rfl ⟨?_, hK5.below⟩
    rw [HB.out.1, HB.out.2.1, HB.out.2.2.1, HB.out.2.2.2]
  have hy' := betB_iff.1 hy
  rw [hy] at KB2
  obtain ⟨vp1, vp2, vp3, vp4, vp5⟩ := vplaces_bd hv
  have KP := (fun W (hW : Kn w [.blk w.heap.size [.int .i64 t.a.base, .slice A1 t.a.digits.length c1, .int .i64 t.b.base, .slice A2 t.b.digits.length c2, .int .i64 t.s.base, .slice A3 t.s.digits.length c3, .int .i64 t.carry] 65] W) => l10Places_any ⟨w.heap.size, 0, none⟩ t W (hTC W hW).tri n2 n4 n6)
  have KW := (fun W => l10Power_any t.a.base (vplaces t).toNat W b1 b2 (by omega))
  have hpw : powS t.a.base (vplaces t).toNat = pw t.a.base (vplaces t).toNat := by unfold powS; omega
  rw [hpw, vp3] at KW
  have KD := (fun W => l12Divide_any (vplaces t).toNat W vp1 vp2)
  rw [vp3] at KD
  have hxy : 0 ≤ x.tdiv y ∧ x.tdiv y ≤ 1000000000001 := by
    rw [Int.tdiv_eq_ediv_of_nonneg hx'.1]
    have := Int.ediv_le_self y hx'.1
    exact ⟨Int.ediv_nonneg hx'.1 (by omega), by omega⟩
  have hqw : IntKind.i64.wrap (x.tdiv y) = x.tdiv y := wrapI64 (by omega)
  have ny1 : y ≠ 0 := by omega
  have ny2 : (y == 0) = false := by simp; omega
  have hC1 : dvC t x y = if pw t.a.base (vplaces t).toNat ≤ x.tdiv y then 5 else 0 := by rw [hC0, if_neg (by rw [hx]; decide), if_neg (by rw [hy]; decide)]
  have hst := dvStart_ok hv hx hy
  have KF : ∀ W, Kn w [.blk w.heap.size [.int .i64 t.a.base, .slice A1 t.a.digits.length c1, .int .i64 t.b.base, .slice A2 t.b.digits.length c2, .int .i64 t.s.base, .slice A3 t.s.digits.length c3, .int .i64 t.carry] 65] W → Calls Try.prog 121 #[.pointer (some ⟨w.heap.size, 0, none⟩), .int .i64 y] W fun e w' => ∃ E1 g1 E2 g2 E3 g3, e = .returned (.agg #[.int .i64 t.a.base, .slice E1 (digD t.a.base t.a.digits.length y).length g1, .int .i64 t.b.base, .slice E2 (digD t.b.base t.b.digits.length 0).length g2, .int .i64 t.s.base, .slice E3 (digD t.s.base t.s.digits.length 0).length g3, .int .i64 0]) ∧
      Kn W [rowI E3 g3 (digD t.s.base t.s.digits.length 0), rowI E2 g2 (digD t.b.base t.b.digits.length 0), rowI E1 g1 (digD t.a.base t.a.digits.length y)] w' := by
    intro W hW
    have := l12Fresh_any w.heap.size t.a.base A1 A2 A3 t.a.digits.length t.b.digits.length t.s.digits.length c1 c2 c3 y W (hW.blkAt.1 0) (hW.blkAt.1 1) (hW.blkAt.1 3) (hW.blkAt.1 5) b1 b2 (by omega) (by omega) (by omega) (by omega) (by omega)
    rw [e2, ← e1]
    exact this
  have KX := (fun W => l02NewV_any t.b.base t.b.digits.length x W b3 b4 (by omega) (by omega) (by omega))
  have KN3 := (fun W (h4 : W.cell? ⟨w.heap.size, 4, none⟩ = some (.int .i64 t.s.base)) (h5 : W.cell? ⟨w.heap.size, 5, none⟩ = some (.slice A3 t.s.digits.length c3)) => l12Room_any ⟨w.heap.size, 4, none⟩ t.s.base A3 t.s.digits.length c3 W ⟨h4, h5⟩ b5 b6 (by omega))
  have hp3 : powS t.s.base t.s.digits.length = pw t.s.base t.s.digits.length := by unfold powS; omega
  rw [hp3] at KN3
  have p3 := pw_pos t.s.base b5 t.s.digits.length
  have KRP := (fun (LA : Option Addr) (lc : Nat) (g0 : Nat) (E1 : Option Addr) (g1 : Nat) (E2 : Option Addr) (g2 : Nat) (E3 : Option Addr) (g3 : Nat) W q1 hq => l11Run_any (lc := lc) (LA := LA) (n := (divProg (vplaces t).toNat).length) g0 (dvStart t x y) E1 E2 E3 g1 g2 g3 W q1 hst (divProg_ok vp1 vp2) hq)
  unfold RunPS TriC at KRP
  simp only [dvStart, digD_len] at KRP
  have hdf := (fun (s : RS) (b : Bool) h he => dv_fine (t := t) (x := x) (y := y) (s := s) (b := b) h he)
  unfold dvStart at hdf
  simp only [digD_len, rowI] at KF KX
  obtain ⟨N2, hN2⟩ : ∃ N, pw t.b.base t.b.digits.length = N := ⟨_, rfl⟩
  obtain ⟨N1, hN1⟩ : ∃ N, pw t.a.base t.a.digits.length = N := ⟨_, rfl⟩
  obtain ⟨PW, hPW⟩ : ∃ N, pw t.a.base (vplaces t).toNat = N := ⟨_, rfl⟩
  obtain ⟨PL, hPL⟩ : ∃ N, (vplaces t) = N := ⟨_, rfl⟩
  have hdq : pw t.a.base (vplaces t).toNat ≤ x.tdiv y ↔ PW ≤ x.tdiv y := by rw [hPW]
  rw [hN2] at KN2 f1 pb KB hx'
  rw [hN1] at KN1 pa pa2 KB2 hy'
  rw [hPW] at KW vp4 vp5
  obtain ⟨XY, hXY⟩ : ∃ q, x.tdiv y = q := ⟨_, rfl⟩
  have H5 := Lib.hid (fun (h : PW ≤ XY) => dv_code (t := t) (x := x) (y := y) (c := 5) (by rw [hC1, if_pos (hdq.2 (by rw [hXY]; exact h))]) (by decide))
  have H0 := Lib.hid (fun (h : ¬ PW ≤ XY) => show dvC t x y = 0 by rw [hC1, if_neg (fun h2 => h (by rw [← hXY]; exact hdq.1 h2))])
  obtain ⟨N3, hN3⟩ : ∃ N, pw t.s.base t.s.digits.length = N := ⟨_, rfl⟩
  rw [hN3] at KN3 f2 p3 hdf
  obtain ⟨ds, hds⟩ : ∃ l, digD t.a.base t.a.digits.length y = l := ⟨_, rfl⟩
  obtain ⟨es, hes⟩ : ∃ l, digD t.b.base t.b.digits.length x = l := ⟨_, rfl⟩
  obtain ⟨fs, hfs⟩ : ∃ l, digD t.s.base t.s.digits.length 0 = l := ⟨_, rfl⟩
  obtain ⟨zs, hzs⟩ : ∃ l, digD t.b.base t.b.digits.length 0 = l := ⟨_, rfl⟩
  have dl : ds.length = t.a.digits.length := by rw [← hds, digD_len]
  have el : es.length = t.b.digits.length := by rw [← hes, digD_len]
  have fl : fs.length = t.s.digits.length := by rw [← hfs, digD_len]
  have zl : zs.length = t.b.digits.length := by rw [← hzs, digD_len]
  obtain ⟨LP, hLP⟩ : ∃ l, divProg (vplaces t).toNat = l := ⟨_, rfl⟩
  rw [hds, hes, hfs] at KRP hdf
  rw [hLP] at KRP KD hdf
  rw [hds, hzs, hfs] at KF
  rw [hes] at KX
  rw [hPL] at KP KW KD
  have hplb : 0 ≤ PL ∧ PL ≤ 16 := by omega
  rw [hXY] at hqw hxy
  have HQW := Lib.hid hqw
  have KB := Lib.hid KB
  have KB2 := Lib.hid KB2
  have KV := Lib.hid KV
  have KN2 := Lib.hid KN2
  have KN1 := Lib.hid KN1
  have KN3 := Lib.hid KN3
  have KP := Lib.hid KP
  have KW := Lib.hid KW
  have KD := Lib.hid KD
  have KF := Lib.hid KF
  have KX := Lib.hid KX
  have KRP := Lib.hid KRP
  have HDF := Lib.hid hdf
  have HXY := Lib.hid hXY
  have HDL := Lib.hid dl
  have HEL := Lib.hid el
  have HFL := Lib.hid fl
  clear hv r1 r2 r3 hs k1 k2 k3 hx hy hN2 hN1 hN3 hmo hp1 hp2 hp3 hC0 hC1 e1 e2 l1 p0 p1 hPW hPL hdq hXY hst hdf hds hes hfs hzs hLP vp1 vp2 vp3 hpw hTC hqw dl el fl zl
  go_enter Try.func43, Try.ntmps43
  go_wp2_with fail
  refine Calls.kn ((Kn.nil w).al [.int .i64 t.a.base, .slice A1 t.a.digits.length c1, .int .i64 t.b.base, .slice A2 t.b.digits.length c2, .int .i64 t.s.base, .slice A3 t.s.digits.length c3, .int .i64 t.carry] 65) ?_; intro w1 hK0
  refine (KV.out _ hK0).mono ?_; rintro e w2 ⟨rfl, q, rfl⟩
  have hK1 := hK0.drewN q
  generalize w1.drewN q = w2 at hK1 ⊢
  clear hK0
  obtain ⟨a1, a2, a3, -⟩ := hK1.cells
  go_wp2_with fail
  refine (KN2.out _ hK1).mono ?_; rintro e w3 ⟨rfl, q, rfl⟩
  have hK2 := hK1.drewN q
  generalize w2.drewN q = w3 at hK2 ⊢
  clear hK1 a1 a2 a3
  obtain ⟨a1, a2, a3, -⟩ := hK2.cells
  go_wp2_with fail
  refine (KB.out _).mono ?_; rintro e w4 ⟨rfl, rfl⟩
  go_wp2_with fail
  refine (KN1.out _ hK2).mono ?_; rintro e w5 ⟨rfl, q, rfl⟩
  have hK5 := hK2.drewN q
  generalize w3.drewN q = w5 at hK5 ⊢
  clear hK2 a1 a2 a3
  obtain ⟨a1, a2, a3, -⟩ := hK5.cells
  go_wp2_with fail
  refine (KB2.out _).mono ?_; rintro e w6 ⟨rfl, rfl⟩
  go_wp2_with fail
  refine (KP.out _ hK5).mono ?_; rintro e w7 ⟨rfl, q, rfl⟩
  have hK7 := hK5.drewN q
  generalize w5.drewN q = w7 at hK7 ⊢
  clear hK5 a1 a2 a3
  obtain ⟨a1, a2, a3, -⟩ := hK7.cells
  go_wp2_with fail
  have HG := Lib.hid (box7 hK7.drew)
  go_cut [43] (fun bb wx => bb = .bool (decide (PW ≤ XY)) ∧ Kn w [.blk w.heap.size [.int .i64 t.a.base, .slice A1 t.a.digits.length c1, .int .i64 t.b.base, .slice A2 t.b.digits.length c2, .int .i64 t.s.base, .slice A3 t.s.digits.length c3, .int .i64 t.carry] 65] wx)
  case first =>
    go_region_held3 (fun W => W.cell? ⟨w.heap.size, 0, none⟩ = some (.int .i64 t.a.base) ∧ W.cell? ⟨w.heap.size, 1, none⟩ = some (.slice A1 t.a.digits.length c1) ∧ W.cell? ⟨w.heap.size, 2, none⟩ = some (.int .i64 t.b.base) ∧ W.cell? ⟨w.heap.size, 3, none⟩ = some (.slice A2 t.b.digits.length c2) ∧ W.cell? ⟨w.heap.size, 4, none⟩ = some (.int .i64 t.s.base) ∧ W.cell? ⟨w.heap.size, 5, none⟩ = some (.slice A3 t.s.digits.length c3) ∧ W.cell? ⟨w.heap.size, 6, none⟩ = some (.int .i64 t.carry)) (first | with_reducible exact HG.out | exact HG.out) (first
      | (go_at_call 120; (with_reducible refine (KW.out _).mono ?_); rintro e w8 ⟨rfl, rfl⟩))
    all_goals
      go_wp2_with fail
      go_meet
      exact ⟨by rw [HXY.out, HQW.out], hK7.drew⟩
  case rest =>
    obtain ⟨rfl, hK8⟩ := hcut
    clear HG hK7
    obtain ⟨a1, a2, a3, -⟩ := hK8.cells
    rcases hle : decide (PW ≤ XY) with _ | _
    rotate_left
    · have HB := Lib.hid (H5.out (of_decide_eq_true hle))
      clear hle
      go_wp2_with fail
      refine bodyPost_ret (v := .tuple #[.int .i64 0, .int .i64 0, .int .i64 0, .int .i64 5]) (by simp [results, Try.results43, go_sem]) rfl ⟨?_, hK8.below⟩
      rw [HB.out.1, HB.out.2.1, HB.out.2.2.1, HB.out.2.2.2]
    have HZ := Lib.hid (H0.out (by simpa using hle))
    clear hle
    go_wp2_with fail
    refine (KF.out _ hK8).mono ?_; rintro e w9 ⟨E1, g1, E2, g2, E3, g3, rfl, hKc⟩
    have hK9 : Kn w [rowN E3 t.s.digits.length g3 fs, rowN E2 t.b.digits.length g2 zs, rowN E1 t.a.digits.length g1 ds, .blk w.heap.size [.int .i64 t.a.base, .slice A1 t.a.digits.length c1, .int .i64 t.b.base, .slice A2 t.b.digits.length c2, .int .i64 t.s.base, .slice A3 t.s.digits.length c3, .int .i64 t.carry] 65] w9 := hK8.join hKc
    clear hK8 hKc a1 a2 a3
    obtain ⟨a1, a2, a3, -⟩ := hK9.cells
    go_wp2_with fail
    refine Calls.kn (hK9.al [.int .i64 t.a.base, .slice E1 t.a.digits.length g1, .int .i64 t.b.base, .slice E2 t.b.digits.length g2, .int .i64 t.s.base, .slice E3 t.s.digits.length g3, .int .i64 0] 65) ?_; intro w11 hK11
    refine (KX.out _).mono ?_; rintro e w12 ⟨F, f, rfl, hKx⟩
    have hK12 : Kn w [rowN F t.b.digits.length f es, .blk w9.heap.size [.int .i64 t.a.base, .slice E1 t.a.digits.length g1, .int .i64 t.b.base, .slice E2 t.b.digits.length g2, .int .i64 t.s.base, .slice E3 t.s.digits.length g3, .int .i64 0] 65, rowN E3 t.s.digits.length g3 fs, rowN E2 t.b.digits.length g2 zs, rowN E1 t.a.digits.length g1 ds, .blk w.heap.size [.int .i64 t.a.base, .slice A1 t.a.digits.length c1, .int .i64 t.b.base, .slice A2 t.b.digits.length c2, .int .i64 t.s.base, .slice A3 t.s.digits.length c3, .int .i64 t.carry] 65] w12 := hK11.join hKx
    clear hK9 hK11 hKx a1 a2 a3
    obtain ⟨d1, d2, d3, a1, a2, a3, -⟩ := hK12.cells
    go_wp2_with fail
    refine Calls.kn (((hK12.sw1.st 2 (.int .i64 t.b.base)).st 3 (.slice F t.b.digits.length f)).al [.int .i64 t.b.base, .slice F t.b.digits.length f] 26) ?_; intro w13 hK13
    clear hK12 d1 d2 d3 a1 a2 a3
    have hK14 : Kn w [.blk w9.heap.size [.int .i64 t.a.base, .slice E1 t.a.digits.length g1, .int .i64 t.b.base, .slice F t.b.digits.length f, .int .i64 t.s.base, .slice E3 t.s.digits.length g3, .int .i64 0] 65, .blk w.heap.size [.int .i64 t.a.base, .slice A1 t.a.digits.length c1, .int .i64 t.b.base, .slice A2 t.b.digits.length c2, .int .i64 t.s.base, .slice A3 t.s.digits.length c3, .int .i64 t.carry] 65, rowN F t.b.digits.length f es, rowN E3 t.s.digits.length g3 fs, rowN E1 t.a.digits.length g1 ds] w13 := hK13.sel [1, 6, 2, 3, 5] 99 (by decide) (by decide)
    clear hK13
    refine (KD.out _).mono ?_; rintro e w16 ⟨LA, lc, rfl, hKd⟩
    have hK16 : Kn w [rowIns (.slice LA LP.length lc) LP, .blk w9.heap.size [.int .i64 t.a.base, .slice E1 t.a.digits.length g1, .int .i64 t.b.base, .slice F t.b.digits.length f, .int .i64 t.s.base, .slice E3 t.s.digits.length g3, .int .i64 0] 65, .blk w.heap.size [.int .i64 t.a.base, .slice A1 t.a.digits.length c1, .int .i64 t.b.base, .slice A2 t.b.digits.length c2, .int .i64 t.s.base, .slice A3 t.s.digits.length c3, .int .i64 t.carry] 65, rowN F t.b.digits.length f es, rowN E3 t.s.digits.length g3 fs, rowN E1 t.a.digits.length g1 ds] w16 := hK14.join hKd
    clear hK14 hKd
    go_wp2_with fail
    refine (KRP.out _ _ _ _ _ _ _ _ _ _ ⟨box7at hK16 1 rfl, Kn.riN (hK16.sel [5] 99 (by decide) (by decide)), Kn.riN (hK16.sel [3] 99 (by decide) (by decide)), Kn.riN (hK16.sel [4] 99 (by decide) (by decide))⟩ (Kn.rlIns hK16).2).mono ?_; rintro e w17 ⟨g, s, b', b2', rfl, he, ⟨SA, sc, M1, j1, M2, j2, M3, j3, hKr⟩, hg⟩
    have hK18 : Kn w [.blk g [.int .i64 s.m.a.base, .slice M1 s.m.a.digits.length j1, .int .i64 s.m.b.base, .slice M2 s.m.b.digits.length j2, .int .i64 s.m.s.base, .slice M3 s.m.s.digits.length j3, .int .i64 s.m.carry, .slice LA LP.length lc, .slice SA s.tr.length sc, .int .i64 (s.done : Int), .bool b2', .int .i64 s.code] 143, rowI M3 j3 s.m.s.digits, rowI M2 j2 s.m.b.digits, .blk w.heap.size [.int .i64 t.a.base, .slice A1 t.a.digits.length c1, .int .i64 t.b.base, .slice A2 t.b.digits.length c2, .int .i64 t.s.base, .slice A3 t.s.digits.length c3, .int .i64 t.carry] 65] w17 := (hK16.join hKr).sel [0, 1, 2, 7] 99 (by decide) (by decide)
    clear hK16 hKr
    have HB := Lib.hid (HDF.out s b' HZ.out he)
    obtain ⟨k1, k2, k3, -, -, g1', g2', -⟩ := vmach_all hg.m
    obtain ⟨⟨y3, y4⟩, ⟨z3, z4⟩, yd2, -⟩ := vreg_iff.1 k2
    obtain ⟨⟨y5, y6⟩, ⟨z5, z6⟩, yd3, -⟩ := vreg_iff.1 k3
    have hv3 := (valL_bd s.m.s.base y5 s.m.s.digits (fun d h => (yd3 d h).1)).1
    have hv3' := valL_lt s.m.s.base y5 s.m.s.digits yd3
    have KVC := (fun W (h : RI W M3 s.m.s.digits.length s.m.s.digits) => l02Value_any s.m.s.base M3 s.m.s.digits.length j3 s.m.s.digits W y5 y6 yd3 h (by omega))
    have KVR := (fun W (h : RI W M2 s.m.b.digits.length s.m.b.digits) => l02Value_any s.m.b.base M2 s.m.b.digits.length j2 s.m.b.digits W y3 y4 yd2 h (by omega))
    obtain ⟨VC, hVC⟩ : ∃ v, valL s.m.s.base s.m.s.digits = v := ⟨_, rfl⟩
    obtain ⟨VR, hVR⟩ : ∃ v, valL s.m.b.base s.m.b.digits = v := ⟨_, rfl⟩
    have HB := HB.out
    rw [hVC] at KVC HB hv3 hv3'
    rw [hVR] at KVR HB
    have KVC := Lib.hid KVC
    have KVR := Lib.hid KVR
    have HB := Lib.hid HB
    have nz1 : N3 ≠ 0 := by omega
    have nz2 : (N3 == 0) = false := by simp; omega
    have hwq := wrapI64 (n := N3 - VC) (by omega)
    clear KP KD KRP k1 k2 k3 hVC hVR y3 y4 y5 y6 yd2 yd3 he hg
    obtain ⟨d1, d2, d3, a1, a2, a3, -⟩ := hK18.cells
    go_wp2_with fail
    refine (KN3.out _ ((hK18.front 3 rfl).cellIs 4 _ rfl) ((hK18.front 3 rfl).cellIs 5 _ rfl)).mono ?_; rintro e w19 ⟨rfl, q, rfl⟩
    have hK19 := hK18.drewN q
    generalize w17.drewN q = w19 at hK19 ⊢
    clear hK18 d1 d2 d3 a1 a2 a3
    obtain ⟨d1, d2, d3, a1, a2, a3, -⟩ := hK19.cells
    go_wp2_with fail
    go_quiet ((go_at_call 124; exact quiet_left (KVC.out _ (hK19.drewN _).drop.riv)))
    have hK20 := hK19.drewN nq
    generalize w19.drewN nq = w20 at hK20 ⊢
    clear hK19 d1 d2 d3 a1 a2 a3
    obtain ⟨d1, d2, d3, a1, a2, a3, -⟩ := hK20.cells
    go_wp2_with fail
    go_quiet ((go_at_call 124; exact quiet_left (KVR.out _ (hK20.drewN _).drop.drop.riv)))
    have hK21 := hK20.drewN nq
    generalize w20.drewN nq = w21 at hK21 ⊢
    clear hK20 d1 d2 d3 a1 a2 a3
    obtain ⟨d1, d2, d3, a1, a2, a3, -⟩ := hK21.cells
    go_wp2_with fail
    go_quiet (fail)
    go_wp2_with fail
    refine bodyPost_ret (v := .tuple #[.int .i64 ((N3 - VC).tmod N3), .int .i64 VR, .int .i64 s.tr.length, .int .i64 0]) (by simp [results, Try.results43, go_sem]) rfl ⟨?_, (hK21.drewN _).below⟩
    rw [HB.out.1, HB.out.2.1, HB.out.2.2.1, HB.out.2.2.2]
end Go.Proofs.Ytkaaiocbiknipaa
