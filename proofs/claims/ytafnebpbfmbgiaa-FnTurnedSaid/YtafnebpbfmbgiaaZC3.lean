/- Part 3: lemmas and contracts of the claim's functions. -/
import Derived.Test.YtafnebpbfmbgiaaZC1
import Derived.Test.YtafnebpbfmbgiaaZC2
import Derived.Deep.DeepCutAuto
import Derived.Deep.RegionHeld3
namespace Go.Proofs.Ytafnebpbfmbgiaa
open Go.RowKit Go.Sort
set_option maxRecDepth 100000 in
set_option maxHeartbeats 1600000 in
theorem l05Ok_any (g : Nat) (d : Dr) (w : World) (h : DrAt w g d) : Calls Try.prog 36 #[.pointer (some ⟨g, 0, none⟩)] w fun e w' => e = .returned (.bool (drOk d)) ∧ ∃ m, w' = w.drewN m := by
  obtain ⟨c0, c1, c2, c3⟩ := h
  obtain ⟨k, b, t, f⟩ := d
  simp only at c0 c1 c2 c3
  have K1 := (fun W => l00In_any k 1 3 W)
  have K2 := (fun W => l02Base_any b W)
  have K3 := (fun W => l00In_any t b 60 W)
  have K4 := (fun W => l00In_any f 1 (t - b + 2) W)
  have HD := Lib.hid (show drOk ⟨k, b, t, f⟩ = (betB k 1 3 && (betB b 2 16 && (betB t b 60 && (if k = 3 then decide (f = 0) else betB f 1 (t - b + 2))))) from rfl)
  obtain ⟨v, hv⟩ : ∃ v, drOk ⟨k, b, t, f⟩ = v := ⟨_, rfl⟩
  rw [hv] at HD ⊢
  clear hv
  rcases h1 : betB k 1 3 with _ | _
  · rw [h1] at K1 HD
    replace K1 := Lib.hid K1
    clear K2 K3 K4
    go_enter Try.func36, Try.ntmps36
    go_wp2_with fail
    go_quiet ((go_at_call 48; exact quiet_left (K1.out _)))
    go_wp2
    go_ret
    exact ⟨ret_bool HD.out.symm, _, rfl⟩
  rw [h1] at K1 HD
  rcases h2 : betB b 2 16 with _ | _
  · rw [h2] at K2 HD
    replace K1 := Lib.hid K1
    replace K2 := Lib.hid K2
    clear K3 K4
    go_enter Try.func36, Try.ntmps36
    go_wp2_with fail
    go_quiet ((first | (go_at_call 48; exact quiet_left (K1.out _)) | (go_at_call 93; exact quiet_left (K2.out _))))
    go_wp2
    go_ret
    exact ⟨ret_bool HD.out.symm, _, rfl⟩
  rw [h2] at K2 HD
  rcases h3 : betB t b 60 with _ | _
  · rw [h3] at K3 HD
    replace K1 := Lib.hid K1
    replace K2 := Lib.hid K2
    replace K3 := Lib.hid K3
    clear K4
    go_enter Try.func36, Try.ntmps36
    go_wp2_with fail
    go_quiet ((first | (go_at_call 48; first | (with_reducible exact quiet_left (K1.out _)) | (with_reducible exact quiet_left (K3.out _))) | (go_at_call 93; exact quiet_left (K2.out _))))
    go_wp2
    go_ret
    exact ⟨ret_bool HD.out.symm, _, rfl⟩
  rw [h3] at K3 HD
  have b2 := betB_iff.1 h2
  have b3 := betB_iff.1 h3
  have x1 : IntKind.i64.wrap (t - b) = t - b := wrapI (by omega)
  have x2 : IntKind.i64.wrap (t - b + 2) = t - b + 2 := wrapI (by omega)
  clear h1 h2 h3
  replace K1 := Lib.hid K1
  replace K2 := Lib.hid K2
  replace K3 := Lib.hid K3
  by_cases h4 : k = 3
  · rw [if_pos h4] at HD
    subst h4
    clear K4
    go_enter Try.func36, Try.ntmps36
    go_wp2_with fail
    go_quiet ((first | (go_at_call 48; first | (with_reducible exact quiet_left (K1.out _)) | (with_reducible exact quiet_left (K3.out _))) | (go_at_call 93; exact quiet_left (K2.out _))))
    go_wp2_with fail
    go_ret
    exact ⟨ret_bool (HD.out.trans (by rw [Bool.true_and, Bool.true_and, Bool.true_and]; first | rfl | simp)).symm, _, rfl⟩
  · rw [if_neg h4] at HD
    have h5 : (k == 3) = false := beq_eq_false_iff_ne.2 h4
    replace K4 := Lib.hid K4
    obtain ⟨y, hy⟩ : ∃ y, betB f 1 (t - b + 2) = y := ⟨_, rfl⟩
    rw [hy] at K4 HD
    clear hy
    go_enter Try.func36, Try.ntmps36
    go_wp2_with fail
    go_quiet ((first | (go_at_call 48; first | (with_reducible exact quiet_left (K1.out _)) | (with_reducible exact quiet_left (K3.out _))) | (go_at_call 93; exact quiet_left (K2.out _))))
    go_wp2_with fail
    have c0' : (w.drewN nq).cell? ⟨g, 0, none⟩ = some (.int .i64 k) := by simpa using c0
    have c1' : (w.drewN nq).cell? ⟨g, 1, none⟩ = some (.int .i64 b) := by simpa using c1
    have c2' : (w.drewN nq).cell? ⟨g, 2, none⟩ = some (.int .i64 t) := by simpa using c2
    have c3' : (w.drewN nq).cell? ⟨g, 3, none⟩ = some (.int .i64 f) := by simpa using c3
    obtain ⟨w2, hw2⟩ : ∃ w2, w.drewN nq = w2 := ⟨_, rfl⟩
    rw [hw2] at c0' c1' c2' c3' ⊢
    clear c0 c1 c2 c3
    go_quiet ((go_at_call 48; exact quiet_left (K4.out _)))
    go_wp2
    go_ret
    exact ⟨ret_bool HD.out.symm, _, by rw [← hw2]; exact World.drewN_drewN ..⟩
/-! the codes -/
def drCode (d : Dr) (g : Int) : Int := if drOk d = false then 1 else if betB g 0 (d.b - 1) = false then 2 else 0
set_option maxRecDepth 100000 in
theorem drumCode_any (d : Dr) (g : Int) (w : World) : Calls Try.prog 53 #[.agg #[.int .i64 d.k, .int .i64 d.b, .int .i64 d.t, .int .i64 d.f], .int .i64 g] w fun e w' => e = .returned (.int .i64 (drCode d g)) ∧ Below w.heap.size w w' := by
  obtain ⟨k, b, t, f⟩ := d
  have K1 := (fun W => ValidDrum_any k b t f W)
  have K2 := (fun W => between_any g 0 (b - 1) W)
  unfold drCode
  simp only
  rcases hv : drOk ⟨k, b, t, f⟩ with _ | _
  · rw [hv] at K1
    replace K1 := Lib.hid K1
    clear K2
    go_enter Try.func53, Try.ntmps53
    go_wp2_with (go_at_call 41; refine Calls.kn ((Kn.nil w).al [.int .i64 k, .int .i64 b, .int .i64 t, .int .i64 f] 25) ?_; intro w1 K; refine (K1.out _).mono ?_; rintro e w2 ⟨rfl, hw⟩; have KW := K.keep hw)
    go_ret
    exact ⟨rfl, KW.below⟩
  rw [hv] at K1
  have hb := (drOk_iff.1 hv).2.1
  simp only at hb
  have x1 : IntKind.i64.wrap (b - 1) = b - 1 := wrapI (by omega)
  rcases hg : betB g 0 (b - 1) with _ | _
  all_goals
    rw [hg] at K2
    replace K1 := Lib.hid K1
    replace K2 := Lib.hid K2
    clear hv hg hb
    go_enter Try.func53, Try.ntmps53
    go_wp2_with (first
      | (go_at_call 41; refine Calls.kn ((Kn.nil w).al [.int .i64 k, .int .i64 b, .int .i64 t, .int .i64 f] 25) ?_; intro w1 K; refine (K1.out _).mono ?_; rintro e w2 ⟨rfl, hw⟩; have KW := K.keep hw; obtain ⟨a1, a2, a3, -⟩ := KW.cells)
      | (go_at_call 91; refine (K2.out _).mono ?_; rintro e w' ⟨rfl, rfl⟩))
    go_ret
    exact ⟨rfl, KW.below⟩
end Go.Proofs.Ytafnebpbfmbgiaa

namespace Go.Proofs.Ytafnebpbfmbgiaa
open Go.RowKit Go.Sort
theorem dTimes_succ (d : Dr) (g : Int) (k : Nat) : (List.range (k + 1)).map (dTime d g) = (List.range k).map (dTime d g) ++ [dTime d g k] := by rw [List.range_succ, List.map_append]; rfl
theorem dTimes_len (d : Dr) (g : Int) : (dTimes d g).length = g.toNat := by simp [dTimes]
theorem dTime1 {b t f g : Int} {j : Nat} : dTime ⟨1, b, t, f⟩ g j = f + b - 1 - g + j := by simp [dTime]
theorem dTime2 {b t f g : Int} {j : Nat} : dTime ⟨2, b, t, f⟩ g j = f + j := by simp [dTime]
theorem dTime3 {b t f g : Int} {j : Nat} : dTime ⟨3, b, t, f⟩ g j = (((j : Int) + 1) * t + g - 1) / g := by simp [dTime]
theorem dr_kind {d : Dr} (h : drOk d = true) : d.k = 1 ∨ d.k = 2 ∨ d.k = 3 := by have := (drOk_iff.1 h).1; omega
theorem isTime_any (t : Int) (w : World) : Calls Try.prog 44 #[.int .i64 t] w fun e w' => e = .returned (.bool (betB t 0 100000)) ∧ w = w' := by
  have K := Lib.hid (fun W => between_any t 0 100000 W)
  obtain ⟨v, hv⟩ : ∃ v, betB t 0 100000 = v := ⟨_, rfl⟩
  rw [hv] at K ⊢
  clear hv
  go_enter Try.func44, Try.ntmps44
  go_wp2_with (go_at_call 91; refine (K.out _).mono ?_; rintro e w' ⟨rfl, rfl⟩)
  go_ret
  exact ⟨rfl, rfl⟩
set_option maxRecDepth 100000 in
theorem l05Code_any (p : Nat) (d : Dr) (g : Int) (w : World) (h : DrAt w p d) : Calls Try.prog 55 #[.pointer (some ⟨p, 0, none⟩), .int .i64 g] w fun e w' => e = .returned (.int .i64 (drCode d g)) ∧ Below w.heap.size w w' := by
  have K1 := (l05Ok_any p d w h)
  obtain ⟨k, b, t, f⟩ := d
  have K2 := (fun W => l00In_any g 0 (b - 1) W)
  unfold drCode
  simp only
  have HC := Lib.hid (fun m => h.below (drewN_below (w := w) m))
  rcases hv : drOk ⟨k, b, t, f⟩ with _ | _
  · rw [hv] at K1
    replace K1 := Lib.hid K1
    clear K2
    go_enter Try.func55, Try.ntmps55
    go_wp2_with (go_at_call 36; refine (K1.out).mono ?_; rintro e w2 ⟨rfl, m, rfl⟩)
    go_ret
    exact ⟨rfl, drewN_below m⟩
  rw [hv] at K1
  have hb := (drOk_iff.1 hv).2.1
  simp only at hb
  have x1 : IntKind.i64.wrap (b - 1) = b - 1 := wrapI (by omega)
  rcases hg : betB g 0 (b - 1) with _ | _
  all_goals
    rw [hg] at K2
    replace K1 := Lib.hid K1
    replace K2 := Lib.hid K2
    clear hv hg hb
    go_enter Try.func55, Try.ntmps55
    go_wp2_with (first
      | (go_at_call 36; refine (K1.out).mono ?_; rintro e w2 ⟨rfl, m, rfl⟩; obtain ⟨-, c1, -, -⟩ := HC.out m; simp only at c1)
      | (go_at_call 48; refine (K2.out _).mono ?_; rintro e w' ⟨rfl, rfl⟩))
    go_ret
    exact ⟨rfl, drewN_below m⟩
set_option maxRecDepth 100000 in
set_option maxHeartbeats 1600000 in
theorem l05Time_any (p : Nat) (d : Dr) (g : Int) (j : Nat) (w : World) (h : DrAt w p d) (hv : drOk d = true) (hj : (j : Int) < g) (hg : g < d.b) : Calls Try.prog 56 #[.pointer (some ⟨p, 0, none⟩), .int .i64 g, .int .i64 j] w fun e w' => e = .returned (.int .i64 (dTime d g j)) ∧ ∃ m, w' = w.drewN m := by
  obtain ⟨c0, c1, c2, c3⟩ := h
  have hk := dr_kind hv
  obtain ⟨-, hb, ht, hf⟩ := drOk_iff.1 hv
  obtain ⟨k, b, t, f⟩ := d
  simp only at c0 c1 c2 c3 hb ht hf hg hk
  clear hv
  rcases hk with rfl | rfl | rfl
  · rw [dTime1]
    have x1 : IntKind.i64.wrap (f + b) = f + b := wrapI (by omega)
    have x2 : IntKind.i64.wrap (f + b - 1) = f + b - 1 := wrapI (by omega)
    have x3 : IntKind.i64.wrap (f + b - 1 - g) = f + b - 1 - g := wrapI (by omega)
    have x4 : IntKind.i64.wrap (f + b - 1 - g + j) = f + b - 1 - g + j := wrapI (by omega)
    clear hf
    go_enter Try.func56, Try.ntmps56
    go_wp2_with fail
    go_quiet (fail)
    go_wp2
    go_ret
    exact ⟨rfl, _, rfl⟩
  · rw [dTime2]
    have x1 : IntKind.i64.wrap (f + j) = f + j := wrapI (by omega)
    clear hf
    go_enter Try.func56, Try.ntmps56
    go_wp2_with fail
    go_ret
    exact ⟨rfl, 0, rfl⟩
  · rw [dTime3]
    obtain ⟨P, hP⟩ : ∃ P, ((j : Int) + 1) * t = P := ⟨_, rfl⟩
    have hp : 0 ≤ P ∧ P ≤ 960 := by
      have h1 : ((j : Int) + 1) * t ≤ 16 * 60 := Int.mul_le_mul (by omega) (by omega) (by omega) (by omega)
      have h2 : 0 ≤ ((j : Int) + 1) * t := Int.mul_nonneg (by omega) (by omega)
      omega
    have x0 : IntKind.i64.wrap ((j : Int) + 1) = (j : Int) + 1 := wrapI (by omega)
    have x1 : IntKind.i64.wrap (((j : Int) + 1) * t) = P := by rw [hP]; exact wrapI (by omega)
    rw [hP]
    have x2 : IntKind.i64.wrap (P + g) = P + g := wrapI (by omega)
    have x3 : IntKind.i64.wrap (P + g - 1) = P + g - 1 := wrapI (by omega)
    have g0 : ¬ g = 0 := by omega
    have x4 : IntKind.i64.wrap (Int.tdiv (P + g - 1) g) = (P + g - 1) / g := by
      rw [Int.tdiv_eq_ediv_of_nonneg (by omega)]
      have h1 := Int.ediv_nonneg (a := P + g - 1) (b := g) (by omega) (by omega)
      have h2 := Int.ediv_le_self (a := P + g - 1) g (by omega)
      exact wrapI (by omega)
    obtain ⟨q, hq⟩ : ∃ q, (P + g - 1) / g = q := ⟨_, rfl⟩
    rw [hq] at x4 ⊢
    clear hf hP
    go_enter Try.func56, Try.ntmps56
    go_wp2_with fail
    go_ret
    exact ⟨rfl, 0, rfl⟩
end Go.Proofs.Ytafnebpbfmbgiaa

namespace Go.Proofs.Ytafnebpbfmbgiaa
open Go.RowKit Go.Sort
/-- the row of a drum's times -/
def TMRet (d : Dr) (n : Nat) (w : World) (e : Ending) (w' : World) : Prop := ∃ A c, e = .returned (.slice A n c) ∧ Kn w [rowI A c (dTimes d n)] w'
theorem dTimes_nat (d : Dr) (n : Nat) : dTimes d n = (List.range n).map (dTime d n) := by unfold dTimes; rw [Int.toNat_natCast]
theorem Kn.rowSlice {w0 w : World} {m : List Ent} {v : Value} {T : TypeId} {size n : Nat} {xs : List Value} (h : Kn w0 (.row v T size n xs :: m) w) : ∃ A c, v = .slice A n c := by
  have h0 : w.ownsRow 0 T size v n xs := h.at0
  rcases h0.2 with ⟨rfl, rfl⟩ | ⟨g, cap, cur, rfl, -⟩
  · exact ⟨none, 0, rfl⟩
  · exact ⟨_, _, rfl⟩
set_option maxRecDepth 100000 in
set_option maxHeartbeats 3200000 in
theorem times_any (d : Dr) (n : Nat) (w : World) (hv : drOk d = true) (hg : (n : Int) < d.b) : Calls Try.prog 54 #[.agg #[.int .i64 d.k, .int .i64 d.b, .int .i64 d.t, .int .i64 d.f], .int .i64 n] w (TMRet d n w) := by
  unfold TMRet
  obtain ⟨k, b, t, f⟩ := d
  have hk := dr_kind hv
  obtain ⟨-, hb, ht, hf⟩ := drOk_iff.1 hv
  simp only at hb ht hf hg hk ⊢
  clear hv
  rcases hk with rfl | rfl | rfl
  rotate_left
  rotate_left
  ·
    obtain ⟨d, hd⟩ : ∃ d : Dr, d = ⟨3, b, t, f⟩ := ⟨_, rfl⟩
    have HD := Lib.hid hd
    rw [← hd]
    clear hd
    go_enter Try.func54, Try.ntmps54
    go_wp2_with fail
    have hK0 := (((Kn.nil w).al [.int .i64 3, .int .i64 b, .int .i64 t, .int .i64 f] 25).al [] 2).litRow (size := 1) (n := 0) rfl (by decide)
    simp only [World.size_alloc] at hK0
    have hK1 : Kn w [.row (.slice (some ⟨w.heap.size + 1, 0, none⟩) 0 0) 2 1 ((List.range 0).map (dTime d n)).length (((List.range 0).map (dTime d n)).map (Value.int .i64)), .blk w.heap.size [.int .i64 3, .int .i64 b, .int .i64 t, .int .i64 f] 25] _ := hK0
    clear hK0
    go_loopw [5, 9] (fun vv ii wr => ∃ (j : Nat), j ≤ n ∧ ii = .int .i64 (j : Int) ∧ Kn w [.row vv 2 1 ((List.range j).map (dTime d n)).length (((List.range j).map (dTime d n)).map (Value.int .i64)), .blk w.heap.size [.int .i64 3, .int .i64 b, .int .i64 t, .int .i64 f] 25] wr) (fun _ ii _ => n - (intOf ii).toNat)
    case atStart => exact ⟨0, Nat.zero_le _, rfl, hK1⟩
    case round =>
      clear hK1
      obtain ⟨j, hj, rfl, hK⟩ := hrel
      by_cases hjn : j < n
      · have i1 : (j : Int) < (n : Int) := by omega
        have i0 : (0 : Int) ≤ (j : Int) := by omega
        have hS := Lib.hid (dTimes_succ d n j)
        have hL : ((List.range j).map (dTime d n)).length ≤ 1000 := by simp; omega
        obtain ⟨a1, a2, a3, -⟩ := (hK.front 1 rfl).cells
        (obtain ⟨P, hP⟩ : ∃ P, ((j : Int) + 1) * t = P := ⟨_, rfl⟩); (have hp : 0 ≤ P ∧ P ≤ 960 := by (have h1 : ((j : Int) + 1) * t ≤ 16 * 60 := Int.mul_le_mul (by omega) (by omega) (by omega) (by omega)); (have h2 : 0 ≤ ((j : Int) + 1) * t := Int.mul_nonneg (by omega) (by omega)); omega); (have x0 : IntKind.i64.wrap ((j : Int) + 1) = (j : Int) + 1 := wrapI (by omega)); (have x1 : IntKind.i64.wrap (((j : Int) + 1) * t) = P := by rw [hP]; exact wrapI (by omega)); (have x2 : IntKind.i64.wrap (P + n) = P + n := wrapI (by omega)); (have x3 : IntKind.i64.wrap (P + n - 1) = P + n - 1 := wrapI (by omega)); (have g0 : ¬ (n : Int) = 0 := by omega); (have g1 : ¬ n = 0 := by omega); (have x4 : IntKind.i64.wrap (Int.tdiv (P + n - 1) n) = (P + n - 1) / n := by (rw [Int.tdiv_eq_ediv_of_nonneg (by omega)]; have h1 := Int.ediv_nonneg (a := P + n - 1) (b := n) (by omega) (by omega); have h2 := Int.ediv_le_self (a := P + n - 1) n (by omega); exact wrapI (by omega))); (have HT := Lib.hid (show dTime d n j = (P + n - 1) / n by rw [HD.out, dTime3, hP])); (obtain ⟨q, hq⟩ : ∃ q, (P + (n : Int) - 1) / n = q := ⟨_, rfl⟩); rw [hq] at x4 HT; clear hP
        go_wp2_with (at_builtin; refine kn_pushI rfl _ _ rfl _ ((List.range j).map (dTime d n)) rfl rfl (hK.al [.int .i64 (q)] 2) (by omega) ?_; intro v7 w7 hK7)
        go_roundw
        case rel => exact ⟨j + 1, by omega, by go_num, by rw [hS.out, HT.out]; exact hK7⟩
        case measure => simp [intOf]; omega
      · have i1 : ¬ (j : Int) < (n : Int) := by omega
        obtain rfl : j = n := by omega
        have hN := Lib.hid (dTimes_nat d j)
        simp only [List.length_map, List.length_range] at hK
        obtain ⟨A5, c5, rfl⟩ := hK.rowSlice
        go_wp2_with fail
        go_ret
        exact ⟨A5, c5, rfl, by rw [hN.out]; unfold rowI; rw [List.length_map, List.length_range]; exact hK.drop1⟩
  ·
    obtain ⟨d, hd⟩ : ∃ d : Dr, d = ⟨1, b, t, f⟩ := ⟨_, rfl⟩
    have HD := Lib.hid hd
    rw [← hd]
    clear hd
    go_enter Try.func54, Try.ntmps54
    go_wp2_with fail
    have hK0 := (((Kn.nil w).al [.int .i64 1, .int .i64 b, .int .i64 t, .int .i64 f] 25).al [] 2).litRow (size := 1) (n := 0) rfl (by decide)
    simp only [World.size_alloc] at hK0
    have hK1 : Kn w [.row (.slice (some ⟨w.heap.size + 1, 0, none⟩) 0 0) 2 1 ((List.range 0).map (dTime d n)).length (((List.range 0).map (dTime d n)).map (Value.int .i64)), .blk w.heap.size [.int .i64 1, .int .i64 b, .int .i64 t, .int .i64 f] 25] _ := hK0
    clear hK0
    go_loopw [5, 9] (fun vv ii wr => ∃ (j : Nat), j ≤ n ∧ ii = .int .i64 (j : Int) ∧ Kn w [.row vv 2 1 ((List.range j).map (dTime d n)).length (((List.range j).map (dTime d n)).map (Value.int .i64)), .blk w.heap.size [.int .i64 1, .int .i64 b, .int .i64 t, .int .i64 f] 25] wr) (fun _ ii _ => n - (intOf ii).toNat)
    case atStart => exact ⟨0, Nat.zero_le _, rfl, hK1⟩
    case round =>
      clear hK1
      obtain ⟨j, hj, rfl, hK⟩ := hrel
      by_cases hjn : j < n
      · have i1 : (j : Int) < (n : Int) := by omega
        have i0 : (0 : Int) ≤ (j : Int) := by omega
        have hS := Lib.hid (dTimes_succ d n j)
        have hL : ((List.range j).map (dTime d n)).length ≤ 1000 := by simp; omega
        obtain ⟨a1, a2, a3, -⟩ := (hK.front 1 rfl).cells
        (have x1 : IntKind.i64.wrap (f + b) = f + b := wrapI (by omega)); (have x2 : IntKind.i64.wrap (f + b - 1) = f + b - 1 := wrapI (by omega)); (have x3 : IntKind.i64.wrap (f + b - 1 - n) = f + b - 1 - n := wrapI (by omega)); (have x4 : IntKind.i64.wrap (f + b - 1 - n + j) = f + b - 1 - n + j := wrapI (by omega)); (have HT := Lib.hid (show dTime d n j = f + b - 1 - n + j by rw [HD.out, dTime1]))
        go_wp2_with (at_builtin; refine kn_pushI rfl _ _ rfl _ ((List.range j).map (dTime d n)) rfl rfl (hK.al [.int .i64 (f + b - 1 - n + j)] 2) (by omega) ?_; intro v7 w7 hK7)
        go_roundw
        case rel => exact ⟨j + 1, by omega, by go_num, by rw [hS.out, HT.out]; exact hK7⟩
        case measure => simp [intOf]; omega
      · have i1 : ¬ (j : Int) < (n : Int) := by omega
        obtain rfl : j = n := by omega
        have hN := Lib.hid (dTimes_nat d j)
        simp only [List.length_map, List.length_range] at hK
        obtain ⟨A5, c5, rfl⟩ := hK.rowSlice
        go_wp2_with fail
        go_ret
        exact ⟨A5, c5, rfl, by rw [hN.out]; unfold rowI; rw [List.length_map, List.length_range]; exact hK.drop1⟩
  ·
    obtain ⟨d, hd⟩ : ∃ d : Dr, d = ⟨2, b, t, f⟩ := ⟨_, rfl⟩
    have HD := Lib.hid hd
    rw [← hd]
    clear hd
    go_enter Try.func54, Try.ntmps54
    go_wp2_with fail
    have hK0 := (((Kn.nil w).al [.int .i64 2, .int .i64 b, .int .i64 t, .int .i64 f] 25).al [] 2).litRow (size := 1) (n := 0) rfl (by decide)
    simp only [World.size_alloc] at hK0
    have hK1 : Kn w [.row (.slice (some ⟨w.heap.size + 1, 0, none⟩) 0 0) 2 1 ((List.range 0).map (dTime d n)).length (((List.range 0).map (dTime d n)).map (Value.int .i64)), .blk w.heap.size [.int .i64 2, .int .i64 b, .int .i64 t, .int .i64 f] 25] _ := hK0
    clear hK0
    go_loopw [5, 9] (fun vv ii wr => ∃ (j : Nat), j ≤ n ∧ ii = .int .i64 (j : Int) ∧ Kn w [.row vv 2 1 ((List.range j).map (dTime d n)).length (((List.range j).map (dTime d n)).map (Value.int .i64)), .blk w.heap.size [.int .i64 2, .int .i64 b, .int .i64 t, .int .i64 f] 25] wr) (fun _ ii _ => n - (intOf ii).toNat)
    case atStart => exact ⟨0, Nat.zero_le _, rfl, hK1⟩
    case round =>
      clear hK1
      obtain ⟨j, hj, rfl, hK⟩ := hrel
      by_cases hjn : j < n
      · have i1 : (j : Int) < (n : Int) := by omega
        have i0 : (0 : Int) ≤ (j : Int) := by omega
        have hS := Lib.hid (dTimes_succ d n j)
        have hL : ((List.range j).map (dTime d n)).length ≤ 1000 := by simp; omega
        obtain ⟨a1, a2, a3, -⟩ := (hK.front 1 rfl).cells
        (have x1 : IntKind.i64.wrap (f + j) = f + j := wrapI (by omega)); (have HT := Lib.hid (show dTime d n j = f + j by rw [HD.out, dTime2]))
        go_wp2_with (at_builtin; refine kn_pushI rfl _ _ rfl _ ((List.range j).map (dTime d n)) rfl rfl (hK.al [.int .i64 (f + j)] 2) (by omega) ?_; intro v7 w7 hK7)
        go_roundw
        case rel => exact ⟨j + 1, by omega, by go_num, by rw [hS.out, HT.out]; exact hK7⟩
        case measure => simp [intOf]; omega
      · have i1 : ¬ (j : Int) < (n : Int) := by omega
        obtain rfl : j = n := by omega
        have hN := Lib.hid (dTimes_nat d j)
        simp only [List.length_map, List.length_range] at hK
        obtain ⟨A5, c5, rfl⟩ := hK.rowSlice
        go_wp2_with fail
        go_ret
        exact ⟨A5, c5, rfl, by rw [hN.out]; unfold rowI; rw [List.length_map, List.length_range]; exact hK.drop1⟩
end Go.Proofs.Ytafnebpbfmbgiaa

namespace Go.Proofs.Ytafnebpbfmbgiaa
open Go.RowKit Go.Sort
/-- how many of the first j teeth have made their step at a time m of the turn -/
def dCnt (d : Dr) (n : Nat) (m : Int) (j : Nat) : Nat := ((List.range j).map (dTime d n)).countP (fun x => decide (x ≤ m))
theorem dCnt_succ (d : Dr) (n : Nat) (m : Int) (j : Nat) : dCnt d n m (j + 1) = dCnt d n m j + (if dTime d n j ≤ m then 1 else 0) := by
  unfold dCnt
  rw [dTimes_succ, List.countP_append, List.countP_singleton]
  simp
theorem dCnt_le (d : Dr) (n : Nat) (m : Int) (j : Nat) : dCnt d n m j ≤ j := by
  unfold dCnt
  have := List.countP_le_length (p := fun x => decide (x ≤ m)) (l := (List.range j).map (dTime d n))
  simpa using this
def dBy (d : Dr) (n : Nat) (tm : Int) : Int := tm / d.t * n + dCnt d n (tm % d.t) n
theorem dTimes_get (d : Dr) (n : Nat) {j : Nat} (hj : j < n) : ∃ h : j < (dTimes d n).length, (dTimes d n)[j] = dTime d n j := by
  refine ⟨by rw [dTimes_len]; omega, ?_⟩
  unfold dTimes
  simp
set_option maxRecDepth 100000 in
set_option maxHeartbeats 3200000 in
theorem steps_any (d : Dr) (n : Nat) (tm : Int) (w : World) (hv : drOk d = true) (hg : (n : Int) < d.b) (htm : 0 ≤ tm ∧ tm ≤ 100000) : Calls Try.prog 45 #[.agg #[.int .i64 d.k, .int .i64 d.b, .int .i64 d.t, .int .i64 d.f], .int .i64 n, .int .i64 tm] w fun e w' => e = .returned (.int .i64 (dBy d n tm)) ∧ Below w.heap.size w w' := by
  have KT := Lib.hid (fun W => times_any d n W hv hg)
  unfold TMRet at KT
  obtain ⟨-, hb, ht, -⟩ := drOk_iff.1 hv
  obtain ⟨k, hk⟩ : ∃ x, x = d.k := ⟨_, rfl⟩
  obtain ⟨b, hbb⟩ : ∃ x, x = d.b := ⟨_, rfl⟩
  obtain ⟨t, hdt⟩ : ∃ x, x = d.t := ⟨_, rfl⟩
  obtain ⟨f, hf⟩ : ∃ x, x = d.f := ⟨_, rfl⟩
  have hn16 : n ≤ 16 := by omega
  rw [← hk, ← hbb, ← hdt, ← hf] at KT ⊢
  rw [← hbb, ← hdt] at ht
  rw [← hbb] at hb
  obtain ⟨qd, hqd⟩ : ∃ q, tm / t = q := ⟨_, rfl⟩
  obtain ⟨r, hr⟩ : ∃ q, tm % t = q := ⟨_, rfl⟩
  have hq0 : 0 ≤ qd ∧ qd ≤ 100000 := by
    have h1 := Int.ediv_nonneg (a := tm) (b := t) (by omega) (by omega)
    have h2 := Int.ediv_le_self (a := tm) t (by omega)
    omega
  have hr1 : Int.tmod tm t = r := by rw [Int.tmod_eq_emod_of_nonneg (by omega)]; exact hr
  have hq1 : Int.tdiv tm t = qd := by rw [Int.tdiv_eq_ediv_of_nonneg (by omega)]; exact hqd
  have hq2 : IntKind.i64.wrap (Int.tdiv tm t) = qd := by rw [hq1]; exact wrapI (by omega)
  obtain ⟨B0, hB0⟩ : ∃ B, qd * (n : Int) = B := ⟨_, rfl⟩
  have hb0 : 0 ≤ B0 ∧ B0 ≤ 1600000 := by
    have h1 : qd * (n : Int) ≤ 100000 * 16 := Int.mul_le_mul (by omega) (by omega) (by omega) (by omega)
    have h2 : 0 ≤ qd * (n : Int) := Int.mul_nonneg (by omega) (by omega)
    omega
  have hB1 : IntKind.i64.wrap (qd * (n : Int)) = B0 := by rw [hB0]; exact wrapI (by omega)
  have HBY := Lib.hid (show dBy d n tm = B0 + dCnt d n r n by unfold dBy; rw [← hdt, hqd, hr, hB0])
  have t0 : ¬ t = 0 := by omega
  have HR := Lib.hid hr
  have HQ := Lib.hid hqd
  have HB := Lib.hid hB0
  clear hk hbb hdt hf hv hg hr hqd hB0
  go_enter Try.func45, Try.ntmps45
  go_wp2_with (go_at_call 54; refine Calls.kn ((Kn.nil w).al [.int .i64 k, .int .i64 b, .int .i64 t, .int .i64 f] 25) ?_; intro w1 K1; refine (KT.out _).mono ?_; rintro e w2 ⟨A, c, rfl, hK⟩; have K2 := K1.join hK; have hri := K2.riv; rw [dTimes_len, Int.toNat_natCast] at hri; obtain ⟨a1, a2, a3, -⟩ := (K2.front 1 rfl).cells)
  go_loopw [7, 20] (fun nn ii wr => ∃ (j : Nat), j ≤ n ∧ ii = .int .i64 (j : Int) ∧ nn = .int .i64 (B0 + dCnt d n r j) ∧ w2 = wr) (fun _ ii _ => n - (intOf ii).toNat)
  case atStart => exact ⟨0, Nat.zero_le _, rfl, by simp [dCnt], rfl⟩
  case round =>
    obtain ⟨j, hj, rfl, rfl, rfl⟩ := hrel
    have hcl := dCnt_le d n r j
    by_cases hjn : j < n
    · have i1 : (j : Int) < (n : Int) := by omega
      have i0 : (0 : Int) ≤ (j : Int) := by omega
      obtain ⟨ad, hA, hlt, hkl, hc1⟩ := hri.at_ hjn
      subst hA
      obtain ⟨hlj, hge⟩ := dTimes_get d n hjn
      obtain ⟨x, hx⟩ : ∃ x, dTime d n j = x := ⟨_, rfl⟩
      have hS := dCnt_succ d n r j
      rw [hge] at hc1
      rw [hx] at hc1 hS
      obtain ⟨C, hC⟩ : ∃ C, dCnt d n r j = C := ⟨_, rfl⟩
      rw [hC] at hS hcl ⊢
      have y1 : IntKind.i64.wrap (B0 + (C : Int)) = B0 + (C : Int) := wrapI (by omega)
      have y2 : IntKind.i64.wrap (B0 + (C : Int) + 1) = B0 + (C : Int) + 1 := wrapI (by omega)
      have HS := Lib.hid hS
      clear hS hC hx hge hri hlj
      by_cases hx : x ≤ r
      · have HS2 := Lib.hid (HS.out.trans (by rw [if_pos hx]))
        go_wp2_with fail
        go_roundw
        case rel => exact ⟨j + 1, by omega, by go_num, by rw [HS2.out]; go_num; try omega, by first | rfl | trivial⟩
        case measure => simp [intOf]; omega
      · have HS2 := Lib.hid (HS.out.trans (by rw [if_neg hx]))
        go_wp2_with fail
        go_roundw
        case rel => exact ⟨j + 1, by omega, by go_num, by rw [HS2.out]; rfl, by first | rfl | trivial⟩
        case measure => simp [intOf]; omega
    · have i1 : ¬ (j : Int) < (n : Int) := by omega
      obtain rfl : j = n := by omega
      go_wp2_with fail
      go_ret
      exact ⟨ret_int HBY.out.symm, K2.below⟩

set_option maxRecDepth 100000 in
set_option maxHeartbeats 3200000 in
theorem l05By_any (p : Nat) (d : Dr) (n : Nat) (tm : Int) (w : World) (h : DrAt w p d) (hv : drOk d = true) (hg : (n : Int) < d.b) (htm : 0 ≤ tm ∧ tm ≤ 100000) : Calls Try.prog 49 #[.pointer (some ⟨p, 0, none⟩), .int .i64 n, .int .i64 tm] w fun e w' => e = .returned (.int .i64 (dBy d n tm)) ∧ Below w.heap.size w w' := by
  have KT := Lib.hid (fun (j : Nat) (hj : (j : Int) < n) W (hW : DrAt W p d) => l05Time_any p d n j W hW hv hj hg)
  have HDR := Lib.hid (fun W (hW : Below w.heap.size w W) => (h.below hW))
  obtain ⟨-, hb, ht, -⟩ := drOk_iff.1 hv
  have c2 := h.2.2.1
  obtain ⟨t, hdt⟩ : ∃ x, x = d.t := ⟨_, rfl⟩
  have hn16 : n ≤ 16 := by omega
  rw [← hdt] at c2 ht
  obtain ⟨qd, hqd⟩ : ∃ q, tm / t = q := ⟨_, rfl⟩
  obtain ⟨r, hr⟩ : ∃ q, tm % t = q := ⟨_, rfl⟩
  have hq0 : 0 ≤ qd ∧ qd ≤ 100000 := by
    have h1 := Int.ediv_nonneg (a := tm) (b := t) (by omega) (by omega)
    have h2 := Int.ediv_le_self (a := tm) t (by omega)
    omega
  have hr1 : Int.tmod tm t = r := by rw [Int.tmod_eq_emod_of_nonneg (by omega)]; exact hr
  have hq1 : Int.tdiv tm t = qd := by rw [Int.tdiv_eq_ediv_of_nonneg (by omega)]; exact hqd
  have hq2 : IntKind.i64.wrap (Int.tdiv tm t) = qd := by rw [hq1]; exact wrapI (by omega)
  obtain ⟨B0, hB0⟩ : ∃ B, qd * (n : Int) = B := ⟨_, rfl⟩
  have hb0 : 0 ≤ B0 ∧ B0 ≤ 1600000 := by
    have h1 : qd * (n : Int) ≤ 100000 * 16 := Int.mul_le_mul (by omega) (by omega) (by omega) (by omega)
    have h2 : 0 ≤ qd * (n : Int) := Int.mul_nonneg (by omega) (by omega)
    omega
  have hB1 : IntKind.i64.wrap (qd * (n : Int)) = B0 := by rw [hB0]; exact wrapI (by omega)
  have HBY := Lib.hid (show dBy d n tm = B0 + dCnt d n r n by unfold dBy; rw [← hdt, hqd, hr, hB0])
  have t0 : ¬ t = 0 := by omega
  have HDT := Lib.hid hdt
  clear hdt hv hg hr hqd hB0 h
  go_enter Try.func49, Try.ntmps49
  go_wp2_with fail
  go_loopw [7, 8] (fun nn ii wr => ∃ (j : Nat), j ≤ n ∧ ii = .int .i64 (j : Int) ∧ nn = .int .i64 (B0 + dCnt d n r j) ∧ Below w.heap.size w wr) (fun _ ii _ => n - (intOf ii).toNat)
  case atStart => exact ⟨0, Nat.zero_le _, rfl, by simp [dCnt], Below.refl _ _⟩
  case round =>
    obtain ⟨j, hj, rfl, rfl, hbw⟩ := hrel
    have hcl := dCnt_le d n r j
    have hdr := HDR.out wr hbw
    have hc2 : wr.cell? ⟨p, 2, none⟩ = some (.int .i64 t) := by have := hdr.2.2.1; rw [← HDT.out] at this; exact this
    by_cases hjn : j < n
    · have i1 : (j : Int) < (n : Int) := by omega
      have i0 : (0 : Int) ≤ (j : Int) := by omega
      have KX := (fun m => KT.out j i1 (wr.drewN m) (hdr.below (drewN_below m)))
      obtain ⟨x, hx⟩ : ∃ x, dTime d n j = x := ⟨_, rfl⟩
      have hS := dCnt_succ d n r j
      rw [hx] at KX hS
      obtain ⟨C, hC⟩ : ∃ C, dCnt d n r j = C := ⟨_, rfl⟩
      rw [hC] at hS hcl ⊢
      have y1 : IntKind.i64.wrap (B0 + (C : Int)) = B0 + (C : Int) := wrapI (by omega)
      have y2 : IntKind.i64.wrap (B0 + (C : Int) + 1) = B0 + (C : Int) + 1 := wrapI (by omega)
      have HS := Lib.hid hS
      have KX := Lib.hid KX
      clear hS hC hx c2 hdr
      by_cases hx : x ≤ r
      · have HS2 := Lib.hid (HS.out.trans (by rw [if_pos hx]))
        go_wp2_with fail
        go_quiet ((go_at_call 56; exact quiet_of_ex (KX.out _)))
        go_wp2_with fail
        go_roundw
        case rel => exact ⟨j + 1, by omega, by go_num, by rw [HS2.out]; go_num; try omega, hbw.trans (by first | exact drewN_below' _ | exact (drewN_below _).mono hbw.size)⟩
        case measure => simp [intOf]; omega
      · have HS2 := Lib.hid (HS.out.trans (by rw [if_neg hx]))
        go_wp2_with fail
        go_quiet ((go_at_call 56; exact quiet_of_ex (KX.out _)))
        go_wp2_with fail
        go_roundw
        case rel => exact ⟨j + 1, by omega, by go_num, by rw [HS2.out]; rfl, hbw.trans (by first | exact drewN_below' _ | exact (drewN_below _).mono hbw.size)⟩
        case measure => simp [intOf]; omega
    · have i1 : ¬ (j : Int) < (n : Int) := by omega
      obtain rfl : j = n := by omega
      go_wp2_with fail
      go_ret
      exact ⟨ret_int HBY.out.symm, hbw⟩
end Go.Proofs.Ytafnebpbfmbgiaa

namespace Go.Proofs.Ytafnebpbfmbgiaa
open Go.RowKit Go.Sort
set_option maxRecDepth 100000 in
set_option maxHeartbeats 3200000 in
theorem l05Times_any (p : Nat) (d : Dr) (n : Nat) (w : World) (h : DrAt w p d) (hv : drOk d = true) (hg : (n : Int) < d.b) : Calls Try.prog 57 #[.pointer (some ⟨p, 0, none⟩), .int .i64 n] w (TMRet d n w) := by
  unfold TMRet
  have KT := Lib.hid (fun (j : Nat) (hj : (j : Int) < n) W (hW : DrAt W p d) => l05Time_any p d n j W hW hv hj hg)
  have HDR := Lib.hid (fun W (hW : Below w.heap.size w W) => (h.below hW))
  have hn16 : n ≤ 16 := by have := (drOk_iff.1 hv).2.1; omega
  clear hv hg h
  go_enter Try.func57, Try.ntmps57
  go_wp2_with fail
  have hK1 : Kn w [.row (.slice (some ⟨w.heap.size, 0, none⟩) 0 0) 2 1 ((List.range 0).map (dTime d n)).length (((List.range 0).map (dTime d n)).map (Value.int .i64))] _ := ((Kn.nil w).al [] 2).litRow (size := 1) (n := 0) rfl (by decide)
  go_loopw [5, 6] (fun vv ii wr => ∃ (j : Nat), j ≤ n ∧ ii = .int .i64 (j : Int) ∧ Kn w [.row vv 2 1 ((List.range j).map (dTime d n)).length (((List.range j).map (dTime d n)).map (Value.int .i64))] wr) (fun _ ii _ => n - (intOf ii).toNat)
  case atStart => exact ⟨0, Nat.zero_le _, rfl, hK1⟩
  case round =>
    clear hK1
    obtain ⟨j, hj, rfl, hK⟩ := hrel
    by_cases hjn : j < n
    · have i1 : (j : Int) < (n : Int) := by omega
      have i0 : (0 : Int) ≤ (j : Int) := by omega
      have hS := Lib.hid (dTimes_succ d n j)
      have hL : ((List.range j).map (dTime d n)).length ≤ 1000 := by simp; omega
      have KX := KT.out j i1 wr (HDR.out wr hK.below)
      obtain ⟨x, hx⟩ : ∃ x, dTime d n j = x := ⟨_, rfl⟩
      rw [hx] at KX
      have HX := Lib.hid hx
      have KX := Lib.hid KX
      clear hx
      go_wp2_with (first
        | (go_at_call 56; refine KX.out.mono ?_; rintro e w3 ⟨rfl, q, rfl⟩; have hK3 := hK.drewN q)
        | (at_builtin; refine kn_pushI rfl _ _ rfl _ ((List.range j).map (dTime d n)) rfl rfl (hK3.al [.int .i64 x] 2) (by omega) ?_; intro v7 w7 hK7))
      go_roundw
      case rel => exact ⟨j + 1, by omega, by go_num, by rw [hS.out, HX.out]; exact hK7⟩
      case measure => simp [intOf]; omega
    · have i1 : ¬ (j : Int) < (n : Int) := by omega
      obtain rfl : j = n := by omega
      have hN := Lib.hid (dTimes_nat d j)
      simp only [List.length_map, List.length_range] at hK
      obtain ⟨A5, c5, rfl⟩ := hK.rowSlice
      go_wp2_with fail
      go_ret
      exact ⟨A5, c5, rfl, by rw [hN.out]; unfold rowI; rw [List.length_map, List.length_range]; exact hK⟩
set_option maxRecDepth 100000 in
set_option maxHeartbeats 800000 in
theorem sole_ok (b : Int) (A : Option Addr) (c : Nat) (ds : List Int) (w : World) (hr : RI w A ds.length ds) (hv : vreg b ds = true) (hm : ds.length ≤ 1000000) : Calls Try.prog 46 #[.agg #[.int .i64 b, .slice A ds.length c]] w fun e w' => e = .returned (.tuple #[.agg #[.int .i64 b, .slice A ds.length c], .int .i64 0]) ∧ Below w.heap.size w w' := by
  have KV := Lib.hid (fun W (hW : Below w.heap.size w W) => calls_val (ValidRegister_any b A ds.length c ds W (hr.below hW) (by omega)) (congrArg Value.bool hv))
  clear hr hv
  go_enter Try.func46, Try.ntmps46
  go_wp2_with (go_at_call 42; refine Calls.kn (((Kn.nil w).al [.int .i64 b, .slice A ds.length c] 28).al [.int .i64 0, .slice none 0 0] 28) ?_; intro w1 K1; simp only [World.size_alloc] at K1; refine (KV.out _ K1.below).mono ?_; rintro e w2 ⟨rfl, hw⟩; have K2 := K1.keep hw; clear hw; obtain ⟨a1, a2, a3, b1, b2, b3, -⟩ := K2.cells)
  refine bodyPost.kn ((K2.st 0 (.int .i64 b)).st 1 (.slice A ds.length c)) ?_; intro w9 K9
  clear a1 a2 a3 b1 b2 b3
  obtain ⟨a1, a2, a3, -⟩ := K9.cells
  exact bodyPost_ret (v := .tuple #[.agg #[.int .i64 b, .slice A ds.length c], .int .i64 0]) (by simp [results, Try.results46, go_sem, a1]) rfl ⟨rfl, K9.below⟩
set_option maxRecDepth 100000 in
set_option maxHeartbeats 800000 in
theorem sole_full (b : Int) (A : Option Addr) (c : Nat) (ds : List Int) (w : World) (hr : RI w A ds.length ds) (hv : vreg b ds = false) (hm : ds.length ≤ 1000000) : Calls Try.prog 46 #[.agg #[.int .i64 b, .slice A ds.length c]] w fun e w' => e = .returned (.tuple #[.agg #[.int .i64 0, .slice none 0 0], .int .i64 5]) ∧ Below w.heap.size w w' := by
  have KV := Lib.hid (fun W (hW : Below w.heap.size w W) => calls_val (ValidRegister_any b A ds.length c ds W (hr.below hW) (by omega)) (congrArg Value.bool hv))
  clear hr hv
  go_enter Try.func46, Try.ntmps46
  go_wp2_with (go_at_call 42; refine Calls.kn (((Kn.nil w).al [.int .i64 b, .slice A ds.length c] 28).al [.int .i64 0, .slice none 0 0] 28) ?_; intro w1 K1; simp only [World.size_alloc] at K1; refine (KV.out _ K1.below).mono ?_; rintro e w2 ⟨rfl, hw⟩; have K2 := K1.keep hw; clear hw; obtain ⟨a1, a2, a3, b1, b2, b3, -⟩ := K2.cells)
  refine bodyPost.kn ((K2.st 0 (.int .i64 0)).st 1 (.slice none 0 0)) ?_; intro w9 K9
  clear a1 a2 a3 b1 b2 b3
  obtain ⟨a1, a2, a3, -⟩ := K9.cells
  exact bodyPost_ret (v := .tuple #[.agg #[.int .i64 0, .slice none 0 0], .int .i64 5]) (by simp [results, Try.results46, go_sem, a1]) rfl ⟨rfl, K9.below⟩
/-! two registers -/
def twoC (a : Int) (xs : List Int) (b : Int) (ys : List Int) : Int := if (vreg a xs && vreg b ys) = false then 1 else if a ≠ b ∨ xs.length ≠ ys.length then 6 else 0
set_option maxRecDepth 100000 in
set_option maxHeartbeats 1600000 in
theorem l02Two_any (g1 g2 : Nat) (a : Int) (A : Option Addr) (c : Nat) (xs : List Int) (b : Int) (B : Option Addr) (e : Nat) (ys : List Int) (w : World) (h1 : RegB w g1 a A c xs) (h2 : RegB w g2 b B e ys) (hm1 : xs.length ≤ 1000000) (hm2 : ys.length ≤ 1000000) :
    Calls Try.prog 47 #[.pointer (some ⟨g1, 0, none⟩), .pointer (some ⟨g2, 0, none⟩)] w fun r w' => r = .returned (.int .i64 (twoC a xs b ys)) ∧ Below w.heap.size w w' := by
  have K1 := l02Ok_any ⟨g1, 0, none⟩ a A xs.length c xs w h1.1 h1.2 (by omega)
  have K2 := (fun m => l02Ok_any ⟨g2, 0, none⟩ b B ys.length e ys (w.drewN m) (h2.below (drewN_below m)).1 (h2.below (drewN_below m)).2 (by omega))
  obtain ⟨⟨c0, c1⟩, -⟩ := h1
  obtain ⟨⟨e0, e1⟩, -⟩ := h2
  unfold twoC
  rcases hv1 : vreg a xs with _ | _
  · rw [hv1] at K1
    replace K1 := Lib.hid K1
    clear K2
    go_enter Try.func47, Try.ntmps47
    go_wp2_with (go_at_call 50; refine K1.out.mono ?_; rintro e w2 ⟨rfl, q, rfl⟩)
    go_ret
    exact ⟨rfl, drewN_below q⟩
  rw [hv1] at K1
  rcases hv2 : vreg b ys with _ | _
  · rw [hv2] at K2
    replace K1 := Lib.hid K1
    replace K2 := Lib.hid K2
    go_enter Try.func47, Try.ntmps47
    go_wp2_with (go_at_call 50; first | (with_reducible refine K1.out.mono ?_; rintro e w2 ⟨rfl, q1, rfl⟩) | (with_reducible refine (K2.out _).mono ?_; rintro e w3 ⟨rfl, q2, rfl⟩))
    go_ret
    exact ⟨rfl, drewN_below _⟩
  rw [hv2] at K2
  replace K1 := Lib.hid K1
  replace K2 := Lib.hid K2
  clear hv1 hv2
  obtain ⟨z, hz⟩ : ∃ z, (if (true && true) = false then (1 : Int) else if a ≠ b ∨ xs.length ≠ ys.length then 6 else 0) = z := ⟨_, rfl⟩
  rw [hz]
  have HZ := Lib.hid hz
  clear hz
  go_enter Try.func47, Try.ntmps47
  go_upto_region 3 with (go_at_call 50; first | (with_reducible refine K1.out.mono ?_; rintro e w2 ⟨rfl, q1, rfl⟩) | (with_reducible refine (K2.out _).mono ?_; rintro e w3 ⟨rfl, q2, rfl⟩))
  have c0' : (w.drewN (q1 + q2)).cell? ⟨g1, 0, none⟩ = some (.int .i64 a) := by simpa using c0
  have c1' : (w.drewN (q1 + q2)).cell? ⟨g1, 1, none⟩ = some (.slice A xs.length c) := by simpa using c1
  have e0' : (w.drewN (q1 + q2)).cell? ⟨g2, 0, none⟩ = some (.int .i64 b) := by simpa using e0
  have e1' : (w.drewN (q1 + q2)).cell? ⟨g2, 1, none⟩ = some (.slice B ys.length e) := by simpa using e1
  have hbw := drewN_below (w := w) (q1 + q2)
  generalize w.drewN (q1 + q2) = w4 at c0' c1' e0' e1' hbw ⊢
  clear c0 c1 e0 e1 K1 K2
  by_cases hab : a = b
  · subst hab
    by_cases hl : xs.length = ys.length
    · have HR := Lib.hid (HZ.out.symm.trans (show (if (true && true) = false then (1 : Int) else if a ≠ a ∨ xs.length ≠ ys.length then 6 else 0) = 0 by rw [if_neg (by decide), if_neg (by simp [hl])]))
      have x1 : (((xs.length : Nat) : Int) != ((ys.length : Nat) : Int)) = false := by rw [hl]; exact bne_self_eq_false _
      have x2 : ((xs.length : Int) == (ys.length : Int)) = true := by rw [hl]; exact beq_self_eq_true _
      clear HZ
      obtain ⟨n, hn⟩ : ∃ n, ys.length = n := ⟨_, rfl⟩
      rw [hl, hn] at c1' x1 x2
      rw [hn] at e1'
      clear hl hn
      go_quiet (fail)
      go_wp2_with fail
      go_ret
      exact ⟨ret_int HR.out.symm, by first | exact hbw | exact hbw.drewN _ | exact below_drewN hbw _⟩
    · have HR := Lib.hid (HZ.out.symm.trans (show (if (true && true) = false then (1 : Int) else if a ≠ a ∨ xs.length ≠ ys.length then 6 else 0) = 6 by rw [if_neg (by decide), if_pos (.inr hl)]))
      have x1 : (((xs.length : Nat) : Int) != ((ys.length : Nat) : Int)) = true := by simp; omega
      have x2 : ((xs.length : Int) == (ys.length : Int)) = false := beq_eq_false_iff_ne.2 (by omega)
      clear HZ
      go_quiet (fail)
      go_wp2_with fail
      go_ret
      exact ⟨ret_int HR.out.symm, by first | exact hbw | exact hbw.drewN _ | exact below_drewN hbw _⟩
  · have HR := Lib.hid (HZ.out.symm.trans (show (if (true && true) = false then (1 : Int) else if a ≠ b ∨ xs.length ≠ ys.length then 6 else 0) = 6 by rw [if_neg (by decide), if_pos (.inl hab)]))
    have x1 : (a == b) = false := beq_eq_false_iff_ne.2 hab
    clear HZ
    go_quiet (fail)
    go_wp2_with fail
    go_ret
    exact ⟨ret_int HR.out.symm, by first | exact hbw | exact hbw.drewN _ | exact below_drewN hbw _⟩
end Go.Proofs.Ytafnebpbfmbgiaa

namespace Go.Proofs.Ytafnebpbfmbgiaa
open Go.RowKit Go.Sort
/-- the checksum of bytes -/
def sumB (bs : List UInt8) : Int := bs.foldl (fun a b => (31 * a + (b.toNat : Int) + 1) % 65521) 7
theorem sumB_bd (bs : List UInt8) : 0 ≤ sumB bs ∧ sumB bs < 65521 := by
  rcases List.eq_nil_or_concat bs with rfl | ⟨l, b, rfl⟩
  · simp [sumB]
  · simp only [sumB, List.concat_eq_append, List.foldl_append, List.foldl_cons, List.foldl_nil]
    omega
theorem sumB_snoc (l : List UInt8) (b : UInt8) : sumB (l ++ [b]) = (31 * sumB l + (b.toNat : Int) + 1) % 65521 := by simp [sumB]
end Go.Proofs.Ytafnebpbfmbgiaa

namespace Go.Proofs.Ytafnebpbfmbgiaa
open Go.RowKit Go.Sort
/-- bytes with their checksum behind them -/
def sealB (bs : List UInt8) : List UInt8 := bs ++ [UInt8.ofNat (sumB bs / 256).toNat, UInt8.ofNat (sumB bs % 256).toNat]
theorem ofNat_byte {z : Int} (h0 : 0 ≤ z) (h1 : z < 256) : Value.int .u8 z = byteV (UInt8.ofNat z.toNat) := by
  unfold byteV
  congr 1
  rw [UInt8.toNat_ofNat']
  omega
theorem ownB_form {w : World} {base n c : Nat} {A : Option Addr} {bs : List UInt8} (h : OwnB w base (.slice A n c) bs) : bs.length = n ∧ RB w A n bs := by
  obtain ⟨A', c', e, h2, -⟩ := h.reads
  injection e with e1 e2 e3
  rw [e1, e2]; exact ⟨rfl, h2⟩
theorem bytes_one (bs : List UInt8) : ∀ u ∈ bs.map byteV, u.oneCell' = true := by
  intro u hu
  obtain ⟨b, -, rfl⟩ := List.mem_map.1 hu
  rfl
end Go.Proofs.Ytafnebpbfmbgiaa

namespace Go.Proofs.Ytafnebpbfmbgiaa
open Go.RowKit Go.Sort
/-- byte j of the digits, two in a byte -/
def pairAt (ds : List Int) (j : Nat) : Int := 16 * ds.getD (j * 2) 0 + ds.getD (j * 2 + 1) 0
def toB (z : Int) : UInt8 := UInt8.ofNat z.toNat
def regB (base : Int) (ds : List Int) : List UInt8 := toB (16 * (base - 1) + (ds.length - 1)) :: (List.range ((ds.length + 1) / 2)).map (fun j => toB (pairAt ds j))
theorem riB {w W wr : World} {B : Nat} {A : Option Addr} {n : Nat} {ds : List Int} (h : RI w A n ds) (hb : Below B W wr) (hW : B = w.heap.size + 1 ∧ Below w.heap.size w W) : RI wr A n ds := by
  have h1 := h.below hW.2
  refine ⟨h.1, fun hn => ?_⟩
  obtain ⟨ad, e, hl, hc⟩ := h.2 hn
  obtain ⟨ad', e', hl', hc'⟩ := h1.2 hn
  have hs := hb.size
  rw [e] at e'
  injection e' with e'
  subst e'
  refine ⟨ad, e, by omega, fun j u hu => ?_⟩
  rw [hb.cell (by rw [block_of_add]; omega)]
  exact hc' j u hu
theorem ownB_below {w w' : World} {base : Nat} {v : Value} {bs : List UInt8} (h : OwnB w base v bs) (hb : Below w.heap.size w w') : OwnB w' base v bs := by
  refine ⟨h.1, ?_⟩
  rcases h.2 with hn | ⟨g, cap, cur, rfl, hbg, hg, rest⟩
  · exact .inl hn
  · exact .inr ⟨g, cap, cur, rfl, hbg, by rw [hb.block g (Array.getElem?_eq_some_iff.1 hg).1]; exact hg, rest⟩
theorem ownB_lo {w : World} {base : Nat} {v : Value} {bs : List UInt8} (h : OwnB w base v bs) : ∀ k, v.ownBlock = some k → base ≤ k := by
  intro k hk
  rcases h.2 with ⟨rfl, -⟩ | ⟨g, cap, cur, rfl, hb, -⟩
  · simp [Value.ownBlock] at hk
  · simp only [Value.ownBlock, Option.some.injEq] at hk; omega
theorem addr_pos (p : Addr) (j : Nat) (h : j ≠ 0) : p.add j = ⟨p.block, p.off + j, none⟩ := by unfold Addr.add; rw [if_neg h]
theorem ownB_mono {w : World} {base b' : Nat} {v : Value} {bs : List UInt8} (h : OwnB w base v bs) (hb : b' ≤ base) : OwnB w b' v bs := by
  refine ⟨h.1, ?_⟩
  rcases h.2 with hn | ⟨g, cap, cur, rfl, hbg, hg, rest⟩
  · exact .inl hn
  · exact .inr ⟨g, cap, cur, rfl, by omega, hg, rest⟩
theorem own_litB {w : World} {base g n size : Nat} {e : TypeId} {cs : Array Value} (hg : w.heap[g]? = some (.cells cs e (0, 0))) (hb : base ≤ g) (hs : cs.size = n * size) (hn : n ≤ maxLen) : w.ownsRow base e size (.slice (some ⟨g, 0, none⟩) n n) n cs.toList :=
  ⟨by rw [Array.length_toList]; exact hs, .inr ⟨g, n, cs, rfl, hb, hg, Nat.le_refl _, hn, hs, by rw [← hs, ← Array.length_toList]; exact List.take_length⟩⟩
end Go.Proofs.Ytafnebpbfmbgiaa

namespace Go.Proofs.Ytafnebpbfmbgiaa
open Go.RowKit Go.Sort
/-- a register as sealed bytes -/
def packR (base : Int) (ds : List Int) : List UInt8 := sealB (82 :: regB base ds)
theorem regB_len (base : Int) (ds : List Int) : (regB base ds).length = (ds.length + 1) / 2 + 1 := by simp [regB]
theorem ownB_cells {w : World} {base n c : Nat} {A : Option Addr} {bs : List UInt8} (h : OwnB w base (.slice A n c) bs) (hn : 0 < n) : ∃ g, A = some ⟨g, 0, none⟩ ∧ ∀ j u, (bs.map byteV)[j]? = some u → w.cell? ((⟨g, 0, none⟩ : Addr).add j) = some u := by
  rcases h.2 with ⟨e, hz⟩ | ⟨g, cap, cur, e, hbg, hc, -⟩
  · have := (ownB_form h).1; omega
  · injection e with e _ _
    subst e
    exact ⟨g, rfl, fun j u hu => h.cells (g := g) rfl j u hu⟩
end Go.Proofs.Ytafnebpbfmbgiaa

namespace Go.Proofs.Ytafnebpbfmbgiaa
open Go.RowKit Go.Sort
/-- digit k of packed digits -/
def digK (tl : List UInt8) (k : Nat) : Int := if k % 2 = 0 then ((tl.getD (k / 2) 0).toNat / 16 : Nat) else ((tl.getD (k / 2) 0).toNat % 16 : Nat)
def digL (tl : List UInt8) (n : Nat) : List Int := (List.range n).map (digK tl)
theorem digL_succ (tl : List UInt8) (n : Nat) : digL tl (n + 1) = digL tl n ++ [digK tl n] := by simp [digL, List.range_succ]
theorem digL_len (tl : List UInt8) (n : Nat) : (digL tl n).length = n := by simp [digL]
/-- base and width that the first byte tells -/
def bas (b : UInt8) : Nat := b.toNat / 16 + 1
def wdt (b : UInt8) : Nat := b.toNat % 16 + 1
end Go.Proofs.Ytafnebpbfmbgiaa

namespace Go.Proofs.Ytafnebpbfmbgiaa
open Go.RowKit Go.Sort
/-- an odd register's last half byte is 0 -/
def fineL (tl : List UInt8) (n : Nat) : Bool := n % 2 == 0 || (tl.getD ((n + 1) / 2 - 1) 0).toNat % 16 == 0
end Go.Proofs.Ytafnebpbfmbgiaa

namespace Go.Proofs.Ytafnebpbfmbgiaa
open Go.RowKit Go.Sort
/-- are there enough bytes for a register; the register; what is behind it -/
def tkOk : List UInt8 → Bool
  | [] => false
  | b :: tl => decide ((wdt b + 1) / 2 ≤ tl.length)
def tkReg : List UInt8 → Reg
  | [] => ⟨0, []⟩
  | b :: tl => if (wdt b + 1) / 2 ≤ tl.length then ⟨bas b, digL tl (wdt b)⟩ else ⟨0, []⟩
def tkRest : List UInt8 → List UInt8
  | [] => []
  | b :: tl => if (wdt b + 1) / 2 ≤ tl.length then tl.drop ((wdt b + 1) / 2) else []
/-- an odd register's last half byte is 0 -/
def tkFine : List UInt8 → Bool
  | [] => false
  | b :: tl => decide ((wdt b + 1) / 2 ≤ tl.length) && fineL tl (wdt b)
/-- what packed digits say -/
theorem toB_byte (b : UInt8) (z : Int) (h : z = b.toNat) : toB z = b := by
  subst h
  unfold toB
  simp
theorem digL_getD (tl : List UInt8) (n k : Nat) : (digL tl n).getD k 0 = if k < n then digK tl k else 0 := by
  unfold digL
  by_cases h : k < n
  · rw [if_pos h]; simp [List.getD, h]
  · rw [if_neg h]; simp [List.getD, List.getElem?_eq_none (show (List.map (digK tl) (List.range n)).length ≤ k by simp; omega)]
theorem regB_digL (b : UInt8) (tl : List UInt8) (hl : tl.length = (wdt b + 1) / 2) (hf : fineL tl (wdt b) = true) : regB (bas b) (digL tl (wdt b)) = b :: tl := by
  have hw : wdt b = b.toNat % 16 + 1 := rfl
  have hb : bas b = b.toNat / 16 + 1 := rfl
  unfold regB
  rw [digL_len]
  congr 1
  · refine toB_byte b _ ?_
    rw [hw, hb]; omega
  · refine List.ext_getElem (by simp [hl]) fun j h1 h2 => ?_
    simp only [List.getElem_map, List.getElem_range]
    refine toB_byte _ _ ?_
    have hj : j < (wdt b + 1) / 2 := by simpa using h1
    have hg : tl.getD j 0 = tl[j] := by simp [List.getD, List.getElem?_eq_getElem h2]
    unfold pairAt
    rw [digL_getD, digL_getD, if_pos (by omega)]
    have d0 : digK tl (j * 2) = ((tl[j].toNat / 16 : Nat) : Int) := by
      unfold digK; rw [if_pos (by omega), show j * 2 / 2 = j by omega, hg]
    have d1 : digK tl (j * 2 + 1) = ((tl[j].toNat % 16 : Nat) : Int) := by
      unfold digK; rw [if_neg (by omega), show (j * 2 + 1) / 2 = j by omega, hg]
    rw [d0, d1]
    by_cases hj2 : j * 2 + 1 < wdt b
    · rw [if_pos hj2]; omega
    · rw [if_neg hj2]
      have hodd : wdt b % 2 = 1 := by omega
      have hje : (wdt b + 1) / 2 - 1 = j := by omega
      unfold fineL at hf
      rw [hje, hg] at hf
      have : tl[j].toNat % 16 = 0 := by
        rcases Bool.or_eq_true _ _ ▸ hf with h | h
        · rw [beq_iff_eq] at h; omega
        · rw [beq_iff_eq] at h; exact h
      omega
/-- what a register's bytes read as, whatever lies behind them -/
theorem tk_regB (base : Int) (ds : List Int) (more : List UInt8) (h : vreg base ds = true) : tkOk (regB base ds ++ more) = true ∧ tkReg (regB base ds ++ more) = ⟨base, ds⟩ ∧ tkRest (regB base ds ++ more) = more ∧ tkFine (regB base ds ++ more) = true := by
  obtain ⟨⟨b1, b2⟩, ⟨n1, n2⟩, hd, -⟩ := vreg_iff.1 h
  obtain ⟨b, hb⟩ : ∃ b, b = toB (16 * (base - 1) + ((ds.length : Int) - 1)) := ⟨_, rfl⟩
  obtain ⟨tl, htl⟩ : ∃ tl, tl = (List.range ((ds.length + 1) / 2)).map (fun j => toB (pairAt ds j)) := ⟨_, rfl⟩
  have hreg : regB base ds = b :: tl := by unfold regB; rw [← hb, ← htl]
  have hbn : b.toNat = (16 * (base - 1) + ((ds.length : Int) - 1)).toNat := by
    rw [hb]; unfold toB; rw [UInt8.toNat_ofNat']; omega
  have hw : wdt b = ds.length := by unfold wdt; omega
  have hbs : (bas b : Int) = base := by unfold bas; omega
  have hlen : tl.length = (ds.length + 1) / 2 := by rw [htl]; simp
  have hle : (wdt b + 1) / 2 ≤ (tl ++ more).length := by rw [hw, List.length_append, hlen]; omega
  have hget : ∀ j, j < (ds.length + 1) / 2 → ((tl ++ more).getD j 0).toNat = (pairAt ds j).toNat ∧ 0 ≤ pairAt ds j ∧ pairAt ds j < 256 := by
    intro j hj
    have hp : 0 ≤ pairAt ds j ∧ pairAt ds j < 256 := by
      unfold pairAt
      have q : ∀ k, 0 ≤ ds.getD k 0 ∧ ds.getD k 0 < 16 := by
        intro k
        by_cases hk : k < ds.length
        · have := hd _ (List.getElem_mem hk)
          rw [show ds.getD k 0 = ds[k] by simp [List.getD, List.getElem?_eq_getElem hk]]; omega
        · rw [show ds.getD k 0 = 0 by simp [List.getD, List.getElem?_eq_none (show ds.length ≤ k by omega)]]; omega
      have := q (j * 2); have := q (j * 2 + 1); omega
    refine ⟨?_, hp⟩
    have hjl : j < tl.length := by omega
    rw [show (tl ++ more).getD j 0 = tl[j] by simp [List.getD, List.getElem?_append_left hjl, List.getElem?_eq_getElem hjl]]
    simp only [htl, List.getElem_map, List.getElem_range]
    unfold toB; rw [UInt8.toNat_ofNat']; omega
  have hdig : digL (tl ++ more) (wdt b) = ds := by
    rw [hw]
    refine List.ext_getElem (by simp [digL]) fun k h1 h2 => ?_
    simp only [digL, List.getElem_map, List.getElem_range]
    obtain ⟨g1, g2, g3⟩ := hget (k / 2) (by omega)
    have hdk := hd _ (List.getElem_mem h2)
    have hk0 : ds.getD k 0 = ds[k] := by simp [List.getD, List.getElem?_eq_getElem h2]
    unfold digK
    rw [g1]
    unfold pairAt at g2 g3 ⊢
    rcases Nat.mod_two_eq_zero_or_one k with hm | hm
    · rw [if_pos hm]
      rw [show k / 2 * 2 = k by omega, hk0] at g2 g3 ⊢
      have hn : 0 ≤ ds.getD (k + 1) 0 ∧ ds.getD (k + 1) 0 < 16 := by
        by_cases hk : k + 1 < ds.length
        · have := hd _ (List.getElem_mem hk)
          rw [show ds.getD (k + 1) 0 = ds[k + 1] by simp [List.getD, List.getElem?_eq_getElem hk]]; omega
        · rw [show ds.getD (k + 1) 0 = 0 by simp [List.getD, List.getElem?_eq_none (show ds.length ≤ k + 1 by omega)]]; omega
      omega
    · rw [if_neg (by omega)]
      rw [show k / 2 * 2 + 1 = k by omega, hk0] at g2 g3 ⊢
      omega
  have hfine : fineL (tl ++ more) (wdt b) = true := by
    unfold fineL
    rw [hw]
    rcases Nat.mod_two_eq_zero_or_one ds.length with hm | hm
    · simp [hm]
    · obtain ⟨g1, g2, g3⟩ := hget ((ds.length + 1) / 2 - 1) (by omega)
      rw [g1]
      have : ds.getD (((ds.length + 1) / 2 - 1) * 2 + 1) 0 = 0 := by simp [List.getD, List.getElem?_eq_none (show ds.length ≤ ((ds.length + 1) / 2 - 1) * 2 + 1 by omega)]
      have h2 : (pairAt ds ((ds.length + 1) / 2 - 1)).toNat % 16 = 0 := by
        unfold pairAt at g2 g3 ⊢
        rw [this] at g2 g3 ⊢
        omega
      rw [h2]; simp
  rw [hreg, List.cons_append]
  refine ⟨?_, ?_, ?_, ?_⟩
  · simp only [tkOk]; exact decide_eq_true hle
  · simp only [tkReg]; rw [if_pos hle, hbs, hdig]
  · simp only [tkRest]; rw [if_pos hle, hw, ← hlen]; simp
  · simp only [tkFine]; rw [decide_eq_true hle, hfine]; rfl
end Go.Proofs.Ytafnebpbfmbgiaa

namespace Go.Proofs.Ytafnebpbfmbgiaa
open Go.RowKit Go.Sort
/-- the register of bytes -/
def unpR : List UInt8 → Option Reg
  | [] => none
  | b :: tl => if tkOk tl && (tkReg tl).ok && decide (packR (tkReg tl).base (tkReg tl).digits = b :: tl) then some (tkReg tl) else none
def unpReg (bs : List UInt8) : Reg := (unpR bs).getD ⟨0, []⟩
def unpCode (bs : List UInt8) : Int := if (unpR bs).isSome then 0 else 8
theorem unp_none {bs : List UInt8} (h : unpR bs = none) : unpReg bs = ⟨0, []⟩ ∧ unpCode bs = 8 := by simp [unpReg, unpCode, h]
theorem unp_some {bs : List UInt8} {r : Reg} (h : unpR bs = some r) : unpReg bs = r ∧ unpCode bs = 0 := by simp [unpReg, unpCode, h]
theorem tk_not {bs : List UInt8} (h : tkOk bs = false) : tkReg bs = ⟨0, []⟩ := by
  cases bs with
  | nil => rfl
  | cons b tl => simp only [tkOk, decide_eq_false_iff_not] at h; simp only [tkReg]; rw [if_neg h]
theorem tkReg_len (bs : List UInt8) : (tkReg bs).digits.length ≤ 16 := by
  cases bs with
  | nil => simp [tkReg]
  | cons b tl =>
    simp only [tkReg]
    split
    · simp only [digL_len]; unfold wdt; omega
    · simp
end Go.Proofs.Ytafnebpbfmbgiaa

namespace Go.Proofs.Ytafnebpbfmbgiaa
open Go.RowKit Go.Sort
/-- bytes of a kind with their checksum behind them; what lies between -/
def bodyOk (k : UInt8) (bs : List UInt8) : Bool := decide (3 ≤ bs.length) && (bs.getD 0 0 == k) && decide (sumB (bs.take (bs.length - 2)) = 256 * ((bs.getD (bs.length - 2) 0).toNat : Int) + ((bs.getD (bs.length - 1) 0).toNat : Int))
def bodyB (k : UInt8) (bs : List UInt8) : List UInt8 := if bodyOk k bs then (bs.drop 1).take (bs.length - 3) else []
/-- what a body is -/
theorem body_iff (k : UInt8) (bs : List UInt8) : bodyOk k bs = true ↔ bs = sealB (k :: bodyB k bs) := by
  constructor
  · intro h
    have hB : bodyB k bs = (bs.drop 1).take (bs.length - 3) := by rw [bodyB, h]; rfl
    unfold bodyOk at h
    simp only [Bool.and_eq_true, decide_eq_true_eq, beq_iff_eq] at h
    obtain ⟨⟨h3, h0⟩, hs⟩ := h
    obtain ⟨x, y, rfl⟩ : ∃ (l : List UInt8) (y : UInt8), bs = k :: l ++ [y] := by
      cases bs with
      | nil => simp at h3
      | cons b t =>
        have hbk : b = k := by simpa [List.getD] using h0
        subst hbk
        rcases List.eq_nil_or_concat t with rfl | ⟨l, y, rfl⟩
        · simp at h3
        · exact ⟨l, y, by simp⟩
    obtain ⟨l, z, rfl⟩ : ∃ (l : List UInt8) (z : UInt8), x = l ++ [z] := by
      rcases List.eq_nil_or_concat x with rfl | ⟨l, z, rfl⟩
      · simp at h3
      · exact ⟨l, z, by simp⟩
    have e1 : ((k :: (l ++ [z]) ++ [y]).take ((k :: (l ++ [z]) ++ [y]).length - 2)) = k :: l := by
      rw [show (k :: (l ++ [z]) ++ [y]).length - 2 = (k :: l).length by simp, show k :: (l ++ [z]) ++ [y] = (k :: l) ++ [z, y] by simp, List.take_left]
    have e2 : (k :: (l ++ [z]) ++ [y]).getD ((k :: (l ++ [z]) ++ [y]).length - 2) 0 = z := by
      rw [show (k :: (l ++ [z]) ++ [y]).length - 2 = (k :: l).length by simp, show k :: (l ++ [z]) ++ [y] = (k :: l) ++ [z, y] by simp]
      simp [List.getD, List.getElem?_append_right]
    have e3 : (k :: (l ++ [z]) ++ [y]).getD ((k :: (l ++ [z]) ++ [y]).length - 1) 0 = y := by
      rw [show (k :: (l ++ [z]) ++ [y]).length - 1 = (k :: (l ++ [z])).length by simp]
      simp [List.getD, List.getElem?_append_right]
    rw [e1, e2, e3] at hs
    have hb : bodyB k (k :: (l ++ [z]) ++ [y]) = l := by
      rw [hB]
      rw [show (k :: (l ++ [z]) ++ [y]).length - 3 = l.length by simp, show (k :: (l ++ [z]) ++ [y]).drop 1 = l ++ [z, y] by simp, List.take_left]
    rw [hb]
    unfold sealB
    have z2 := z.toNat_lt
    have y2 := y.toNat_lt
    rw [hs, show ((256 * (z.toNat : Int) + (y.toNat : Int)) / 256).toNat = z.toNat by omega, show ((256 * (z.toNat : Int) + (y.toNat : Int)) % 256).toNat = y.toNat by omega]
    simp
  · intro h
    obtain ⟨l, hl⟩ : ∃ l, bodyB k bs = l := ⟨_, rfl⟩
    rw [hl] at h
    rw [h]
    obtain ⟨s0, s1⟩ := sumB_bd (k :: l)
    unfold bodyOk sealB
    have e1 : ((k :: l) ++ [UInt8.ofNat (sumB (k :: l) / 256).toNat, UInt8.ofNat (sumB (k :: l) % 256).toNat]).length - 2 = (k :: l).length := by simp
    have e2 : ((k :: l) ++ [UInt8.ofNat (sumB (k :: l) / 256).toNat, UInt8.ofNat (sumB (k :: l) % 256).toNat]).length - 1 = (k :: l).length + 1 := by simp
    rw [e1, e2, List.take_left]
    have e3 : ∀ (p q : UInt8), (((k :: l) ++ [p, q]).getD (k :: l).length 0) = p ∧ (((k :: l) ++ [p, q]).getD ((k :: l).length + 1) 0) = q := by
      intro p q
      constructor <;> simp [List.getD, List.getElem?_append_right]
    rw [(e3 _ _).1, (e3 _ _).2, UInt8.toNat_ofNat', UInt8.toNat_ofNat']
    simp only [Bool.and_eq_true, decide_eq_true_eq, beq_iff_eq]
    refine ⟨⟨by simp, by simp [List.getD]⟩, by omega⟩
theorem body_of (k : UInt8) (l : List UInt8) : bodyOk k (sealB (k :: l)) = true ∧ bodyB k (sealB (k :: l)) = l := by
  have hb : (((sealB (k :: l)).drop 1).take ((sealB (k :: l)).length - 3)) = l := by
    unfold sealB
    rw [show ((k :: l) ++ [UInt8.ofNat (sumB (k :: l) / 256).toNat, UInt8.ofNat (sumB (k :: l) % 256).toNat]).length - 3 = l.length by simp]
    rw [List.cons_append, List.drop_succ_cons, List.drop_zero, List.take_left]
  have h1 : bodyOk k (sealB (k :: l)) = true := by
    obtain ⟨s0, s1⟩ := sumB_bd (k :: l)
    unfold bodyOk sealB
    have e1 : ((k :: l) ++ [UInt8.ofNat (sumB (k :: l) / 256).toNat, UInt8.ofNat (sumB (k :: l) % 256).toNat]).length - 2 = (k :: l).length := by simp
    have e2 : ((k :: l) ++ [UInt8.ofNat (sumB (k :: l) / 256).toNat, UInt8.ofNat (sumB (k :: l) % 256).toNat]).length - 1 = (k :: l).length + 1 := by simp
    rw [e1, e2, List.take_left]
    have e3 : ∀ (p q : UInt8), (((k :: l) ++ [p, q]).getD (k :: l).length 0) = p ∧ (((k :: l) ++ [p, q]).getD ((k :: l).length + 1) 0) = q := by
      intro p q
      constructor <;> simp [List.getD, List.getElem?_append_right]
    rw [(e3 _ _).1, (e3 _ _).2, UInt8.toNat_ofNat', UInt8.toNat_ofNat']
    simp only [Bool.and_eq_true, decide_eq_true_eq, beq_iff_eq]
    refine ⟨⟨by simp, by simp [List.getD]⟩, by omega⟩
  exact ⟨h1, by unfold bodyB; rw [h1]; exact hb⟩
end Go.Proofs.Ytafnebpbfmbgiaa

namespace Go.Proofs.Ytafnebpbfmbgiaa
open Go.RowKit Go.Sort
theorem sealB_inj {a b : List UInt8} (h : sealB a = sealB b) : a = b := by
  have hl : a.length = b.length := by have := congrArg List.length h; simpa [sealB] using this
  exact List.append_inj_left h hl
theorem tk_more (bs more : List UInt8) (h : tkOk bs = true) : tkOk (bs ++ more) = true ∧ tkReg (bs ++ more) = tkReg bs ∧ tkRest (bs ++ more) = tkRest bs ++ more := by
  cases bs with
  | nil => cases h
  | cons b tl =>
    have hle : (wdt b + 1) / 2 ≤ tl.length := of_decide_eq_true h
    have hle2 : (wdt b + 1) / 2 ≤ (tl ++ more).length := by rw [List.length_append]; omega
    refine ⟨decide_eq_true hle2, ?_, ?_⟩
    · rw [List.cons_append]; simp only [tkReg]
      rw [if_pos hle, if_pos hle2]
      congr 1
      unfold digL
      refine List.map_congr_left fun k hk => ?_
      have hk : k < wdt b := List.mem_range.1 hk
      have : (tl ++ more).getD (k / 2) 0 = tl.getD (k / 2) 0 := by simp [List.getD, List.getElem?_append_left (show k / 2 < tl.length by omega)]
      unfold digK
      rw [this]
    · rw [List.cons_append]; simp only [tkRest]
      rw [if_pos hle, if_pos hle2, List.drop_append_of_le_length hle]
theorem tkFine_ok {bs : List UInt8} (h : tkFine bs = true) : tkOk bs = true := by
  cases bs with
  | nil => cases h
  | cons b tl => simp only [tkFine, Bool.and_eq_true] at h; exact h.1
/-- the bytes of what is read -/
theorem tk_bytes {bs : List UInt8} (h : tkFine bs = true) : bs = regB (tkReg bs).base (tkReg bs).digits ++ tkRest bs := by
  cases bs with
  | nil => cases h
  | cons b tl =>
    simp only [tkFine, Bool.and_eq_true, decide_eq_true_eq] at h
    obtain ⟨hle, hf⟩ := h
    simp only [tkReg, tkRest]
    rw [if_pos hle, if_pos hle]
    have h2 : fineL (tl.take ((wdt b + 1) / 2)) (wdt b) = true := by
      rw [← hf]; unfold fineL
      congr 3
      have hw : 1 ≤ wdt b := by unfold wdt; omega
      simp [List.getD, List.getElem?_take, show (wdt b + 1) / 2 - 1 < (wdt b + 1) / 2 by omega]
    have h3 := regB_digL b (tl.take ((wdt b + 1) / 2)) (by rw [List.length_take]; omega) h2
    have h4 : digL (tl.take ((wdt b + 1) / 2)) (wdt b) = digL tl (wdt b) := by
      unfold digL
      refine List.map_congr_left fun k hk => ?_
      have hk : k < wdt b := List.mem_range.1 hk
      have : (tl.take ((wdt b + 1) / 2)).getD (k / 2) 0 = tl.getD (k / 2) 0 := by simp [List.getD, List.getElem?_take, show k / 2 < (wdt b + 1) / 2 by omega]
      unfold digK
      rw [this]
    rw [h4] at h3
    rw [h3, List.cons_append, List.take_append_drop]
theorem unpR_spec (bs : List UInt8) : unpR bs = if bodyOk 82 bs && tkFine (bodyB 82 bs) && (tkRest (bodyB 82 bs)).isEmpty && (tkReg (bodyB 82 bs)).ok then some (tkReg (bodyB 82 bs)) else none := by
  by_cases h : (bodyOk 82 bs && tkFine (bodyB 82 bs) && (tkRest (bodyB 82 bs)).isEmpty && (tkReg (bodyB 82 bs)).ok) = true
  · rw [if_pos h]
    simp only [Bool.and_eq_true] at h
    obtain ⟨⟨⟨h1, h2⟩, h3⟩, h4⟩ := h
    obtain ⟨body, hbd⟩ : ∃ b, bodyB 82 bs = b := ⟨_, rfl⟩
    have hb := (body_iff 82 bs).1 h1
    rw [hbd] at hb h2 h3 h4 ⊢
    have h5 := tk_bytes h2
    rw [List.isEmpty_iff.1 h3, List.append_nil] at h5
    have hs : bs = 82 :: (body ++ [UInt8.ofNat (sumB (82 :: body) / 256).toNat, UInt8.ofNat (sumB (82 :: body) % 256).toNat]) := by rw [hb]; rfl
    obtain ⟨m1, m2, -⟩ := tk_more body [UInt8.ofNat (sumB (82 :: body) / 256).toNat, UInt8.ofNat (sumB (82 :: body) % 256).toNat] (tkFine_ok h2)
    have hp : packR (tkReg body).base (tkReg body).digits = bs := by unfold packR; rw [← h5]; exact hb.symm
    rw [hs]
    simp only [unpR]
    rw [m1, m2, h4, ← hs, hp]; simp
  · rw [if_neg h]
    cases bs with
    | nil => rfl
    | cons b tl =>
      simp only [unpR]
      rw [if_neg]
      intro h2
      simp only [Bool.and_eq_true, decide_eq_true_eq] at h2
      obtain ⟨⟨h1, h3⟩, h4⟩ := h2
      apply h
      obtain ⟨R, hR⟩ : ∃ R, tkReg tl = R := ⟨_, rfl⟩
      rw [hR] at h3 h4
      rw [← h4]
      obtain ⟨k1, k2⟩ := body_of 82 (regB R.base R.digits)
      obtain ⟨j1, j2, j3, j4⟩ := tk_regB R.base R.digits [] h3
      rw [List.append_nil] at j1 j2 j3 j4
      unfold packR
      rw [k1, k2, j2, j3, j4]
      simp [show (⟨R.base, R.digits⟩ : Reg).ok = true from h3]
end Go.Proofs.Ytafnebpbfmbgiaa

namespace Go.Proofs.Ytafnebpbfmbgiaa
open Go.RowKit Go.Sort
/-- a machine as sealed bytes -/
def packM (t : Tri) : List UInt8 := sealB (77 :: toB t.carry :: (regB t.a.base t.a.digits ++ regB t.b.base t.b.digits ++ regB t.s.base t.s.digits))
theorem vmach_five {t : Tri} (h : vmach t = true) : t.a.ok = true ∧ t.b.ok = true ∧ t.s.ok = true ∧ 0 ≤ t.carry ∧ t.carry ≤ 15 := by
  unfold vmach at h
  simp only [Bool.and_eq_true] at h
  obtain ⟨⟨⟨⟨h1, h2⟩, h3⟩, -⟩, -, h4⟩ := h
  have h5 := betB_iff.1 h4
  obtain ⟨-, -, p3⟩ := ok_bd h3
  unfold vplaces at h5
  exact ⟨h1, h2, h3, h5.1, by omega⟩
theorem regB_le {r : Reg} (h : r.ok = true) : 0 < (regB r.base r.digits).length ∧ (regB r.base r.digits).length ≤ 20 := by
  obtain ⟨-, ⟨n1, n2⟩, -, -⟩ := vreg_iff.1 h
  rw [regB_len]; omega
end Go.Proofs.Ytafnebpbfmbgiaa

namespace Go.Proofs.Ytafnebpbfmbgiaa
open Go.RowKit Go.Sort
/-- a row of bytes that is owned -/
def rowB (v : Value) (bs : List UInt8) : Ent := .row v 5 1 bs.length (bs.map byteV)
theorem kn_pushB {ops : Array Oper} {rest : List Oper} {o : Oper} {a : Act} {Q : Exit → Act → World → Prop} {w0 w : World} {m : List Ent} (hgd : o.guard = none) (s x : Operand) (ho : o.op = .call { callee := .builtin .append, args := #[s, x], argTypes := #[22, 22] })
    (v : Value) (bs : List UInt8) (hs : a.eval s = v) {g c : Nat} {T' : TypeId} {z : Int} (hx : a.eval x = .slice (some ⟨g, 0, none⟩) 1 c)
    (hK : Kn w0 (.blk g [.int .u8 z] T' :: rowB v bs :: m) w) (hz : 0 ≤ z ∧ z < 256) (hl : bs.length ≤ 10000000)
    (h : ∀ v' w', Kn w0 (rowB v' (bs ++ [UInt8.ofNat z.toNat]) :: m) w' → wpList Try.prog ops Q rest (a.put o.dst v') w') : wpList Try.prog ops Q (o :: rest) a w := by
  refine kn_app tpB hgd s x ho v bs.length (bs.map byteV) hs hx hK rfl (by simp [Value.oneCell']) (by omega) (by omega) (fun v' w' hK' => h v' w' ?_)
  unfold rowB
  rw [List.length_append, List.map_append, List.map_cons, List.map_nil, ← ofNat_byte hz.1 hz.2]
  exact hK'
theorem kn_litB {w0 w : World} {m : List Ent} {g : Nat} {zs : List Int} {bs : List UInt8} (h : Kn w0 (.blk g (zs.map (Value.int .u8)) 5 :: m) w) (hz : zs.map (Value.int .u8) = bs.map byteV) (hl : bs.length ≤ 1000000) : Kn w0 (rowB (.slice (some ⟨g, 0, none⟩) bs.length bs.length) bs :: m) w := by
  unfold rowB
  rw [hz] at h
  exact h.litRow (by simp) (by simp only [maxLen]; omega)
/-- seven bits in a byte, the lowest ones first -/
def varB (n : Nat) : List UInt8 := if h : n < 128 then [UInt8.ofNat n] else UInt8.ofNat (128 + n % 128) :: varB (n / 128)
theorem varB_lt {n : Nat} (h : n < 128) : varB n = [UInt8.ofNat n] := by rw [varB, dif_pos h]
theorem varB_ge {n : Nat} (h : ¬ n < 128) : varB n = UInt8.ofNat (128 + n % 128) :: varB (n / 128) := by rw [varB, dif_neg h]
theorem varB_len : ∀ (k n : Nat), n < 128 ^ (k + 1) → (varB n).length ≤ k + 1
  | 0, n, h => by rw [varB_lt (by simpa using h)]; simp
  | k + 1, n, h => by
    by_cases h1 : n < 128
    · rw [varB_lt h1]; simp
    · rw [varB_ge h1, List.length_cons]
      have := varB_len k (n / 128) (by rw [Nat.pow_succ] at h; omega)
      omega
def insB (x : Ins) : List UInt8 := toB x.op :: varB x.arg.toNat
def progB (xs : List Ins) : List UInt8 := 80 :: UInt8.ofNat xs.length :: xs.flatMap insB
def packP (xs : List Ins) : List UInt8 := sealB (progB xs)
theorem instrOk_bd {op arg : Int} (h : instrOk op arg = true) : 1 ≤ op ∧ op ≤ 10 ∧ 0 ≤ arg ∧ arg ≤ 1000000000000 := by
  rcases op_cases op with rfl | rfl | rfl | rfl | rfl | rfl | rfl | rfl | rfl | rfl | h1
  rotate_right 1
  · rw [instrOk_else h1] at h; cases h
  all_goals
    simp [instrOk, betB] at h
    omega
theorem vprog_each {xs : List Ins} (h : vprog xs = true) : xs.length ≤ 120 ∧ ∀ x ∈ xs, instrOk x.op x.arg = true := by
  unfold vprog at h
  simp only [Bool.and_eq_true, decide_eq_true_eq] at h
  refine ⟨h.2, fun x hx => ?_⟩
  obtain ⟨k, hk, rfl⟩ := List.getElem_of_mem hx
  rcases hi : instrOk xs[k].op xs[k].arg with _ | _
  · have h2 : progD xs = none := progD_none (k := k + 1) (by
      rw [progD_succ hk]
      cases progD (xs.take k) with
      | none => rfl
      | some d => simp [stepI, hi])
    rw [h2] at h; simp at h
  · rfl
theorem insB_len {x : Ins} (h : instrOk x.op x.arg = true) : (insB x).length ≤ 7 := by
  have h1 := instrOk_bd h
  have := varB_len 5 x.arg.toNat (by omega)
  simp [insB]; omega
theorem flat_len {xs : List Ins} (h : ∀ x ∈ xs, instrOk x.op x.arg = true) : (xs.flatMap insB).length ≤ 7 * xs.length := by
  induction xs with
  | nil => simp
  | cons x xs ih =>
    rw [List.flatMap_cons, List.length_append, List.length_cons]
    have h1 := insB_len (h x (by simp))
    have h2 := ih (fun y hy => h y (by simp [hy]))
    omega
def progP (n : Nat) (xs : List Ins) : List UInt8 := 80 :: UInt8.ofNat n :: xs.flatMap insB
theorem progP_succ {n k : Nat} {xs : List Ins} (h : k < xs.length) : progP n (xs.take (k + 1)) = progP n (xs.take k) ++ insB xs[k] := by
  unfold progP; rw [List.take_succ_eq_append_getElem h, List.flatMap_append]; simp
theorem varB_bd {a : Nat} {l pre : List UInt8} (h : pre ++ varB a = l) (hl : l.length ≤ 7) : pre.length ≤ 6 := by
  have h1 := congrArg List.length h
  rw [List.length_append] at h1
  have : 1 ≤ (varB a).length := by rw [varB]; split <;> simp
  omega
end Go.Proofs.Ytafnebpbfmbgiaa

namespace Go.Proofs.Ytafnebpbfmbgiaa
open Go.RowKit Go.Sort
section
variable {o : Oper} {a : Act} {K : Act → World → Prop} {Q : Exit → Act → World → Prop} {w w0 : World} {m : List Ent}
/-- append as one operation of a region that draws -/
theorem appGo {t e : TypeId} {z : Value} {size bytes : Nat} (T : TP t e z size bytes) (s x : Operand) (ho : o.op = .call { callee := .builtin .append, args := #[s, x], argTypes := #[t, t] })
    (base : Nat) (v : Value) (n : Nat) (xs : List Value) (hs : a.eval s = v) (hown : w.ownsRow base e size v n xs) (ad : Addr) (m c : Nat) (news : List Value) (hx : a.eval x = .slice (some ad) m c)
    (hl : news.length = m * size) (hnews : ∀ j u, news[j]? = some u → w.cell? (ad.add j) = some u) (h1 : ∀ u ∈ news, u.oneCell' = true)
    (h63 : n + m ≤ 1000000000000000) (hb : (n + m) * bytes ≤ 140737488355328) (hbase : base ≤ w.heap.size)
    (h : ∀ v' w', w'.ownsRow base e size v' (n + m) (xs ++ news) → w.grownBy w' v.ownBlock → (v'.ownBlock = v.ownBlock ∨ v'.ownBlock = some w.heap.size) → K (a.put o.dst v') w') : Oper.wp Try.prog o a w K Q := by
  obtain ⟨i0, hi, hz0, hz1, hz2⟩ := info_parts T.info
  obtain ⟨v', w', hrun, h2, h3, _, h5⟩ := run_append_own_at (P := Try.prog) w base t o.type e i0 z size bytes T.under hi hz0 hz1 hz2 T.zc T.pos v n xs hown ad m c news hl hnews h1 (by simp only [maxLen]; omega) hb hbase
  unfold Oper.wp execOp
  simp only [ho, resolve, invoke, builtin, Sem.run_bind, Sem.run_pure, Result.andThen_ok, List.map_toArray, List.map_cons, List.map_nil, hs, hx, hrun]
  exact h v' w' h2 h3 h5
theorem kn_pushBo (s x : Operand) (ho : o.op = .call { callee := .builtin .append, args := #[s, x], argTypes := #[22, 22] })
    (v : Value) (bs : List UInt8) (hs : a.eval s = v) {g c : Nat} {T' : TypeId} {z : Int} (hx : a.eval x = .slice (some ⟨g, 0, none⟩) 1 c)
    (hK : Kn w0 (.blk g [.int .u8 z] T' :: rowB v bs :: m) w) (hz : 0 ≤ z ∧ z < 256) (hl : bs.length ≤ 10000000)
    (h : ∀ v' w', Kn w0 (rowB v' (bs ++ [UInt8.ofNat z.toNat]) :: m) w' → K (a.put o.dst v') w') : Oper.wp Try.prog o a w K Q := by
  have hK2 := hK.sw1
  have h0 := hK.blkAt
  refine appGo tpB s x ho 0 v bs.length (bs.map byteV) hs hK2.at0 ⟨g, 0, none⟩ 1 c [.int .u8 z] hx rfl (fun j u hu => ?_) (by simp [Value.oneCell']) (by omega) (by omega) (Nat.zero_le _) (fun v' w' ho' hg hv => ?_)
  · rw [add_zero_block]; rw [h0.1 j]; exact hu
  · refine h v' w' ?_
    have hK' := hK2.drop1.grow hg ho' hv
    unfold rowB
    rw [List.length_append, List.map_append, List.map_cons, List.map_nil, ← ofNat_byte hz.1 hz.2]
    exact hK'
end
/-- what a loop of l27Digits knows -/
structure DgB (w0 : World) (m : List Ent) (g o : Nat) (base : Int) (A : Option Addr) (n c : Nat) (ds : List Int) : Prop where
  cells : ∀ (v : Value) (bs : List UInt8) (W : World), Kn w0 (rowB v bs :: m) W → W.cell? ⟨g, o, none⟩ = some (.int .i64 base) ∧ W.cell? ⟨g, o + 1, none⟩ = some (.slice A n c) ∧ RI W A n ds
end Go.Proofs.Ytafnebpbfmbgiaa
