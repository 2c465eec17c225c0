import Derived.Test.YtcngeifkddhkmaaDoorR8
namespace Go.Proofs.YtcngeifkddhkmaaDoor
open Go.RowKit Go.Sort
/-- powers -/
def pw (b : Int) : Nat → Int
  | 0 => 1
  | n + 1 => pw b n * b
theorem pw_pos (b : Int) (hb : 2 ≤ b) (n : Nat) : 1 ≤ pw b n := by
  induction n with
  | zero => simp [pw]
  | succ n ih => have := Int.mul_le_mul ih hb (by omega) (by omega); simp only [pw]; omega
theorem pw_step (b : Int) (hb : 2 ≤ b) (n : Nat) : 2 * pw b n ≤ pw b (n + 1) := by
  have := Int.mul_le_mul_of_nonneg_left hb (show 0 ≤ pw b n by have := pw_pos b hb n; omega)
  simp only [pw]; omega
theorem pw_mono (b : Int) (hb : 2 ≤ b) (n k : Nat) (h : n ≤ k) : pw b n ≤ pw b k := by
  induction h with
  | refl => omega
  | @step m _ ih => have h1 := pw_step b hb m; have h2 := pw_pos b hb m; exact Int.le_trans ih (by show pw b m ≤ pw b (m + 1); omega)
def powC (b : Int) (n : Nat) : Int := if pw b n ≤ 1000000000001 then pw b n else 0
def powS (b : Int) (n : Nat) : Int := min 1000000000002 (pw b n)
theorem powS_succ (b : Int) (hb : 2 ≤ b) (n : Nat) : powS b (n + 1) = min 1000000000002 (powS b n * b) := by
  unfold powS
  have h1 := pw_pos b hb n
  rcases Int.le_total (pw b n) 1000000000002 with h | h
  · rw [Int.min_eq_right h]; rfl
  · have h2 := pw_step b hb n
    rw [Int.min_eq_left h, Int.min_eq_left (by omega), Int.min_eq_left (by omega)]
theorem powS_bd (b : Int) (hb : 2 ≤ b) (n : Nat) : 1 ≤ powS b n ∧ powS b n ≤ 1000000000002 := by
  have := pw_pos b hb n; unfold powS; omega
theorem power_any (b : Int) (n : Nat) (w : World) (hb1 : 2 ≤ b) (hb2 : b ≤ 16) (hn : n ≤ 9223372036854775807) :
    Calls Tryd.prog 207 #[.int .i64 b, .int .i64 n] w fun e w' => e = .returned (.int .i64 (powC b n)) ∧ w = w' := by
  go_enter Tryd.func207, Tryd.ntmps207
  go_wp2
  go_loop [5, 7] (fun v i => ∃ k : Nat, k ≤ n ∧ i = .int .i64 k ∧ v = .int .i64 (pw b k) ∧ pw b k ≤ 1000000000001) (fun _ i => n - (intOf i).toNat)
  case atStart => exact ⟨0, Nat.zero_le _, rfl, rfl, by simp [pw]⟩
  case round =>
    obtain ⟨k, hk, rfl, rfl, hv⟩ := hrel
    have h1 := pw_pos b hb1 k
    have hm0 : 0 ≤ pw b k * b := Int.mul_nonneg (by omega) (by omega)
    have hm1 : pw b k * b ≤ 16000000000016 := by
      have := Int.mul_le_mul hv hb2 (by omega) (by omega); omega
    by_cases hkn : k < n
    · have hP : Hid (pw b (k + 1) = pw b k * b) := rfl
      have hi1 : (k : Int) < (n : Int) := by omega
      by_cases hq : 1000000000000 < pw b k * b - 1
      · go_wp2
        go_ret
        exact ⟨ret_int (by have h2 := pw_mono b hb1 (k + 1) n (by omega); rw [hP.out] at h2; unfold powC; rw [if_neg (by omega)]), rfl⟩
      · go_wp2
        go_round
        case rel => exact ⟨k + 1, by omega, by go_num, by rw [hP.out], by rw [hP.out]; omega⟩
        case measure => simp [intOf]; omega
    · have hi1 : ¬ (k : Int) < (n : Int) := by omega
      obtain rfl : k = n := by omega
      go_wp2
      go_ret
      exact ⟨ret_int (by unfold powC; rw [if_pos hv]), rfl⟩
theorem l10Power_any (b : Int) (n : Nat) (w : World) (hb1 : 2 ≤ b) (hb2 : b ≤ 16) (hn : n ≤ 9223372036854775807) :
    Calls Tryd.prog 156 #[.int .i64 b, .int .i64 n] w fun e w' => e = .returned (.int .i64 (powS b n)) ∧ w = w' := by
  go_enter Tryd.func156, Tryd.ntmps156
  go_wp2
  go_loop [5, 1] (fun v i => ∃ k j : Nat, k + j = n ∧ i = .int .i64 j ∧ v = .int .i64 (powS b k)) (fun _ i => (intOf i).toNat)
  case atStart => exact ⟨0, n, by omega, rfl, rfl⟩
  case round =>
    obtain ⟨k, j, hk, rfl, rfl⟩ := hrel
    obtain ⟨h1, hv⟩ := powS_bd b hb1 k
    have hm0 : 0 ≤ powS b k * b := Int.mul_nonneg (by omega) (by omega)
    have hm1 : powS b k * b ≤ 16000000000032 := by
      have := Int.mul_le_mul hv hb2 (by omega) (by omega); omega
    have HP := Lib.hid (powS_succ b hb1 k)
    by_cases hj : 0 < j
    · have hi1 : (0 : Int) < (j : Int) := by omega
      go_wp2_with (go_at_call 178; refine (l00Min_any _ _ _).mono ?_; rintro e w' ⟨rfl, rfl⟩)
      go_round
      case rel => exact ⟨k + 1, j - 1, by omega, by congr 1; omega, by rw [HP.out]⟩
      case measure => simp [intOf]; omega
    · obtain rfl : j = 0 := by omega
      go_wp2_with (go_at_call 178; refine (l00Min_any _ _ _).mono ?_; rintro e w' ⟨rfl, rfl⟩)
      go_ret
      exact ⟨ret_int (by congr 1), rfl⟩
theorem l10Full_any (b : Int) (n : Nat) (w : World) (hb1 : 2 ≤ b) (hb2 : b ≤ 16) (hn : n ≤ 9223372036854775807) :
    Calls Tryd.prog 170 #[.int .i64 b, .int .i64 n] w fun e w' => e = .returned (.bool (decide (pw b n ≤ 1000000000001))) ∧ w = w' := by
  obtain ⟨h1, hv⟩ := powS_bd b hb1 n
  go_enter Tryd.func170, Tryd.ntmps170
  go_wp2_with (go_at_call 156; refine (l10Power_any _ _ _ hb1 hb2 hn).mono ?_; rintro e w' ⟨rfl, rfl⟩)
  go_ret
  exact ⟨ret_bool (by unfold powS; rw [decide_eq_decide]; omega), rfl⟩
theorem powC_zero (b : Int) (hb : 2 ≤ b) (n : Nat) : (powC b n == 0) = !decide (pw b n ≤ 1000000000001) := by
  have := pw_pos b hb n
  unfold powC
  split
  · rename_i h; rw [decide_eq_true h]; simp; omega
  · rename_i h; rw [decide_eq_false h]; rfl
end Go.Proofs.YtcngeifkddhkmaaDoor
