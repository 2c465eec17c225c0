import Derived.Test.YtmnegfhigfipbaaW1
import Derived.Test.YtmnegfhigfipbaaG6
namespace Go.Proofs.Ytmnegfhigfipbaa
open Go.RowKit Go.Sort
theorem l07Size_any (n : Int) (w : World) : Calls Try.prog 68 #[.int .i64 n] w fun e w' => e = .returned (.bool (betB n 1 16)) ∧ w = w' := by
  go_enter Try.func68, Try.ntmps68
  go_wp2_with (go_at_call 54; refine (l00In_any _ _ _ _).mono ?_; rintro e w' ⟨rfl, rfl⟩)
  go_ret
  exact ⟨rfl, rfl⟩
set_option maxHeartbeats 1600000 in
theorem l08Ok_true (n : Nat) (A : Option Addr) (m c : Nat) (fs : List Flt) (w : World) (hr : RL FltM 2 w A m fs) (hg : GoodF n fs) (ha : Asc fs) (hn1 : 1 ≤ n) (hn : n ≤ 16) (hm : m ≤ 1000000) :
    Calls Try.prog 41 #[.int .i64 n, .slice A m c] w fun e w' => e = .returned (.bool true) ∧ ∃ q, w' = w.drewN q := by
  have HL := Lib.hid hr.1
  have HB : Hid (betB (n : Int) 1 16 = true) := by simp only [Hid]; rw [betB_iff]; omega
  go_enter Try.func41, Try.ntmps41
  go_wp2_with (go_at_call 68; refine (l07Size_any _ _).mono ?_; rintro e w' ⟨rfl, rfl⟩; rw [HB.out])
  go_loopw [5] (fun i wr => ∃ k : Nat, k ≤ m ∧ i = .int .i64 k ∧ ∃ q, wr = w.drewN q) (fun i _ => m - (intOf i).toNat)
  case atStart => exact ⟨0, Nat.zero_le _, rfl, 0, rfl⟩
  case round =>
    obtain ⟨k, hk, rfl, q, rfl⟩ := hrel
    by_cases hkn : k < m
    · obtain ⟨ad, hA, hlt, hkl, f1, f2⟩ := hr.at_ hkn
      obtain ⟨q1, q2, q3, q4⟩ := hg fs[k] (List.getElem_mem _)
      have hb1 : betB fs[k].kind 1 3 = true := by rw [betB_iff]; omega
      have hb2 : betB fs[k].lever 0 ((n : Int) - 1) = true := by rw [betB_iff]; omega
      have hi0 : (0 : Int) ≤ (k : Int) := by omega
      have hi1 : (k : Int) < (m : Int) := by omega
      rcases Nat.eq_zero_or_pos k with hk0 | hk0
      · subst hk0
        rw [Nat.zero_mul, addr_add_zero] at f1 f2
        subst hA
        go_wp2_with fail
        go_quiet ((go_at_call 54; first | exact quiet_left (l00In_any _ _ _ _) | exact quiet_add_left (l00In_any _ _ _ _)))
        go_wp2
        go_roundw
        case rel => exact ⟨1, by omega, by go_num, by first | exact ⟨_, rfl⟩ | exact ⟨_, World.drewN_drewN _ _ _⟩⟩
        case measure => simp [intOf]; omega
      · obtain ⟨ad', hA', -, hkl', g1, g2⟩ := hr.at_ (show k - 1 < m by omega)
        obtain rfl : ad = ad' := by rw [hA] at hA'; injection hA'
        clear hA'
        have hasc := ha (k - 1) (by omega)
        have he : fs[k - 1 + 1] = fs[k] := by congr 1; omega
        rw [he] at hasc
        obtain ⟨lv, hlv⟩ : ∃ lv, lv = fs[k - 1].lever := ⟨_, rfl⟩
        rw [← hlv] at g2 hasc
        clear hlv he g1
        have hd : decide ((0 : Int) < (k : Int)) = true := decide_eq_true (by omega)
        have hd2 : decide (fs[k].lever ≤ lv) = false := decide_eq_false (by omega)
        have hi2 : (0 : Int) < (k : Int) := by omega
        subst hA
        go_wp2_with fail
        go_quiet ((go_at_call 54; first | exact quiet_left (l00In_any _ _ _ _) | exact quiet_add_left (l00In_any _ _ _ _)))
        go_wp2
        go_roundw
        case rel => exact ⟨k + 1, by omega, by go_num, by first | exact ⟨_, rfl⟩ | exact ⟨_, World.drewN_drewN _ _ _⟩⟩
        case measure => simp [intOf]; omega
    · go_wp2
      go_ret
      exact ⟨rfl, q, rfl⟩
end Go.Proofs.Ytmnegfhigfipbaa
