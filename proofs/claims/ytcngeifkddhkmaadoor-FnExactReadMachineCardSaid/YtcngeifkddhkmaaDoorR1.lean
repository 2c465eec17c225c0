import Derived.Test.YtcngeifkddhkmaaDoorBase
namespace Go.Proofs.YtcngeifkddhkmaaDoor
open Go.RowKit
set_option maxHeartbeats 400000 in
theorem between_any (n l h : Int) (w : World) :
    Calls Tryd.prog 97 #[.int .i64 n, .int .i64 l, .int .i64 h] w fun e w' => e = .returned (.bool (betB n l h)) ∧ w = w' := by
  by_cases h1 : l ≤ n
  · by_cases h2 : n ≤ h
    · go_enter Tryd.func97, Tryd.ntmps97
      go_wp2
      go_ret
      simp [betB, h1, h2]
    · go_enter Tryd.func97, Tryd.ntmps97
      go_wp2
      go_ret
      simp [betB, h1, h2]
  · go_enter Tryd.func97, Tryd.ntmps97
    go_wp2
    go_ret
    exact ⟨by simp [betB]; omega, rfl⟩
set_option maxHeartbeats 400000 in
theorem l00In_any (n l h : Int) (w : World) :
    Calls Tryd.prog 169 #[.int .i64 n, .int .i64 l, .int .i64 h] w fun e w' => e = .returned (.bool (betB n l h)) ∧ w = w' := by
  by_cases h1 : l ≤ n
  · by_cases h2 : n ≤ h
    · go_enter Tryd.func169, Tryd.ntmps169
      go_wp2
      go_ret
      simp [betB, h1, h2]
    · go_enter Tryd.func169, Tryd.ntmps169
      go_wp2
      go_ret
      simp [betB, h1, h2]
  · go_enter Tryd.func169, Tryd.ntmps169
    go_wp2
    go_ret
    exact ⟨by simp [betB]; omega, rfl⟩
theorem isBase_any (n : Int) (w : World) :
    Calls Tryd.prog 95 #[.int .i64 n] w fun e w' => e = .returned (.bool (betB n 2 16)) ∧ w = w' := by
  go_enter Tryd.func95, Tryd.ntmps95
  go_wp2_with (go_at_call 97; refine (between_any _ _ _ _).mono ?_; rintro e w' ⟨rfl, rfl⟩)
  go_ret
  exact ⟨rfl, rfl⟩
theorem isRegisterWidth_any (n : Int) (w : World) :
    Calls Tryd.prog 96 #[.int .i64 n] w fun e w' => e = .returned (.bool (betB n 1 16)) ∧ w = w' := by
  go_enter Tryd.func96, Tryd.ntmps96
  go_wp2_with (go_at_call 97; refine (between_any _ _ _ _).mono ?_; rintro e w' ⟨rfl, rfl⟩)
  go_ret
  exact ⟨rfl, rfl⟩
theorem l02Base_any (n : Int) (w : World) :
    Calls Tryd.prog 183 #[.int .i64 n] w fun e w' => e = .returned (.bool (betB n 2 16)) ∧ w = w' := by
  go_enter Tryd.func183, Tryd.ntmps183
  go_wp2_with (go_at_call 169; refine (l00In_any _ _ _ _).mono ?_; rintro e w' ⟨rfl, rfl⟩)
  go_ret
  exact ⟨rfl, rfl⟩
theorem l00Min_any (a b : Int) (w : World) :
    Calls Tryd.prog 178 #[.int .i64 a, .int .i64 b] w fun e w' => e = .returned (.int .i64 (min a b)) ∧ w = w' := by
  by_cases h : a < b
  · go_enter Tryd.func178, Tryd.ntmps178
    go_wp2
    go_ret
    exact ⟨ret_int (Int.min_eq_left (by omega)).symm, rfl⟩
  · go_enter Tryd.func178, Tryd.ntmps178
    go_wp2
    go_ret
    exact ⟨ret_int (Int.min_eq_right (by omega)).symm, rfl⟩
/-- the value of digits, capped -/
def valL (b : Int) : List Int → Int
  | [] => 0
  | d :: ds => min 1000000000001 (valL b ds * b + d)
theorem valL_bd (b : Int) (hb : 2 ≤ b) (ds : List Int) (hd : ∀ d ∈ ds, 0 ≤ d) : 0 ≤ valL b ds ∧ valL b ds ≤ 1000000000001 := by
  induction ds with
  | nil => simp [valL]
  | cons d ds ih =>
    have h1 := ih (fun x hx => hd x (by simp [hx]))
    have h2 := hd d (by simp)
    have h3 : 0 ≤ valL b ds * b := Int.mul_nonneg h1.1 (by omega)
    simp only [valL]; omega
theorem valL_big (b : Int) (hb : 2 ≤ b) (ds : List Int) (hd : ∀ d ∈ ds, 0 ≤ d) : ∀ k, valL b (ds.drop k) = 1000000000001 → valL b ds = 1000000000001 := by
  induction ds with
  | nil => intro k h; simp [valL] at h
  | cons d ds ih =>
    intro k h
    cases k with
    | zero => exact h
    | succ k =>
      have h1 := ih (fun x hx => hd x (by simp [hx])) k (by simpa using h)
      have h2 := hd d (by simp)
      simp only [valL, h1]; omega
theorem valL_drop (b : Int) (ds : List Int) (k : Nat) (h : k < ds.length) : valL b (ds.drop k) = min 1000000000001 (valL b (ds.drop (k + 1)) * b + ds[k]) := by
  rw [List.drop_eq_getElem_cons h]; rfl
set_option maxHeartbeats 400000 in
theorem value_any (b : Int) (A : Option Addr) (n c : Nat) (ds : List Int) (w : World)
   (hb1 : 2 ≤ b) (hb2 : b ≤ 16) (hd : ∀ d ∈ ds, 0 ≤ d ∧ d < b) (hr : RI w A n ds) (hn : n ≤ 16) :
    Calls Tryd.prog 94 #[.agg #[.int .i64 b, .slice A n c]] w fun e w' => e = .returned (.int .i64 (valL b ds)) ∧ Below w.heap.size w w' := by
  have HL := Lib.hid hr.1
  go_enter Tryd.func94, Tryd.ntmps94
  go_wp2
  go_loopw [3, 4] (fun v i wr => ∃ k : Nat, k ≤ n ∧ i = .int .i64 ((k : Int) - 1) ∧ v = .int .i64 (valL b (ds.drop k)) ∧ valL b (ds.drop k) ≤ 1000000000000 ∧ Below (w.heap.size + 1) (w.alloc (.cells #[.int .i64 b, .slice A n c] 26)) wr) (fun _ i _ => (intOf i + 1).toNat)
  case atStart => exact ⟨n, Nat.le_refl _, rfl, by rw [List.drop_of_length_le (by have := HL.out; omega)]; rfl, by rw [List.drop_of_length_le (by have := HL.out; omega)]; simp [valL], Below.refl _ _⟩
  case round =>
    obtain ⟨k, hk, rfl, rfl, hv1, hbl⟩ := hrel
    rcases Nat.eq_zero_or_pos k with hk0 | hk0
    · subst hk0
      go_wp2
      go_ret
      exact ⟨rfl, ((Below.refl _ _).alloc (Nat.le_refl _) _).trans (hbl.mono (by omega))⟩
    · obtain ⟨ad, hA, hlt, hkl, hc⟩ := hr.at_ (show k - 1 < n by omega)
      rw [← World.cell?_alloc_lt w (.cells #[.int .i64 b, .slice A n c] 26) (ad.add (k - 1)) (by rw [block_of_add]; omega), ← hbl.cell (by rw [block_of_add]; omega)] at hc
      have hb0 : wr.cell? ⟨w.heap.size, 0, none⟩ = some (.int .i64 b) := by rw [hbl.cell (by simp)]; go_simp
      have hb1 : wr.cell? ⟨w.heap.size, 1, none⟩ = some (.slice A n c) := by rw [hbl.cell (by simp)]; go_simp
      have hd1 := hd ds[k-1] (List.getElem_mem _)
      have hv0 := (valL_bd b (by omega) (ds.drop k) (fun x hx => (hd x (List.mem_of_mem_drop hx)).1)).1
      have hm0 : 0 ≤ valL b (ds.drop k) * b := Int.mul_nonneg hv0 (by omega)
      have hm1 : valL b (ds.drop k) * b ≤ 16000000000000 := by
        have := Int.mul_le_mul hv1 hb2 (by omega) (by omega); omega
      have HV : Hid (valL b (ds.drop (k - 1)) = min 1000000000001 (valL b (ds.drop k) * b + ds[k-1])) := by
        have := valL_drop b ds (k - 1) hkl; rw [show k - 1 + 1 = k by omega] at this; exact this
      subst hA
      go_wp2
      go_quiet (fail)
      go_wp2
      · go_ret
        refine ⟨?_, ((Below.refl _ _).alloc (Nat.le_refl _) _).trans ((hbl.trans (below_drewN (Below.refl _ _) _)).mono (by omega))⟩
        exact ret_int (valL_big b (by omega) ds (fun x hx => (hd x hx).1) (k - 1) (by rw [HV.out]; omega)).symm
      · go_roundw
        case rel => exact ⟨k - 1, by omega, by congr 1; omega, by rw [HV.out, Int.min_eq_right (by omega)], by rw [HV.out]; omega, hbl.trans (below_drewN (Below.refl _ _) _)⟩
        case measure => simp [intOf]; omega
end Go.Proofs.YtcngeifkddhkmaaDoor
