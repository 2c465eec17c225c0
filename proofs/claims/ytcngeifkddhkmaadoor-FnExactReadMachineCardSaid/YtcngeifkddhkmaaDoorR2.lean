import Derived.Test.YtcngeifkddhkmaaDoorR1
namespace Go.Proofs.YtcngeifkddhkmaaDoor
open Go.RowKit
def digB (b : Int) (ds : List Int) : Bool := ds.all (fun d => betB d 0 (b - 1))
/-- a valid register -/
def vreg (b : Int) (ds : List Int) : Bool := betB b 2 16 && betB ds.length 1 16 && digB b ds && decide (valL b ds ≤ 1000000000000)
theorem betB_iff {n l h : Int} : betB n l h = true ↔ l ≤ n ∧ n ≤ h := by simp [betB]
theorem betB_false {n l h : Int} : betB n l h = false ↔ ¬ (l ≤ n ∧ n ≤ h) := by simp [betB]
theorem digB_take_succ {b : Int} {ds : List Int} {k : Nat} (h : k < ds.length) : digB b (ds.take (k + 1)) = (digB b (ds.take k) && betB ds[k] 0 (b - 1)) := by
  unfold digB; rw [List.take_succ_eq_append_getElem h, List.all_append]; simp only [List.all_cons, List.all_nil, Bool.and_true]
theorem digB_not {b : Int} {ds : List Int} {k : Nat} (h : k < ds.length) (h1 : betB ds[k] 0 (b - 1) = false) : digB b ds = false := by
  simp only [digB, List.all_eq_false]; exact ⟨ds[k], List.getElem_mem _, by simp [h1]⟩
theorem digB_iff {b : Int} {ds : List Int} : digB b ds = true ↔ ∀ d ∈ ds, 0 ≤ d ∧ d < b := by
  simp only [digB, List.all_eq_true, betB_iff]
  exact ⟨fun h d hd => by have := h d hd; omega, fun h d hd => by have := h d hd; omega⟩
theorem vreg_iff {b : Int} {ds : List Int} : vreg b ds = true ↔ (2 ≤ b ∧ b ≤ 16) ∧ (1 ≤ ds.length ∧ ds.length ≤ 16) ∧ (∀ d ∈ ds, 0 ≤ d ∧ d < b) ∧ valL b ds ≤ 1000000000000 := by
  simp only [vreg, Bool.and_eq_true, betB_iff, digB_iff, decide_eq_true_eq]
  constructor
  · rintro ⟨⟨⟨h1, h2⟩, h3⟩, h4⟩; exact ⟨h1, by omega, h3, h4⟩
  · rintro ⟨h1, h2, h3, h4⟩; exact ⟨⟨⟨h1, by omega⟩, h3⟩, h4⟩
set_option maxHeartbeats 400000 in
theorem ValidRegister_any (b : Int) (A : Option Addr) (n c : Nat) (ds : List Int) (w : World) (hr : RI w A n ds) (hm : n ≤ 9223372036854775807) :
    Calls Tryd.prog 19 #[.agg #[.int .i64 b, .slice A n c]] w fun e w' => e = .returned (.bool (vreg b ds)) ∧ Below w.heap.size w w' := by
  have HL := Lib.hid hr.1
  rcases hb : betB b 2 16 with _ | _
  · have HF : Hid (vreg b ds = false) := by simp [Hid, vreg, hb]
    have hb' := Lib.hid hb; clear hb
    go_enter Tryd.func19, Tryd.ntmps19
    go_wp2_with (go_at_call 95; refine (isBase_any _ _).mono ?_; rintro e w' ⟨rfl, rfl⟩; rw [hb'.out])
    go_ret
    exact ⟨ret_bool HF.out.symm, (Below.refl _ _).alloc (Nat.le_refl _) _⟩
  rcases hw : betB (n : Int) 1 16 with _ | _
  · have HF : Hid (vreg b ds = false) := by simp [Hid, vreg, HL.out, hw]
    have hb' := Lib.hid hb; clear hb
    have hw' := Lib.hid hw; clear hw
    go_enter Tryd.func19, Tryd.ntmps19
    go_wp2_with (first
      | (go_at_call 95; refine (isBase_any _ _).mono ?_; rintro e w' ⟨rfl, rfl⟩; rw [hb'.out])
      | (go_at_call 96; refine (isRegisterWidth_any _ _).mono ?_; rintro e w' ⟨rfl, rfl⟩; rw [hw'.out]))
    go_ret
    exact ⟨ret_bool HF.out.symm, (Below.refl _ _).alloc (Nat.le_refl _) _⟩
  have hbb := betB_iff.1 hb
  have hww := betB_iff.1 hw
  have hb' := Lib.hid hb; clear hb
  have hw' := Lib.hid hw; clear hw
  go_enter Tryd.func19, Tryd.ntmps19
  go_wp2_with (first
    | (go_at_call 95; refine (isBase_any _ _).mono ?_; rintro e w' ⟨rfl, rfl⟩; rw [hb'.out])
    | (go_at_call 96; refine (isRegisterWidth_any _ _).mono ?_; rintro e w' ⟨rfl, rfl⟩; rw [hw'.out]))
  go_loop [19] (fun i => ∃ k : Nat, k ≤ n ∧ i = .int .i64 k ∧ digB b (ds.take k) = true) (fun i => n - (intOf i).toNat)
  case atStart => exact ⟨0, Nat.zero_le _, rfl, by simp [digB]⟩
  case round =>
    obtain ⟨k, hk, rfl, hdg⟩ := hrel
    have HD := Lib.hid hdg; clear hdg
    by_cases hkn : k < n
    · obtain ⟨ad, hA, hlt, hkl, hc⟩ := hr.at_ hkn
      rw [← World.cell?_alloc_lt w (.cells #[.int .i64 b, .slice A n c] 26) (ad.add k) (by rw [block_of_add]; omega)] at hc
      subst hA
      rcases hd : betB ds[k] 0 (b - 1) with _ | _
      · have HF : Hid (vreg b ds = false) := by simp [Hid, vreg, digB_not hkl hd]
        have hd' := Lib.hid hd; clear hd
        go_wp2_with (go_at_call 97; refine (between_any _ _ _ _).mono ?_; rintro e w' ⟨rfl, rfl⟩; rw [hd'.out])
        go_ret
        exact ⟨ret_bool HF.out.symm, (Below.refl _ _).alloc (Nat.le_refl _) _⟩
      · have hd' := Lib.hid hd; clear hd
        go_wp2_with (go_at_call 97; refine (between_any _ _ _ _).mono ?_; rintro e w' ⟨rfl, rfl⟩; rw [hd'.out])
        go_round
        case rel => exact ⟨k + 1, by omega, by go_num, by rw [digB_take_succ hkl, HD.out, hd'.out]; rfl⟩
        case measure => simp [intOf]; omega
    · have HK : Hid (digB b ds = true) := by have h1 := HD.out; rwa [List.take_of_length_le (by have := HL.out; omega)] at h1
      have HV : Hid (vreg b ds = decide (valL b ds ≤ 1000000000000)) := by simp [Hid, vreg, hb'.out, HL.out, hw'.out, HK.out]
      go_wp2_with (go_at_call 94; refine (value_any b A n c ds _ (by omega) (by omega) (digB_iff.1 HK.out) (hr.below ((Below.refl _ _).alloc (Nat.le_refl _) _)) (by omega)).mono ?_; rintro e w' ⟨rfl, hbw⟩)
      go_ret
      exact ⟨ret_bool HV.out.symm, ((Below.refl _ _).alloc (Nat.le_refl _) _).trans (hbw.mono (by simp))⟩
set_option maxHeartbeats 400000 in
theorem l02Digits_any (b : Int) (A : Option Addr) (n c : Nat) (ds : List Int) (w : World) (hr : RI w A n ds) (hm : n ≤ 9223372036854775807) (h1 : 2 ≤ b) (h2 : b ≤ 16) :
    Calls Tryd.prog 184 #[.int .i64 b, .slice A n c] w fun e w' => e = .returned (.bool (digB b ds && betB ds.length 1 16)) ∧ w = w' := by
  have HL := Lib.hid hr.1
  go_enter Tryd.func184, Tryd.ntmps184
  go_wp2
  go_loop [5] (fun i => ∃ k : Nat, k ≤ n ∧ i = .int .i64 k ∧ digB b (ds.take k) = true) (fun i => n - (intOf i).toNat)
  case atStart => exact ⟨0, Nat.zero_le _, rfl, by simp [digB]⟩
  case round =>
    obtain ⟨k, hk, rfl, hdg⟩ := hrel
    have HD := Lib.hid hdg; clear hdg
    by_cases hkn : k < n
    · obtain ⟨ad, hA, hlt, hkl, hc⟩ := hr.at_ hkn
      subst hA
      rcases hd : betB ds[k] 0 (b - 1) with _ | _
      · have HF : Hid (digB b ds = false) := digB_not hkl hd
        have hd' := Lib.hid hd; clear hd
        go_wp2_with (go_at_call 169; refine (l00In_any _ _ _ _).mono ?_; rintro e w' ⟨rfl, rfl⟩; rw [hd'.out])
        go_ret
        exact ⟨ret_bool (by rw [HF.out]; rfl), rfl⟩
      · have hd' := Lib.hid hd; clear hd
        go_wp2_with (go_at_call 169; refine (l00In_any _ _ _ _).mono ?_; rintro e w' ⟨rfl, rfl⟩; rw [hd'.out])
        go_round
        case rel => exact ⟨k + 1, by omega, by go_num, by rw [digB_take_succ hkl, HD.out, hd'.out]; rfl⟩
        case measure => simp [intOf]; omega
    · have HK : Hid (digB b ds = true) := by have h1 := HD.out; rwa [List.take_of_length_le (by have := HL.out; omega)] at h1
      go_wp2_with (go_at_call 169; refine (l00In_any _ _ _ _).mono ?_; rintro e w' ⟨rfl, rfl⟩)
      go_ret
      exact ⟨ret_bool (by rw [HK.out, HL.out]; rfl), rfl⟩
set_option maxHeartbeats 400000 in
theorem l02Value_any (b : Int) (A : Option Addr) (n c : Nat) (ds : List Int) (w : World)
   (hb1 : 2 ≤ b) (hb2 : b ≤ 16) (hd : ∀ d ∈ ds, 0 ≤ d ∧ d < b) (hr : RI w A n ds) (hn : n ≤ 16) :
    Calls Tryd.prog 108 #[.int .i64 b, .slice A n c] w fun e w' => e = .returned (.int .i64 (valL b ds)) ∧ w = w' := by
  have HL := Lib.hid hr.1
  go_enter Tryd.func108, Tryd.ntmps108
  go_wp2
  go_loop [5, 6] (fun v i => ∃ k : Nat, k ≤ n ∧ i = .int .i64 ((k : Int) - 1) ∧ v = .int .i64 (valL b (ds.drop k))) (fun _ i => (intOf i + 1).toNat)
  case atStart => exact ⟨n, Nat.le_refl _, rfl, by rw [List.drop_of_length_le (by have := HL.out; omega)]; rfl⟩
  case round =>
    obtain ⟨k, hk, rfl, rfl⟩ := hrel
    rcases Nat.eq_zero_or_pos k with hk0 | hk0
    · subst hk0
      go_wp2
      go_ret
      exact ⟨rfl, rfl⟩
    · obtain ⟨ad, hA, hlt, hkl, hc⟩ := hr.at_ (show k - 1 < n by omega)
      have hd1 := hd ds[k-1] (List.getElem_mem _)
      obtain ⟨hv0, hv1⟩ := valL_bd b (by omega) (ds.drop k) (fun x hx => (hd x (List.mem_of_mem_drop hx)).1)
      have hm0 : 0 ≤ valL b (ds.drop k) * b := Int.mul_nonneg hv0 (by omega)
      have hm1 : valL b (ds.drop k) * b ≤ 16000000000016 := by
        have := Int.mul_le_mul hv1 hb2 (by omega) (by omega); omega
      have HV : Hid (valL b (ds.drop (k - 1)) = min 1000000000001 (valL b (ds.drop k) * b + ds[k-1])) := by
        have := valL_drop b ds (k - 1) hkl; rw [show k - 1 + 1 = k by omega] at this; exact this
      subst hA
      go_wp2_with (go_at_call 178; refine (l00Min_any _ _ _).mono ?_; rintro e w' ⟨rfl, rfl⟩)
      go_round
      case rel => exact ⟨k - 1, by omega, by congr 1; omega, by rw [HV.out]⟩
      case measure => simp [intOf]; omega
end Go.Proofs.YtcngeifkddhkmaaDoor
