import Derived.Test.YtcngeifkddhkmaaI1
namespace Go.Proofs.Ytcngeifkddhkmaa
open Go.RowKit Go.Sort
set_option maxHeartbeats 1600000 in
theorem ValidProgram_any (A : Option Addr) (n c : Nat) (xs : List Ins) (w : World) (hr : RL InsM 2 w A n xs) (hm : n ≤ 9223372036854775807) :
    Calls Try.prog 152 #[.slice A n c] w fun e w' => e = .returned (.bool (vprog xs)) ∧ Below w.heap.size w w' := by
  have HL := Lib.hid hr.1
  go_enter Try.func152, Try.ntmps152
  go_wp2
  go_loopw [3, 10] (fun dd ii wr => ∃ (k : Nat) (d : Int), k ≤ n ∧ ii = .int .i64 k ∧ dd = .int .i64 d ∧ progD (xs.take k) = some d ∧ (0 ≤ d ∧ d ≤ 4) ∧ Kn w [] wr) (fun _ i _ => n - (intOf i).toNat)
  case atStart => exact ⟨0, 0, Nat.zero_le _, rfl, rfl, rfl, ⟨by omega, by omega⟩, Kn.nil _⟩
  case round =>
    obtain ⟨k, d, hk, rfl, rfl, hp, ⟨d0, d4⟩, hK⟩ := hrel
    have HP := Lib.hid hp; clear hp
    by_cases hkn : k < n
    · obtain ⟨ad, hA, hlt, hkl, hx⟩ := (hr.below steady_InsM hK.below).at_ hkn
      obtain ⟨x1, x2⟩ := hx
      obtain ⟨x, hxe⟩ : ∃ x, xs[k] = x := ⟨_, rfl⟩
      rw [hxe] at x1 x2
      have HS : Hid (progD (xs.take (k + 1)) = stepI (some d) x) := by simp only [Hid]; rw [progD_succ hkl, HP.out, hxe]
      have hi0 : (0 : Int) ≤ (k : Int) := by omega
      have hi1 : (k : Int) < (n : Int) := by omega
      subst hA
      clear hxe
      go_wp2_with fail
      refine Calls.kn (hK.al [.int .i64 x.op, .int .i64 x.arg] 151) ?_; intro w1 hK1
      refine (isInstr_any x.op x.arg w1).mono ?_; rintro e w2 ⟨rfl, hw⟩
      have hK2 := hK1.keep hw
      clear hw hK1 x1 x2
      obtain ⟨a1, a2, a3, -⟩ := hK2.cells
      rcases hok : instrOk x.op x.arg with _ | _
      · have HF : Hid (vprog xs = false) := by
          simp only [Hid, vprog]
          rw [progD_none (xs := xs) (k := k + 1) (by rw [HS.out]; simp [stepI, hok])]; rfl
        clear hok
        go_wp2_with fail
        go_ret
        exact ⟨ret_bool HF.out.symm, hK2.below⟩
      · have HS : Hid (progD (xs.take (k + 1)) = depthStep x.op d) := by simp only [Hid]; rw [HS.out]; simp [stepI, hok]
        clear hok
        go_wp2_with fail
        refine (depthBehind_any x.op x.arg d d0 d4 w2).mono ?_; rintro e w3 ⟨q, f, rfl, hor, hw⟩
        have hK3 := hK2.keep hw
        clear hw hK2 a1 a2 a3
        rcases hor with ⟨h1, h2⟩ | ⟨h1, rfl⟩
        · have HF : Hid (vprog xs = false) := by
            simp only [Hid, vprog]
            rw [progD_none (xs := xs) (k := k + 1) (by rw [HS.out, h1])]; rfl
          have hf : (f != 0) = true := by simpa using h2
          clear h1 h2
          go_wp2_with fail
          go_ret
          exact ⟨ret_bool HF.out.symm, hK3.below⟩
        · have HQ : Hid (progD (xs.take (k + 1)) = some q) := by simp only [Hid]; rw [HS.out, h1]
          have hb := depthStep_bd h1 d0 d4
          clear h1
          go_wp2_with fail
          go_roundw
          case rel => exact ⟨k + 1, q, by omega, by go_num, rfl, HQ.out, hb, hK3.drop⟩
          case measure => simp [intOf]; omega
    · have HK : Hid (progD xs = some d) := by have h1 := HP.out; rwa [List.take_of_length_le (by have := HL.out; omega)] at h1
      rcases hd0 : (d == 0) with _ | _
      · have HF : Hid (vprog xs = false) := by
          simp only [Hid, vprog]; rw [HK.out, decide_eq_false (by simp at hd0 ⊢; exact hd0)]; rfl
        go_wp2_with fail
        go_ret
        exact ⟨ret_bool HF.out.symm, hK.below⟩
      · have HF : Hid (vprog xs = decide (n ≤ 120)) := by
          simp only [Hid, vprog]; rw [HK.out, HL.out]; simp at hd0; simp [hd0]
        by_cases h120 : n ≤ 120
        · have hi : (n : Int) ≤ 120 := by omega
          have HG : Hid (decide (n ≤ 120) = true) := decide_eq_true h120
          clear h120
          go_wp2_with fail
          go_ret
          exact ⟨ret_bool (by rw [HF.out, HG.out]), hK.below⟩
        · have hi : ¬ (n : Int) ≤ 120 := by omega
          have HG : Hid (decide (n ≤ 120) = false) := decide_eq_false h120
          clear h120
          go_wp2_with fail
          go_ret
          exact ⟨ret_bool (by rw [HF.out, HG.out]), hK.below⟩
set_option maxRecDepth 100000 in
set_option maxHeartbeats 1600000 in
theorem l11Ok_any (A : Option Addr) (n c : Nat) (xs : List Ins) (w : World) (hr : RL InsM 2 w A n xs) (hm : n ≤ 9223372036854775807) :
    Calls Try.prog 126 #[.slice A n c] w fun e w' => e = .returned (.bool (vprog xs)) ∧ ∃ q, w' = w.drewN q := by
  have HL := Lib.hid hr.1
  go_enter Try.func126, Try.ntmps126
  go_wp2
  go_loopw [3, 4] (fun dd ii wr => ∃ (k : Nat) (d : Int), k ≤ n ∧ ii = .int .i64 k ∧ dd = .int .i64 d ∧ progD (xs.take k) = some d ∧ (0 ≤ d ∧ d ≤ 4) ∧ ∃ q, wr = w.drewN q) (fun _ i _ => n - (intOf i).toNat)
  case atStart => exact ⟨0, 0, Nat.zero_le _, rfl, rfl, rfl, ⟨by omega, by omega⟩, 0, rfl⟩
  case round =>
    obtain ⟨k, d, hk, rfl, rfl, hp, ⟨d0, d4⟩, q, rfl⟩ := hrel
    have HP := Lib.hid hp; clear hp
    by_cases hkn : k < n
    · obtain ⟨ad, hA, hlt, hkl, hx⟩ := hr.at_ hkn
      obtain ⟨x1, x2⟩ := hx
      obtain ⟨x, hxe⟩ : ∃ x, xs[k] = x := ⟨_, rfl⟩
      rw [hxe] at x1 x2
      have HS : Hid (progD (xs.take (k + 1)) = stepI (some d) x) := by simp only [Hid]; rw [progD_succ hkl, HP.out, hxe]
      have hi0 : (0 : Int) ≤ (k : Int) := by omega
      have hi1 : (k : Int) < (n : Int) := by omega
      subst hA
      clear hxe
      rcases hin : betB x.op 1 10 with _ | _
      · have HF : Hid (vprog xs = false) := by
          have h1 : instrOk x.op x.arg = false := instrOk_else (by have := betB_false.1 hin; omega)
          simp only [Hid, vprog]
          rw [progD_none (xs := xs) (k := k + 1) (by rw [HS.out]; simp [stepI, h1])]; rfl
        have KI := Lib.hid (fun W => calls_val (l00In_any x.op 1 10 W) (congrArg Value.bool hin))
        clear hin
        go_wp2_with fail
        go_quiet ((go_at_call 78; first | exact quiet_left (KI.out _) | exact quiet_add_left (KI.out _)))
        go_wp2_with fail
        go_ret
        exact ⟨ret_bool HF.out.symm, by first | exact ⟨_, rfl⟩ | exact ⟨_, World.drewN_drewN _ _ _⟩⟩
      · have KI := Lib.hid (fun W => calls_val (l00In_any x.op 1 10 W) (congrArg Value.bool hin))
        rcases hok : instrOk x.op x.arg with _ | _
        · have HF : Hid (vprog xs = false) := by
            simp only [Hid, vprog]
            rw [progD_none (xs := xs) (k := k + 1) (by rw [HS.out]; simp [stepI, hok])]; rfl
          have KA := Lib.hid (fun W => calls_val (l11Arg_any x.op x.arg hin W) (congrArg Value.bool hok))
          clear hin hok
          go_wp2_with fail
          go_quiet ((first | (go_at_call 78; first | exact quiet_left (KI.out _) | exact quiet_add_left (KI.out _)) | (go_at_call 147; first | exact quiet_left (KA.out _) | exact quiet_add_left (KA.out _))))
          go_wp2_with fail
          go_ret
          exact ⟨ret_bool HF.out.symm, by first | exact ⟨_, rfl⟩ | exact ⟨_, World.drewN_drewN _ _ _⟩⟩
        · have HS : Hid (progD (xs.take (k + 1)) = depthStep x.op d) := by simp only [Hid]; rw [HS.out]; simp [stepI, hok]
          have KA := Lib.hid (fun W => calls_val (l11Arg_any x.op x.arg hin W) (congrArg Value.bool hok))
          clear hin hok
          go_wp2_with fail
          go_quiet ((first | (go_at_call 78; first | exact quiet_left (KI.out _) | exact quiet_add_left (KI.out _)) | (go_at_call 147; first | exact quiet_left (KA.out _) | exact quiet_add_left (KA.out _))))
          rcases hop : opens x.op with _ | _
          · have HO := Lib.hid (fun W => calls_val (l11Opens_any x.op W) (congrArg Value.bool hop))
            rcases h10 : (x.op == 10) with _ | _
            · have HQ : Hid (progD (xs.take (k + 1)) = some d) := by simp only [Hid]; rw [HS.out]; simp at h10; simp [depthStep, h10, hop]
              have hi2 : ¬ d < 0 := by omega
              have hi3 : ¬ 4 < d := by omega
              clear hop
              go_wp2_with (go_at_call 148; refine (HO.out _).mono ?_; rintro e w' ⟨rfl, rfl⟩)
              go_roundw
              case rel => exact ⟨k + 1, d, by omega, by go_num, rfl, HQ.out, ⟨d0, d4⟩, by first | exact ⟨_, rfl⟩ | exact ⟨_, World.drewN_drewN _ _ _⟩⟩
              case measure => simp [intOf]; omega
            · rcases hd0 : (d == 0) with _ | _
              · have hdn : d ≠ 0 := by simpa using hd0
                have HQ : Hid (progD (xs.take (k + 1)) = some (d - 1)) := by simp only [Hid]; rw [HS.out]; simp at h10; simp [depthStep, h10, hdn]
                have hi2 : ¬ d - 1 < 0 := by omega
                have hi3 : ¬ 4 < d - 1 := by omega
                clear hop hd0
                go_wp2_with (go_at_call 148; refine (HO.out _).mono ?_; rintro e w' ⟨rfl, rfl⟩)
                go_roundw
                case rel => exact ⟨k + 1, d - 1, by omega, by go_num, rfl, HQ.out, ⟨by omega, by omega⟩, by first | exact ⟨_, rfl⟩ | exact ⟨_, World.drewN_drewN _ _ _⟩⟩
                case measure => simp [intOf]; omega
              · have hdn : d = 0 := by simpa using hd0
                have HF : Hid (vprog xs = false) := by
                  simp only [Hid, vprog]
                  rw [progD_none (xs := xs) (k := k + 1) (by rw [HS.out]; simp at h10; simp [depthStep, h10, hdn])]; rfl
                have hi2 : d - 1 < 0 := by omega
                clear hop hd0 hdn
                go_wp2_with (go_at_call 148; refine (HO.out _).mono ?_; rintro e w' ⟨rfl, rfl⟩)
                go_ret
                exact ⟨ret_bool HF.out.symm, by first | exact ⟨_, rfl⟩ | exact ⟨_, World.drewN_drewN _ _ _⟩⟩
          · have HO := Lib.hid (fun W => calls_val (l11Opens_any x.op W) (congrArg Value.bool hop))
            have h10 : (x.op == 10) = false := by unfold opens at hop; simp at hop ⊢; omega
            rcases hd4 : (d == 4) with _ | _
            · have hdn : d ≠ 4 := by simpa using hd4
              have HQ : Hid (progD (xs.take (k + 1)) = some (d + 1)) := by simp only [Hid]; rw [HS.out]; simp at h10; simp [depthStep, h10, hdn, hop]
              have hi2 : ¬ d + 1 < 0 := by omega
              have hi3 : ¬ 4 < d + 1 := by omega
              clear hop hd4
              go_wp2_with (go_at_call 148; refine (HO.out _).mono ?_; rintro e w' ⟨rfl, rfl⟩)
              go_roundw
              case rel => exact ⟨k + 1, d + 1, by omega, by go_num, rfl, HQ.out, ⟨by omega, by omega⟩, by first | exact ⟨_, rfl⟩ | exact ⟨_, World.drewN_drewN _ _ _⟩⟩
              case measure => simp [intOf]; omega
            · have hdn : d = 4 := by simpa using hd4
              have HF : Hid (vprog xs = false) := by
                simp only [Hid, vprog]
                rw [progD_none (xs := xs) (k := k + 1) (by rw [HS.out]; simp at h10; simp [depthStep, h10, hdn, hop])]; rfl
              have hi2 : ¬ d + 1 < 0 := by omega
              have hi3 : 4 < d + 1 := by omega
              clear hop hd4 hdn
              go_wp2_with (go_at_call 148; refine (HO.out _).mono ?_; rintro e w' ⟨rfl, rfl⟩)
              go_ret
              exact ⟨ret_bool HF.out.symm, by first | exact ⟨_, rfl⟩ | exact ⟨_, World.drewN_drewN _ _ _⟩⟩
    · have HK : Hid (progD xs = some d) := by have h1 := HP.out; rwa [List.take_of_length_le (by have := HL.out; omega)] at h1
      rcases hd0 : (d == 0) with _ | _
      · have HF : Hid (vprog xs = false) := by
          simp only [Hid, vprog]; rw [HK.out, decide_eq_false (by simp at hd0 ⊢; exact hd0)]; rfl
        go_wp2_with fail
        go_ret
        exact ⟨ret_bool HF.out.symm, ⟨_, rfl⟩⟩
      · have HF : Hid (vprog xs = decide (n ≤ 120)) := by
          simp only [Hid, vprog]; rw [HK.out, HL.out]; simp at hd0; simp [hd0]
        by_cases h120 : n ≤ 120
        · have hi : (n : Int) ≤ 120 := by omega
          have HG : Hid (decide (n ≤ 120) = true) := decide_eq_true h120
          clear h120
          go_wp2_with fail
          go_ret
          exact ⟨ret_bool (by rw [HF.out, HG.out]), ⟨_, rfl⟩⟩
        · have hi : ¬ (n : Int) ≤ 120 := by omega
          have HG : Hid (decide (n ≤ 120) = false) := decide_eq_false h120
          clear h120
          go_wp2_with fail
          go_ret
          exact ⟨ret_bool (by rw [HF.out, HG.out]), ⟨_, rfl⟩⟩
end Go.Proofs.Ytcngeifkddhkmaa
