import Derived.Test.YtcngeifkddhkmaaI4
import Derived.Test.YtcngeifkddhkmaaY13
namespace Go.Proofs.Ytcngeifkddhkmaa
open Go.RowKit Go.Sort
theorem wrap64_of {n : Int} (h : -9223372036854775808 ≤ n ∧ n ≤ 9223372036854775807) : wrap64 n = n := by unfold wrap64; omega
set_option maxRecDepth 100000 in
set_option maxHeartbeats 400000 in
theorem l27Number_any (s : ByteArray) (w : World) (hs : s.size ≤ 1048576) :
    Calls Try.prog 125 #[.string s] w fun e w' => ∃ n u : Nat, e = .returned (.tuple #[.int .i64 n, .int .i64 u]) ∧ ((decV 6 (strB s) = none ∧ u = 0) ∨ (1 ≤ u ∧ u ≤ s.size ∧ decV 6 (strB s) = some (n, (strB s).drop u))) ∧ w = w' := by
  have HSL := Lib.hid (strB_len s)
  go_enter Try.func125, Try.ntmps125
  go_wp2_with fail
  go_loopw [4, 5] (fun nn ii wr => ∃ (i acc : Nat), i ≤ 6 ∧ ii = .int .i64 i ∧ nn = .int .i64 (acc : Int) ∧ acc < 128 ^ i ∧ i ≤ s.size ∧
    decV 6 (strB s) = (decV (6 - i) ((strB s).drop i)).map (fun p => (acc + 128 ^ i * p.1, p.2)) ∧ w = wr) (fun _ i _ => 6 - (intOf i).toNat)
  case atStart => exact ⟨0, 0, by omega, rfl, rfl, by decide, by omega, by simp, rfl⟩
  case round =>
    obtain ⟨i, acc, hi6, rfl, rfl, hacc, his, hdv, rfl⟩ := hrel
    have HV := Lib.hid hdv
    clear hdv
    by_cases hlt : i < s.size
    · by_cases hlt6 : i < 6
      · obtain ⟨q, hq⟩ : ∃ q : UInt8, s[i] = q := ⟨_, rfl⟩
        obtain ⟨z, hz⟩ : ∃ z : Nat, q.toNat = z := ⟨_, rfl⟩
        have hz2 : z < 256 := by rw [← hz]; exact q.toNat_lt
        have hdr : (strB s).drop i = q :: (strB s).drop (i + 1) := by
          rw [List.drop_eq_getElem_cons (by rw [HSL.out]; exact hlt), ← strB_get s hlt, hq]
        have i0 : (0 : Int) ≤ (i : Int) := by omega
        have i1 : (i : Int) < (s.size : Int) := by omega
        have i2 : (i : Int) < 6 := by omega
        obtain ⟨U, hU⟩ : ∃ U : Nat, 128 ^ i = U := ⟨_, rfl⟩
        have hU2 : U ≤ 34359738368 := by
          rw [← hU]; exact Nat.le_trans (Nat.pow_le_pow_right (by omega) (show i ≤ 5 by omega)) (by decide)
        have hU3 : 128 ^ (i + 1) = U * 128 := by rw [← hU, Nat.pow_succ]
        have hP : (2 : Int) ^ (7 * i) = (U : Int) := by rw [← hU, Int.pow_mul]; simp
        rw [hU] at hacc HV
        have HU3 := Lib.hid hU3
        have hm : z % 128 * U ≤ 127 * U := Nat.mul_le_mul_right _ (by omega)
        obtain ⟨M, hM⟩ : ∃ M : Nat, z % 128 * U = M := ⟨_, rfl⟩
        have hMi : ((z : Int) % 128) * (U : Int) = (M : Int) := by rw [← hM]; simp
        rw [hM] at hm
        have HPI := Lib.hid (show (z : Int) % 128 * 2 ^ (7 * i) = (M : Int) by rw [hP, hMi])
        have HU0 := Lib.hid hU
        clear hU hU3 hP hMi
        have x3 : wrap64 ((z : Int) % 128 * 2 ^ (7 * i)) = (M : Int) := by rw [HPI.out]; exact wrap64_of (by clear HV HPI HU0 HU3 hdr; omega)
        have x4 : wrap64 ((acc : Int) + (M : Int)) = (acc : Int) + (M : Int) := wrap64_of (by clear x3 hdr; omega)
        have hdc : decV (6 - i) ((strB s).drop i) = if z < 128 then some (z, (strB s).drop (i + 1)) else (decV (6 - (i + 1)) ((strB s).drop (i + 1))).map fun p => (z % 128 + 128 * p.1, p.2) := by
          rw [hdr, show 6 - i = (6 - (i + 1)) + 1 by omega, decV, hz]
        have HC := Lib.hid hdc
        have HM := Lib.hid hM
        clear hdc hdr hM
        by_cases hz128 : z < 128
        · have i5 : (z : Int) < 128 := by omega
          have HU : Hid (decV 6 (strB s) = some (acc + M, (strB s).drop (i + 1))) := by
            simp only [Hid]
            rw [HV.out, HC.out, if_pos hz128]
            have h1 : U * z = M := by rw [← HM.out, Nat.mod_eq_of_lt hz128, Nat.mul_comm]
            simp [h1]
          clear hz128
          go_wp2_with fail
          go_ret2
          exact ⟨acc + M, i + 1, by simp, .inr ⟨by omega, by omega, HU.out⟩, rfl⟩
        · have i5 : ¬ (z : Int) < 128 := by omega
          have HN : Hid (decV 6 (strB s) = (decV (6 - (i + 1)) ((strB s).drop (i + 1))).map (fun p => ((acc + M) + U * 128 * p.1, p.2))) := by
            simp only [Hid]
            rw [HV.out, HC.out, if_neg hz128, Option.map_map]
            congr 1
            funext p
            simp only [Function.comp]
            have h1 : U * (z % 128 + 128 * p.1) = M + U * 128 * p.1 := by rw [Nat.mul_add, ← HM.out, Nat.mul_comm U (z % 128), Nat.mul_assoc]
            rw [h1, Nat.add_assoc]
          clear hz128
          go_wp2_with fail
          go_roundw
          case rel => exact ⟨i + 1, acc + M, by omega, by go_num, by simp, by rw [HU3.out]; omega, by omega, by rw [HU3.out]; exact HN.out, by first | rfl | trivial⟩
          case measure => simp [intOf]; omega
      · have HU : Hid (decV 6 (strB s) = none) := by simp only [Hid]; rw [HV.out, show 6 - i = 0 by omega]; rfl
        have i1 : (i : Int) < (s.size : Int) := by omega
        have i2 : ¬ (i : Int) < 6 := by omega
        go_wp2_with fail
        go_ret2
        exact ⟨0, 0, rfl, .inl ⟨HU.out, rfl⟩, rfl⟩
    · have HU : Hid (decV 6 (strB s) = none) := by simp only [Hid]; rw [HV.out, List.drop_of_length_le (by rw [HSL.out]; omega), decV_nil]; rfl
      have i1 : ¬ (i : Int) < (s.size : Int) := by omega
      go_wp2_with fail
      go_ret2
      exact ⟨0, 0, rfl, .inl ⟨HU.out, rfl⟩, rfl⟩
end Go.Proofs.Ytcngeifkddhkmaa
