import Derived.Test.YtcngeifkddhkmaaB2
namespace Go.Proofs.Ytcngeifkddhkmaa
open Go.RowKit Go.Sort
/-- the checksum of bytes -/
def sumB (bs : List UInt8) : Int := bs.foldl (fun a b => (31 * a + (b.toNat : Int) + 1) % 65521) 7
theorem sumB_bd (bs : List UInt8) : 0 ≤ sumB bs ∧ sumB bs < 65521 := by
  rcases List.eq_nil_or_concat bs with rfl | ⟨l, b, rfl⟩
  · simp [sumB]
  · simp only [sumB, List.concat_eq_append, List.foldl_append, List.foldl_cons, List.foldl_nil]
    omega
theorem sumB_snoc (l : List UInt8) (b : UInt8) : sumB (l ++ [b]) = (31 * sumB l + (b.toNat : Int) + 1) % 65521 := by simp [sumB]
/-- the bytes of a string -/
def strB (s : ByteArray) : List UInt8 := s.data.toList
theorem strB_len (s : ByteArray) : (strB s).length = s.size := by simp [strB]
theorem strB_get (s : ByteArray) {k : Nat} (h : k < s.size) : s[k] = (strB s)[k]'(by rw [strB_len]; exact h) := by
  simp [strB]
  rfl
set_option maxHeartbeats 800000 in
theorem SumOfBytes_any (s : ByteArray) (w : World) (hs : s.size ≤ 140737488355328) : Calls Try.prog 162 #[.string s] w fun e w' => e = .returned (.int .i64 (sumB (strB s))) ∧ w = w' := by
  have HL := Lib.hid (strB_len s)
  go_enter Try.func162, Try.ntmps162
  go_wp2_with fail
  go_loopw [7, 3] (fun kk ss wr => ∃ k : Nat, k ≤ s.size ∧ kk = .int .i64 k ∧ ss = .int .i64 (sumB ((strB s).take k)) ∧ w = wr) (fun kk _ _ => s.size - (intOf kk).toNat)
  case atStart => exact ⟨0, Nat.zero_le _, rfl, rfl, rfl⟩
  case round =>
    obtain ⟨k, hk, rfl, rfl, rfl⟩ := hrel
    by_cases hkn : k < s.size
    · have hkl : k < (strB s).length := by rw [HL.out]; exact hkn
      have hg := strB_get s hkn
      have HT := Lib.hid (List.take_succ_eq_append_getElem hkl)
      obtain ⟨b, hb⟩ : ∃ b, b = (strB s)[k] := ⟨_, rfl⟩
      rw [← hb] at hg HT
      obtain ⟨acc, hacc⟩ : ∃ acc, acc = sumB ((strB s).take k) := ⟨_, rfl⟩
      have HA := Lib.hid hacc
      obtain ⟨a0, a1⟩ := sumB_bd ((strB s).take k)
      rw [← hacc] at a0 a1
      rw [← hacc]
      have hb2 : b.toNat < 256 := UInt8.toNat_lt _
      have hi1 : (k : Int) < (s.size : Int) := by omega
      have hi0 : (0 : Int) ≤ (k : Int) := by omega
      clear hacc hb
      go_wp2
      go_roundw
      case rel => exact ⟨k + 1, by omega, by go_num, by rw [HT.out, sumB_snoc, ← HA.out], by simp⟩
      case measure => simp [intOf]; omega
    · have HF : Hid (sumB ((strB s).take k) = sumB (strB s)) := by simp only [Hid]; rw [List.take_of_length_le (by rw [HL.out]; omega)]
      go_wp2
      go_ret
      exact ⟨ret_int HF.out, rfl⟩
set_option maxHeartbeats 800000 in
theorem l27Sum_any (s : ByteArray) (w : World) (hs : s.size ≤ 140737488355328) : Calls Try.prog 146 #[.string s] w fun e w' => e = .returned (.int .i64 (sumB (strB s))) ∧ w = w' := by
  have HL := Lib.hid (strB_len s)
  go_enter Try.func146, Try.ntmps146
  go_wp2_with fail
  go_loopw [4, 3] (fun kk ss wr => ∃ k : Nat, k ≤ s.size ∧ kk = .int .i64 k ∧ ss = .int .i64 (sumB ((strB s).take k)) ∧ w = wr) (fun kk _ _ => s.size - (intOf kk).toNat)
  case atStart => exact ⟨0, Nat.zero_le _, rfl, rfl, rfl⟩
  case round =>
    obtain ⟨k, hk, rfl, rfl, rfl⟩ := hrel
    by_cases hkn : k < s.size
    · have hkl : k < (strB s).length := by rw [HL.out]; exact hkn
      have hg := strB_get s hkn
      have HT := Lib.hid (List.take_succ_eq_append_getElem hkl)
      obtain ⟨b, hb⟩ : ∃ b, b = (strB s)[k] := ⟨_, rfl⟩
      rw [← hb] at hg HT
      obtain ⟨acc, hacc⟩ : ∃ acc, acc = sumB ((strB s).take k) := ⟨_, rfl⟩
      have HA := Lib.hid hacc
      obtain ⟨a0, a1⟩ := sumB_bd ((strB s).take k)
      rw [← hacc] at a0 a1
      rw [← hacc]
      have hb2 : b.toNat < 256 := UInt8.toNat_lt _
      have hi1 : (k : Int) < (s.size : Int) := by omega
      have hi0 : (0 : Int) ≤ (k : Int) := by omega
      clear hacc hb
      go_wp2
      go_roundw
      case rel => exact ⟨k + 1, by omega, by go_num, by rw [HT.out, sumB_snoc, ← HA.out], by simp⟩
      case measure => simp [intOf]; omega
    · have HF : Hid (sumB ((strB s).take k) = sumB (strB s)) := by simp only [Hid]; rw [List.take_of_length_le (by rw [HL.out]; omega)]
      go_wp2
      go_ret
      exact ⟨ret_int HF.out, rfl⟩
end Go.Proofs.Ytcngeifkddhkmaa
