import Derived.Test.YtcngeifkddhkmaaDoorD1
import Derived.Test.YtcngeifkddhkmaaDoorKn
import Derived.Test.YtcngeifkddhkmaaDoorStr
namespace Go.Proofs.YtcngeifkddhkmaaDoor
open Go.RowKit Go.Sort
def isD (b : UInt8) : Bool := decide (48 ≤ b.toNat ∧ b.toNat ≤ 57)
def foldD (l : List UInt8) : Nat := l.foldl (fun a b => 10 * a + (b.toNat - 48)) 0
def signOff : List UInt8 → List UInt8
  | [] => []
  | b :: tl => if b.toNat = 45 then tl else b :: tl
/-- the number that decimal digits say -/
def numOf (bs : List UInt8) : Int := if (signOff bs).length < bs.length then -(foldD (signOff bs) : Int) else (foldD (signOff bs) : Int)
def rdDec (bs : List UInt8) : Option Int := if decide (1 ≤ (signOff bs).length ∧ (signOff bs).length ≤ 18) && (signOff bs).all isD && decide (dec (numOf bs) = bs) then some (numOf bs) else none
theorem foldD_snoc (l : List UInt8) (b : UInt8) : foldD (l ++ [b]) = 10 * foldD l + (b.toNat - 48) := by simp [foldD]
theorem foldD_acc (l : List UInt8) (h : l.all isD = true) : ∀ acc : Nat, l.foldl (fun a b => 10 * a + (b.toNat - 48)) acc < (acc + 1) * 10 ^ l.length := by
  induction l with
  | nil => intro acc; simp
  | cons b l ih =>
    intro acc
    rw [List.all_cons, Bool.and_eq_true] at h
    have h3 := of_decide_eq_true (show decide (48 ≤ b.toNat ∧ b.toNat ≤ 57) = true from h.1)
    have h1 := ih h.2 (10 * acc + (b.toNat - 48))
    rw [List.foldl_cons, List.length_cons, Nat.pow_succ]
    have h4 : (10 * acc + (b.toNat - 48) + 1) * 10 ^ l.length ≤ (10 * (acc + 1)) * 10 ^ l.length := Nat.mul_le_mul_right _ (by omega)
    have h5 : 10 * (acc + 1) * 10 ^ l.length = (acc + 1) * (10 ^ l.length * 10) := by rw [Nat.mul_comm 10 (acc + 1), Nat.mul_assoc, Nat.mul_comm 10]
    omega
theorem foldD_bd (l : List UInt8) (h : l.all isD = true) : foldD l < 10 ^ l.length := by
  have := foldD_acc l h 0
  simpa [foldD] using this
theorem all_take {l : List UInt8} {k : Nat} (h : k < l.length) : (l.take (k + 1)).all isD = ((l.take k).all isD && isD l[k]) := by
  rw [List.take_succ_eq_append_getElem h, List.all_append]; simp
theorem isDigit_any (z : Nat) (b : UInt8) (hb : b.toNat = z) (w : World) : Calls Tryd.prog 180 #[.int .u8 (z : Int)] w fun e w' => e = .returned (.bool (isD b)) ∧ w = w' := by
  by_cases h1 : 48 ≤ z
  · by_cases h2 : z ≤ 57
    · have i1 : (48 : Int) ≤ (z : Int) := by omega
      have i2 : (z : Int) ≤ 57 := by omega
      have HD : Hid (isD b = true) := by simp only [Hid, isD, hb]; exact decide_eq_true ⟨h1, h2⟩
      go_enter Tryd.func180, Tryd.ntmps180
      go_wp2_with fail
      go_ret
      exact ⟨ret_bool HD.out.symm, rfl⟩
    · have i1 : (48 : Int) ≤ (z : Int) := by omega
      have i2 : ¬ (z : Int) ≤ 57 := by omega
      have HD : Hid (isD b = false) := by simp only [Hid, isD, hb]; exact decide_eq_false (by omega)
      go_enter Tryd.func180, Tryd.ntmps180
      go_wp2_with fail
      go_ret
      exact ⟨ret_bool HD.out.symm, rfl⟩
  · have i1 : ¬ (48 : Int) ≤ (z : Int) := by omega
    have HD : Hid (isD b = false) := by simp only [Hid, isD, hb]; exact decide_eq_false (by omega)
    go_enter Tryd.func180, Tryd.ntmps180
    go_wp2_with fail
    go_ret
    exact ⟨ret_bool HD.out.symm, rfl⟩
theorem l01Digit_any (z : Nat) (b : UInt8) (hb : b.toNat = z) (w : World) : Calls Tryd.prog 201 #[.int .u8 (z : Int)] w fun e w' => e = .returned (.bool (isD b)) ∧ w = w' := by
  by_cases h1 : 48 ≤ z
  · by_cases h2 : z ≤ 57
    · have i1 : (48 : Int) ≤ (z : Int) := by omega
      have i2 : (z : Int) ≤ 57 := by omega
      have HD : Hid (isD b = true) := by simp only [Hid, isD, hb]; exact decide_eq_true ⟨h1, h2⟩
      go_enter Tryd.func201, Tryd.ntmps201
      go_wp2_with fail
      go_ret
      exact ⟨ret_bool HD.out.symm, rfl⟩
    · have i1 : (48 : Int) ≤ (z : Int) := by omega
      have i2 : ¬ (z : Int) ≤ 57 := by omega
      have HD : Hid (isD b = false) := by simp only [Hid, isD, hb]; exact decide_eq_false (by omega)
      go_enter Tryd.func201, Tryd.ntmps201
      go_wp2_with fail
      go_ret
      exact ⟨ret_bool HD.out.symm, rfl⟩
  · have i1 : ¬ (48 : Int) ≤ (z : Int) := by omega
    have HD : Hid (isD b = false) := by simp only [Hid, isD, hb]; exact decide_eq_false (by omega)
    go_enter Tryd.func201, Tryd.ntmps201
    go_wp2_with fail
    go_ret
    exact ⟨ret_bool HD.out.symm, rfl⟩
theorem rdDec_len {bs : List UInt8} (h : ¬ (1 ≤ (signOff bs).length ∧ (signOff bs).length ≤ 18)) : rdDec bs = none := by
  unfold rdDec; rw [decide_eq_false h]; rfl
theorem rdDec_all {bs : List UInt8} (h : (signOff bs).all isD = false) : rdDec bs = none := by
  unfold rdDec; rw [h]; simp
def rdN (bs : List UInt8) : Int := (rdDec bs).getD 0
theorem rd_none {bs : List UInt8} (h : rdDec bs = none) : rdN bs = 0 ∧ (rdDec bs).isSome = false := by simp [rdN, h]
theorem rd_some {bs : List UInt8} {n : Int} (h : rdDec bs = some n) : rdN bs = n ∧ (rdDec bs).isSome = true := by simp [rdN, h]
set_option maxRecDepth 100000 in
set_option maxHeartbeats 1600000 in
theorem l01Number_any (s : ByteArray) (w : World) (hs : s.size ≤ 9223372036854775807) :
    Calls Tryd.prog 145 #[.string s] w fun e w' => e = .returned (.tuple #[.int .i64 (rdN (strB s)), .bool (rdDec (strB s)).isSome]) ∧ Below w.heap.size w w' := by
  by_cases h0 : 0 < s.size
  · have hE := str_nonempty h0
    have hc := strB_cons h0
    obtain ⟨b, hb⟩ : ∃ b, s[0] = b := ⟨_, rfl⟩
    rw [hb] at hc
    obtain ⟨z0, hz0⟩ : ∃ z : Nat, b.toNat = z := ⟨_, rfl⟩
    have i0 : (0 : Int) < (s.size : Int) := by omega
    by_cases h45 : z0 = 45
    · have i2 : ((z0 : Int) == 45) = true := by rw [beq_iff_eq]; omega
      obtain ⟨x, hx⟩ : ∃ x, s.extract 1 s.size = x := ⟨_, rfl⟩
      have HXB : Hid (strB x = signOff (strB s)) := by
        simp only [Hid]; rw [← hx, strB_tail, hc]; simp only [signOff]; rw [hz0, if_pos h45]; rfl
      have hxs : x.size = s.size - 1 := by rw [← hx, extract_size]
      have HC := Lib.hid hc
      have i1 : (1 : Int) ≤ (s.size : Int) := by omega
      have i5 : (x.size : Int) < (s.size : Int) := by omega
      by_cases hx0 : 0 < x.size
      · have j0 : ((x.size : Int) == 0) = false := by rw [beq_eq_false_iff_ne]; omega
        have j1 : ¬ (x.size : Int) < 1 := by omega
        have HX := Lib.hid hx
        clear hc hxs
        go_enter Tryd.func145, Tryd.ntmps145
        have HXL := Lib.hid (show (strB x).length = x.size from strB_len x)
        by_cases h18 : x.size ≤ 18
        · go_wp2_with fail
          go_loopw [5, 6] (fun nn ii wr => ∃ k : Nat, k ≤ x.size ∧ ii = .int .i64 k ∧ nn = .int .i64 (foldD ((strB x).take k) : Int) ∧ ((strB x).take k).all isD = true ∧ w = wr) (fun _ i _ => x.size - (intOf i).toNat)
          case atStart => exact ⟨0, Nat.zero_le _, rfl, rfl, rfl, rfl⟩
          case round =>
            obtain ⟨k, hk, rfl, rfl, hall, rfl⟩ := hrel
            have hbd := foldD_bd _ hall
            rw [List.length_take] at hbd
            have hp : 10 ^ (min k (strB x).length) ≤ 10 ^ 18 := Nat.pow_le_pow_right (by omega) (by have := HXL.out; omega)
            have HA := Lib.hid hall
            obtain ⟨N, hN⟩ : ∃ N, foldD ((strB x).take k) = N := ⟨_, rfl⟩
            have HN := Lib.hid hN
            have hN2 : N < 1000000000000000000 := by rw [← hN]; exact Nat.lt_of_lt_of_le hbd (Nat.le_trans hp (by decide))
            have HB := Lib.hid (show N < 10 ^ (min k (strB x).length) by rw [← hN]; exact hbd)
            rw [hN]
            clear hall hbd hp hN
            by_cases hkn : k < x.size
            · obtain ⟨q, hq⟩ : ∃ q : UInt8, x[k] = q := ⟨_, rfl⟩
              obtain ⟨z, hz⟩ : ∃ z : Nat, q.toNat = z := ⟨_, rfl⟩
              have hz2 : z < 256 := by rw [← hz]; exact q.toNat_lt
              have hkl : k < (strB x).length := by rw [HXL.out]; exact hkn
              have hg : (strB x)[k] = q := by rw [← hq, strB_get x hkn]
              have HT := Lib.hid (all_take hkl)
              have HF := Lib.hid (List.take_succ_eq_append_getElem hkl)
              have HNOT := Lib.hid (fun (h1 : isD (strB x)[k] = false) => all_not (p := isD) hkl h1)
              rw [hg] at HT HF HNOT
              have i0 : (0 : Int) ≤ (k : Int) := by omega
              have i1 : (k : Int) < (x.size : Int) := by omega
              have HZ := Lib.hid hz
              have hN3 : N < 100000000000000000 := Nat.lt_of_lt_of_le HB.out (Nat.le_trans (Nat.pow_le_pow_right (n := 10) (by omega) (show min k (strB x).length ≤ 17 by omega)) (by decide))
              rcases hd : isD q with _ | _
              · have HU := Lib.hid (rd_none (bs := strB s) (rdDec_all (by rw [← HXB.out]; exact HNOT.out hd)))
                have KD := Lib.hid (fun W => calls_val (l01Digit_any z q hz W) (congrArg Value.bool hd))
                clear hd hg
                go_wp2_with (go_at_call 201; refine (KD.out _).mono ?_; rintro e w' ⟨rfl, rfl⟩)
                go_ret2
                exact ⟨by rw [HU.out.1, HU.out.2] <;> rfl, Below.refl _ _⟩
              · have KD := Lib.hid (fun W => calls_val (l01Digit_any z q hz W) (congrArg Value.bool hd))
                have hz3 := of_decide_eq_true (show decide (48 ≤ q.toNat ∧ q.toNat ≤ 57) = true from hd)
                rw [hz] at hz3
                have y1 : IntKind.u8.wrap ((z : Int) - 48) = (z : Int) - 48 := wrapB (by omega)
                have y2 : wrap64 (10 * (N : Int)) = 10 * (N : Int) := wrap64_of (by omega)
                have y3 : wrap64 (10 * (N : Int) + ((z : Int) - 48)) = 10 * (N : Int) + ((z : Int) - 48) := wrap64_of (by omega)
                have HD := Lib.hid hd
                clear hd hg
                go_wp2_with (go_at_call 201; refine (KD.out _).mono ?_; rintro e w' ⟨rfl, rfl⟩)
                go_roundw
                case rel => exact ⟨k + 1, by omega, by go_num, by rw [HF.out, foldD_snoc, HN.out, HZ.out]; congr 1; omega, by rw [HT.out, HA.out, HD.out]; rfl, by first | rfl | trivial⟩
                case measure => simp [intOf]; omega
            · have HK : Hid ((strB x).take k = strB x) := List.take_of_length_le (by have := HXL.out; omega)
              have HFN : Hid (foldD (signOff (strB s)) = N) := by simp only [Hid]; rw [← HXB.out, ← HK.out]; exact HN.out
              have HAL : Hid ((signOff (strB s)).all isD = true) := by simp only [Hid]; rw [← HXB.out, ← HK.out]; exact HA.out
              have HLE : Hid (1 ≤ (signOff (strB s)).length ∧ (signOff (strB s)).length ≤ 18) := by simp only [Hid]; rw [← HXB.out, HXL.out]; omega
              have HSL := Lib.hid (strB_len s)
              obtain ⟨v, hv⟩ : ∃ v, v = -(N : Int) := ⟨_, rfl⟩; have hvb : -9223372036854775808 ≤ v ∧ v ≤ 9223372036854775807 := (by omega); have HNU : Hid (numOf (strB s) = v) := (by simp only [Hid, numOf]; rw [HFN.out, hv, if_pos (by rw [← HXB.out, HXL.out, HSL.out]; omega)]); rw [show (0 : Int) = 0 from rfl]; have hv' := hv.symm; clear hv
              have HRD : Hid (rdDec (strB s) = if decide (dec v = strB s) then some v else none) := by
                simp only [Hid, rdDec]; rw [HAL.out, decide_eq_true HLE.out, HNU.out]; simp
              have i9 : ¬ (k : Int) < (x.size : Int) := by omega
              rcases hq : (dec v == s.toList) with _ | _
              · have HU := Lib.hid (rd_none (bs := strB s) (by rw [HRD.out]; rw [strB_toList, beq_eq_false_iff_ne] at hq; simp [hq]))
                go_wp2_with fail
                refine (l01Dec_any v w hvb.1 hvb.2).mono ?_; rintro e w' ⟨rfl, hwd⟩
                go_wp2_with fail
                go_ret2
                exact ⟨by rw [HU.out.1, HU.out.2] <;> rfl, hwd⟩
              · have HU := Lib.hid (rd_some (bs := strB s) (n := v) (by rw [HRD.out]; rw [strB_toList, beq_iff_eq] at hq; simp [hq]))
                go_wp2_with fail
                refine (l01Dec_any v w hvb.1 hvb.2).mono ?_; rintro e w' ⟨rfl, hwd⟩
                go_wp2_with fail
                go_ret2
                exact ⟨by rw [HU.out.1, HU.out.2] <;> rfl, hwd⟩
        · have HU := Lib.hid (rd_none (bs := strB s) (rdDec_len (by rw [← HXB.out, HXL.out]; omega)))
          have i3 : (18 : Int) < (x.size : Int) := by omega
          go_wp2_with fail
          go_ret2
          exact ⟨by rw [HU.out.1, HU.out.2] <;> rfl, Below.refl _ _⟩
      · have HU := Lib.hid (rd_none (bs := strB s) (rdDec_len (by rw [← HXB.out, strB_len]; omega)))
        have hxz := size_zero (show x.size = 0 by omega)
        subst hxz
        clear hc
        go_enter Tryd.func145, Tryd.ntmps145
        go_wp2_with fail
        go_ret2
        exact ⟨by rw [HU.out.1, HU.out.2] <;> rfl, Below.refl _ _⟩
    · have i2 : ((z0 : Int) == 45) = false := by rw [beq_eq_false_iff_ne]; omega
      have HXB : Hid (strB s = signOff (strB s)) := by
        simp only [Hid]; rw [hc]; simp only [signOff]; rw [hz0, if_neg h45]
      have j0 : ((s.size : Int) == 0) = false := by rw [beq_eq_false_iff_ne]; omega
      have j1 : ¬ (s.size : Int) < 1 := by omega
      have i5 : ¬ (s.size : Int) < (s.size : Int) := by omega
      clear hc
      go_enter Tryd.func145, Tryd.ntmps145
      have HXL := Lib.hid (show (strB s).length = s.size from strB_len s)
      by_cases h18 : s.size ≤ 18
      · go_wp2_with fail
        go_loopw [5, 6] (fun nn ii wr => ∃ k : Nat, k ≤ s.size ∧ ii = .int .i64 k ∧ nn = .int .i64 (foldD ((strB s).take k) : Int) ∧ ((strB s).take k).all isD = true ∧ w = wr) (fun _ i _ => s.size - (intOf i).toNat)
        case atStart => exact ⟨0, Nat.zero_le _, rfl, rfl, rfl, rfl⟩
        case round =>
          obtain ⟨k, hk, rfl, rfl, hall, rfl⟩ := hrel
          have hbd := foldD_bd _ hall
          rw [List.length_take] at hbd
          have hp : 10 ^ (min k (strB s).length) ≤ 10 ^ 18 := Nat.pow_le_pow_right (by omega) (by have := HXL.out; omega)
          have HA := Lib.hid hall
          obtain ⟨N, hN⟩ : ∃ N, foldD ((strB s).take k) = N := ⟨_, rfl⟩
          have HN := Lib.hid hN
          have hN2 : N < 1000000000000000000 := by rw [← hN]; exact Nat.lt_of_lt_of_le hbd (Nat.le_trans hp (by decide))
          have HB := Lib.hid (show N < 10 ^ (min k (strB s).length) by rw [← hN]; exact hbd)
          rw [hN]
          clear hall hbd hp hN
          by_cases hkn : k < s.size
          · obtain ⟨q, hq⟩ : ∃ q : UInt8, s[k] = q := ⟨_, rfl⟩
            obtain ⟨z, hz⟩ : ∃ z : Nat, q.toNat = z := ⟨_, rfl⟩
            have hz2 : z < 256 := by rw [← hz]; exact q.toNat_lt
            have hkl : k < (strB s).length := by rw [HXL.out]; exact hkn
            have hg : (strB s)[k] = q := by rw [← hq, strB_get s hkn]
            have HT := Lib.hid (all_take hkl)
            have HF := Lib.hid (List.take_succ_eq_append_getElem hkl)
            have HNOT := Lib.hid (fun (h1 : isD (strB s)[k] = false) => all_not (p := isD) hkl h1)
            rw [hg] at HT HF HNOT
            have i0 : (0 : Int) ≤ (k : Int) := by omega
            have i1 : (k : Int) < (s.size : Int) := by omega
            have HZ := Lib.hid hz
            have hN3 : N < 100000000000000000 := Nat.lt_of_lt_of_le HB.out (Nat.le_trans (Nat.pow_le_pow_right (n := 10) (by omega) (show min k (strB s).length ≤ 17 by omega)) (by decide))
            rcases hd : isD q with _ | _
            · have HU := Lib.hid (rd_none (bs := strB s) (rdDec_all (by rw [← HXB.out]; exact HNOT.out hd)))
              have KD := Lib.hid (fun W => calls_val (l01Digit_any z q hz W) (congrArg Value.bool hd))
              clear hd hg
              go_wp2_with (go_at_call 201; refine (KD.out _).mono ?_; rintro e w' ⟨rfl, rfl⟩)
              go_ret2
              exact ⟨by rw [HU.out.1, HU.out.2] <;> rfl, Below.refl _ _⟩
            · have KD := Lib.hid (fun W => calls_val (l01Digit_any z q hz W) (congrArg Value.bool hd))
              have hz3 := of_decide_eq_true (show decide (48 ≤ q.toNat ∧ q.toNat ≤ 57) = true from hd)
              rw [hz] at hz3
              have y1 : IntKind.u8.wrap ((z : Int) - 48) = (z : Int) - 48 := wrapB (by omega)
              have y2 : wrap64 (10 * (N : Int)) = 10 * (N : Int) := wrap64_of (by omega)
              have y3 : wrap64 (10 * (N : Int) + ((z : Int) - 48)) = 10 * (N : Int) + ((z : Int) - 48) := wrap64_of (by omega)
              have HD := Lib.hid hd
              clear hd hg
              go_wp2_with (go_at_call 201; refine (KD.out _).mono ?_; rintro e w' ⟨rfl, rfl⟩)
              go_roundw
              case rel => exact ⟨k + 1, by omega, by go_num, by rw [HF.out, foldD_snoc, HN.out, HZ.out]; congr 1; omega, by rw [HT.out, HA.out, HD.out]; rfl, by first | rfl | trivial⟩
              case measure => simp [intOf]; omega
          · have HK : Hid ((strB s).take k = strB s) := List.take_of_length_le (by have := HXL.out; omega)
            have HFN : Hid (foldD (signOff (strB s)) = N) := by simp only [Hid]; rw [← HXB.out, ← HK.out]; exact HN.out
            have HAL : Hid ((signOff (strB s)).all isD = true) := by simp only [Hid]; rw [← HXB.out, ← HK.out]; exact HA.out
            have HLE : Hid (1 ≤ (signOff (strB s)).length ∧ (signOff (strB s)).length ≤ 18) := by simp only [Hid]; rw [← HXB.out, HXL.out]; omega
            have HSL := Lib.hid (strB_len s)
            obtain ⟨v, hv⟩ : ∃ v, v = (N : Int) := ⟨_, rfl⟩; have hvb : -9223372036854775808 ≤ v ∧ v ≤ 9223372036854775807 := (by omega); have HNU : Hid (numOf (strB s) = v) := (by simp only [Hid, numOf]; rw [HFN.out, hv, if_neg (by rw [← HXB.out]; omega)]); have hv' := hv.symm; clear hv
            have HRD : Hid (rdDec (strB s) = if decide (dec v = strB s) then some v else none) := by
              simp only [Hid, rdDec]; rw [HAL.out, decide_eq_true HLE.out, HNU.out]; simp
            have i9 : ¬ (k : Int) < (s.size : Int) := by omega
            rcases hq : (dec v == s.toList) with _ | _
            · have HU := Lib.hid (rd_none (bs := strB s) (by rw [HRD.out]; rw [strB_toList, beq_eq_false_iff_ne] at hq; simp [hq]))
              go_wp2_with fail
              refine (l01Dec_any v w hvb.1 hvb.2).mono ?_; rintro e w' ⟨rfl, hwd⟩
              go_wp2_with fail
              go_ret2
              exact ⟨by rw [HU.out.1, HU.out.2] <;> rfl, hwd⟩
            · have HU := Lib.hid (rd_some (bs := strB s) (n := v) (by rw [HRD.out]; rw [strB_toList, beq_iff_eq] at hq; simp [hq]))
              go_wp2_with fail
              refine (l01Dec_any v w hvb.1 hvb.2).mono ?_; rintro e w' ⟨rfl, hwd⟩
              go_wp2_with fail
              go_ret2
              exact ⟨by rw [HU.out.1, HU.out.2] <;> rfl, hwd⟩
      · have HU := Lib.hid (rd_none (bs := strB s) (rdDec_len (by rw [← HXB.out, HXL.out]; omega)))
        have i3 : (18 : Int) < (s.size : Int) := by omega
        go_wp2_with fail
        go_ret2
        exact ⟨by rw [HU.out.1, HU.out.2] <;> rfl, Below.refl _ _⟩
  · obtain rfl := size_zero (show s.size = 0 by omega)
    have HU := Lib.hid (rd_none (bs := strB ⟨#[]⟩) (by rfl))
    go_enter Tryd.func145, Tryd.ntmps145
    go_wp2_with fail
    go_ret2
    exact ⟨by rw [HU.out.1, HU.out.2] <;> rfl, Below.refl _ _⟩
set_option maxRecDepth 100000 in
set_option maxHeartbeats 1600000 in
theorem ReadDecimal_any (s : ByteArray) (w : World) (hs : s.size ≤ 9223372036854775807)(ht : TB w) :
    Calls Tryd.prog 100 #[.string s] w fun e w' => e = .returned (.tuple #[.int .i64 (rdN (strB s)), .bool (rdDec (strB s)).isSome]) ∧ Below w.heap.size w w' := by
  by_cases h0 : 0 < s.size
  · have hE := str_nonempty h0
    have hc := strB_cons h0
    obtain ⟨b, hb⟩ : ∃ b, s[0] = b := ⟨_, rfl⟩
    rw [hb] at hc
    obtain ⟨z0, hz0⟩ : ∃ z : Nat, b.toNat = z := ⟨_, rfl⟩
    have i0 : (0 : Int) < (s.size : Int) := by omega
    by_cases h45 : z0 = 45
    · have i2 : ((z0 : Int) == 45) = true := by rw [beq_iff_eq]; omega
      obtain ⟨x, hx⟩ : ∃ x, s.extract 1 s.size = x := ⟨_, rfl⟩
      have HXB : Hid (strB x = signOff (strB s)) := by
        simp only [Hid]; rw [← hx, strB_tail, hc]; simp only [signOff]; rw [hz0, if_pos h45]; rfl
      have hxs : x.size = s.size - 1 := by rw [← hx, extract_size]
      have HC := Lib.hid hc
      have i1 : (1 : Int) ≤ (s.size : Int) := by omega
      have i5 : (x.size : Int) < (s.size : Int) := by omega
      by_cases hx0 : 0 < x.size
      · have j0 : ((x.size : Int) == 0) = false := by rw [beq_eq_false_iff_ne]; omega
        have j1 : ¬ (x.size : Int) < 1 := by omega
        have HX := Lib.hid hx
        clear hc hxs
        go_enter Tryd.func100, Tryd.ntmps100
        have HXL := Lib.hid (show (strB x).length = x.size from strB_len x)
        by_cases h18 : x.size ≤ 18
        · go_wp2_with fail
          go_loopw [5, 28] (fun nn ii wr => ∃ k : Nat, k ≤ x.size ∧ ii = .int .i64 k ∧ nn = .int .i64 (foldD ((strB x).take k) : Int) ∧ ((strB x).take k).all isD = true ∧ w = wr) (fun _ i _ => x.size - (intOf i).toNat)
          case atStart => exact ⟨0, Nat.zero_le _, rfl, rfl, rfl, rfl⟩
          case round =>
            obtain ⟨k, hk, rfl, rfl, hall, rfl⟩ := hrel
            have hbd := foldD_bd _ hall
            rw [List.length_take] at hbd
            have hp : 10 ^ (min k (strB x).length) ≤ 10 ^ 18 := Nat.pow_le_pow_right (by omega) (by have := HXL.out; omega)
            have HA := Lib.hid hall
            obtain ⟨N, hN⟩ : ∃ N, foldD ((strB x).take k) = N := ⟨_, rfl⟩
            have HN := Lib.hid hN
            have hN2 : N < 1000000000000000000 := by rw [← hN]; exact Nat.lt_of_lt_of_le hbd (Nat.le_trans hp (by decide))
            have HB := Lib.hid (show N < 10 ^ (min k (strB x).length) by rw [← hN]; exact hbd)
            rw [hN]
            clear hall hbd hp hN
            by_cases hkn : k < x.size
            · obtain ⟨q, hq⟩ : ∃ q : UInt8, x[k] = q := ⟨_, rfl⟩
              obtain ⟨z, hz⟩ : ∃ z : Nat, q.toNat = z := ⟨_, rfl⟩
              have hz2 : z < 256 := by rw [← hz]; exact q.toNat_lt
              have hkl : k < (strB x).length := by rw [HXL.out]; exact hkn
              have hg : (strB x)[k] = q := by rw [← hq, strB_get x hkn]
              have HT := Lib.hid (all_take hkl)
              have HF := Lib.hid (List.take_succ_eq_append_getElem hkl)
              have HNOT := Lib.hid (fun (h1 : isD (strB x)[k] = false) => all_not (p := isD) hkl h1)
              rw [hg] at HT HF HNOT
              have i0 : (0 : Int) ≤ (k : Int) := by omega
              have i1 : (k : Int) < (x.size : Int) := by omega
              have HZ := Lib.hid hz
              have hN3 : N < 100000000000000000 := Nat.lt_of_lt_of_le HB.out (Nat.le_trans (Nat.pow_le_pow_right (n := 10) (by omega) (show min k (strB x).length ≤ 17 by omega)) (by decide))
              rcases hd : isD q with _ | _
              · have HU := Lib.hid (rd_none (bs := strB s) (rdDec_all (by rw [← HXB.out]; exact HNOT.out hd)))
                have KD := Lib.hid (fun W => calls_val (isDigit_any z q hz W) (congrArg Value.bool hd))
                clear hd hg
                go_wp2_with (go_at_call 180; refine (KD.out _).mono ?_; rintro e w' ⟨rfl, rfl⟩)
                go_ret2
                exact ⟨by rw [HU.out.1, HU.out.2] <;> rfl, Below.refl _ _⟩
              · have KD := Lib.hid (fun W => calls_val (isDigit_any z q hz W) (congrArg Value.bool hd))
                have hz3 := of_decide_eq_true (show decide (48 ≤ q.toNat ∧ q.toNat ≤ 57) = true from hd)
                rw [hz] at hz3
                have y1 : IntKind.u8.wrap ((z : Int) - 48) = (z : Int) - 48 := wrapB (by omega)
                have y2 : wrap64 (10 * (N : Int)) = 10 * (N : Int) := wrap64_of (by omega)
                have y3 : wrap64 (10 * (N : Int) + ((z : Int) - 48)) = 10 * (N : Int) + ((z : Int) - 48) := wrap64_of (by omega)
                have HD := Lib.hid hd
                clear hd hg
                go_wp2_with (go_at_call 180; refine (KD.out _).mono ?_; rintro e w' ⟨rfl, rfl⟩)
                go_roundw
                case rel => exact ⟨k + 1, by omega, by go_num, by rw [HF.out, foldD_snoc, HN.out, HZ.out]; congr 1; omega, by rw [HT.out, HA.out, HD.out]; rfl, by first | rfl | trivial⟩
                case measure => simp [intOf]; omega
            · have HK : Hid ((strB x).take k = strB x) := List.take_of_length_le (by have := HXL.out; omega)
              have HFN : Hid (foldD (signOff (strB s)) = N) := by simp only [Hid]; rw [← HXB.out, ← HK.out]; exact HN.out
              have HAL : Hid ((signOff (strB s)).all isD = true) := by simp only [Hid]; rw [← HXB.out, ← HK.out]; exact HA.out
              have HLE : Hid (1 ≤ (signOff (strB s)).length ∧ (signOff (strB s)).length ≤ 18) := by simp only [Hid]; rw [← HXB.out, HXL.out]; omega
              have HSL := Lib.hid (strB_len s)
              obtain ⟨v, hv⟩ : ∃ v, v = -(N : Int) := ⟨_, rfl⟩; have hvb : -9223372036854775808 ≤ v ∧ v ≤ 9223372036854775807 := (by omega); have HNU : Hid (numOf (strB s) = v) := (by simp only [Hid, numOf]; rw [HFN.out, hv, if_pos (by rw [← HXB.out, HXL.out, HSL.out]; omega)]); rw [show (0 : Int) = 0 from rfl]; have hv' := hv.symm; clear hv
              have HRD : Hid (rdDec (strB s) = if decide (dec v = strB s) then some v else none) := by
                simp only [Hid, rdDec]; rw [HAL.out, decide_eq_true HLE.out, HNU.out]; simp
              have i9 : ¬ (k : Int) < (x.size : Int) := by omega
              rcases hq : (dec v == s.toList) with _ | _
              · have HU := Lib.hid (rd_none (bs := strB s) (by rw [HRD.out]; rw [strB_toList, beq_eq_false_iff_ne] at hq; simp [hq]))
                go_wp2_with fail
                refine (Decimal_any v w hvb.1 hvb.2 ht).mono ?_; rintro e w' ⟨rfl, hwd⟩
                go_wp2_with fail
                go_ret2
                exact ⟨by rw [HU.out.1, HU.out.2] <;> rfl, hwd⟩
              · have HU := Lib.hid (rd_some (bs := strB s) (n := v) (by rw [HRD.out]; rw [strB_toList, beq_iff_eq] at hq; simp [hq]))
                go_wp2_with fail
                refine (Decimal_any v w hvb.1 hvb.2 ht).mono ?_; rintro e w' ⟨rfl, hwd⟩
                go_wp2_with fail
                go_ret2
                exact ⟨by rw [HU.out.1, HU.out.2] <;> rfl, hwd⟩
        · have HU := Lib.hid (rd_none (bs := strB s) (rdDec_len (by rw [← HXB.out, HXL.out]; omega)))
          have i3 : (18 : Int) < (x.size : Int) := by omega
          go_wp2_with fail
          go_ret2
          exact ⟨by rw [HU.out.1, HU.out.2] <;> rfl, Below.refl _ _⟩
      · have HU := Lib.hid (rd_none (bs := strB s) (rdDec_len (by rw [← HXB.out, strB_len]; omega)))
        have hxz := size_zero (show x.size = 0 by omega)
        subst hxz
        clear hc
        go_enter Tryd.func100, Tryd.ntmps100
        go_wp2_with fail
        go_ret2
        exact ⟨by rw [HU.out.1, HU.out.2] <;> rfl, Below.refl _ _⟩
    · have i2 : ((z0 : Int) == 45) = false := by rw [beq_eq_false_iff_ne]; omega
      have HXB : Hid (strB s = signOff (strB s)) := by
        simp only [Hid]; rw [hc]; simp only [signOff]; rw [hz0, if_neg h45]
      have j0 : ((s.size : Int) == 0) = false := by rw [beq_eq_false_iff_ne]; omega
      have j1 : ¬ (s.size : Int) < 1 := by omega
      have i5 : ¬ (s.size : Int) < (s.size : Int) := by omega
      clear hc
      go_enter Tryd.func100, Tryd.ntmps100
      have HXL := Lib.hid (show (strB s).length = s.size from strB_len s)
      by_cases h18 : s.size ≤ 18
      · go_wp2_with fail
        go_loopw [5, 28] (fun nn ii wr => ∃ k : Nat, k ≤ s.size ∧ ii = .int .i64 k ∧ nn = .int .i64 (foldD ((strB s).take k) : Int) ∧ ((strB s).take k).all isD = true ∧ w = wr) (fun _ i _ => s.size - (intOf i).toNat)
        case atStart => exact ⟨0, Nat.zero_le _, rfl, rfl, rfl, rfl⟩
        case round =>
          obtain ⟨k, hk, rfl, rfl, hall, rfl⟩ := hrel
          have hbd := foldD_bd _ hall
          rw [List.length_take] at hbd
          have hp : 10 ^ (min k (strB s).length) ≤ 10 ^ 18 := Nat.pow_le_pow_right (by omega) (by have := HXL.out; omega)
          have HA := Lib.hid hall
          obtain ⟨N, hN⟩ : ∃ N, foldD ((strB s).take k) = N := ⟨_, rfl⟩
          have HN := Lib.hid hN
          have hN2 : N < 1000000000000000000 := by rw [← hN]; exact Nat.lt_of_lt_of_le hbd (Nat.le_trans hp (by decide))
          have HB := Lib.hid (show N < 10 ^ (min k (strB s).length) by rw [← hN]; exact hbd)
          rw [hN]
          clear hall hbd hp hN
          by_cases hkn : k < s.size
          · obtain ⟨q, hq⟩ : ∃ q : UInt8, s[k] = q := ⟨_, rfl⟩
            obtain ⟨z, hz⟩ : ∃ z : Nat, q.toNat = z := ⟨_, rfl⟩
            have hz2 : z < 256 := by rw [← hz]; exact q.toNat_lt
            have hkl : k < (strB s).length := by rw [HXL.out]; exact hkn
            have hg : (strB s)[k] = q := by rw [← hq, strB_get s hkn]
            have HT := Lib.hid (all_take hkl)
            have HF := Lib.hid (List.take_succ_eq_append_getElem hkl)
            have HNOT := Lib.hid (fun (h1 : isD (strB s)[k] = false) => all_not (p := isD) hkl h1)
            rw [hg] at HT HF HNOT
            have i0 : (0 : Int) ≤ (k : Int) := by omega
            have i1 : (k : Int) < (s.size : Int) := by omega
            have HZ := Lib.hid hz
            have hN3 : N < 100000000000000000 := Nat.lt_of_lt_of_le HB.out (Nat.le_trans (Nat.pow_le_pow_right (n := 10) (by omega) (show min k (strB s).length ≤ 17 by omega)) (by decide))
            rcases hd : isD q with _ | _
            · have HU := Lib.hid (rd_none (bs := strB s) (rdDec_all (by rw [← HXB.out]; exact HNOT.out hd)))
              have KD := Lib.hid (fun W => calls_val (isDigit_any z q hz W) (congrArg Value.bool hd))
              clear hd hg
              go_wp2_with (go_at_call 180; refine (KD.out _).mono ?_; rintro e w' ⟨rfl, rfl⟩)
              go_ret2
              exact ⟨by rw [HU.out.1, HU.out.2] <;> rfl, Below.refl _ _⟩
            · have KD := Lib.hid (fun W => calls_val (isDigit_any z q hz W) (congrArg Value.bool hd))
              have hz3 := of_decide_eq_true (show decide (48 ≤ q.toNat ∧ q.toNat ≤ 57) = true from hd)
              rw [hz] at hz3
              have y1 : IntKind.u8.wrap ((z : Int) - 48) = (z : Int) - 48 := wrapB (by omega)
              have y2 : wrap64 (10 * (N : Int)) = 10 * (N : Int) := wrap64_of (by omega)
              have y3 : wrap64 (10 * (N : Int) + ((z : Int) - 48)) = 10 * (N : Int) + ((z : Int) - 48) := wrap64_of (by omega)
              have HD := Lib.hid hd
              clear hd hg
              go_wp2_with (go_at_call 180; refine (KD.out _).mono ?_; rintro e w' ⟨rfl, rfl⟩)
              go_roundw
              case rel => exact ⟨k + 1, by omega, by go_num, by rw [HF.out, foldD_snoc, HN.out, HZ.out]; congr 1; omega, by rw [HT.out, HA.out, HD.out]; rfl, by first | rfl | trivial⟩
              case measure => simp [intOf]; omega
          · have HK : Hid ((strB s).take k = strB s) := List.take_of_length_le (by have := HXL.out; omega)
            have HFN : Hid (foldD (signOff (strB s)) = N) := by simp only [Hid]; rw [← HXB.out, ← HK.out]; exact HN.out
            have HAL : Hid ((signOff (strB s)).all isD = true) := by simp only [Hid]; rw [← HXB.out, ← HK.out]; exact HA.out
            have HLE : Hid (1 ≤ (signOff (strB s)).length ∧ (signOff (strB s)).length ≤ 18) := by simp only [Hid]; rw [← HXB.out, HXL.out]; omega
            have HSL := Lib.hid (strB_len s)
            obtain ⟨v, hv⟩ : ∃ v, v = (N : Int) := ⟨_, rfl⟩; have hvb : -9223372036854775808 ≤ v ∧ v ≤ 9223372036854775807 := (by omega); have HNU : Hid (numOf (strB s) = v) := (by simp only [Hid, numOf]; rw [HFN.out, hv, if_neg (by rw [← HXB.out]; omega)]); have hv' := hv.symm; clear hv
            have HRD : Hid (rdDec (strB s) = if decide (dec v = strB s) then some v else none) := by
              simp only [Hid, rdDec]; rw [HAL.out, decide_eq_true HLE.out, HNU.out]; simp
            have i9 : ¬ (k : Int) < (s.size : Int) := by omega
            rcases hq : (dec v == s.toList) with _ | _
            · have HU := Lib.hid (rd_none (bs := strB s) (by rw [HRD.out]; rw [strB_toList, beq_eq_false_iff_ne] at hq; simp [hq]))
              go_wp2_with fail
              refine (Decimal_any v w hvb.1 hvb.2 ht).mono ?_; rintro e w' ⟨rfl, hwd⟩
              go_wp2_with fail
              go_ret2
              exact ⟨by rw [HU.out.1, HU.out.2] <;> rfl, hwd⟩
            · have HU := Lib.hid (rd_some (bs := strB s) (n := v) (by rw [HRD.out]; rw [strB_toList, beq_iff_eq] at hq; simp [hq]))
              go_wp2_with fail
              refine (Decimal_any v w hvb.1 hvb.2 ht).mono ?_; rintro e w' ⟨rfl, hwd⟩
              go_wp2_with fail
              go_ret2
              exact ⟨by rw [HU.out.1, HU.out.2] <;> rfl, hwd⟩
      · have HU := Lib.hid (rd_none (bs := strB s) (rdDec_len (by rw [← HXB.out, HXL.out]; omega)))
        have i3 : (18 : Int) < (s.size : Int) := by omega
        go_wp2_with fail
        go_ret2
        exact ⟨by rw [HU.out.1, HU.out.2] <;> rfl, Below.refl _ _⟩
  · obtain rfl := size_zero (show s.size = 0 by omega)
    have HU := Lib.hid (rd_none (bs := strB ⟨#[]⟩) (by rfl))
    go_enter Tryd.func100, Tryd.ntmps100
    go_wp2_with fail
    go_ret2
    exact ⟨by rw [HU.out.1, HU.out.2] <;> rfl, Below.refl _ _⟩
end Go.Proofs.YtcngeifkddhkmaaDoor
