/- Part 2: lemmas and contracts of the claim's functions. -/
import Derived.Test.YtmmiahgmdllgdaaGreatDoorZC1
import Derived.Deep.DeepCutAuto
namespace Go.Proofs.YtmmiahgmdllgdaaGreatDoor
open Go.RowKit Go.Sort
def isD (b : UInt8) : Bool := decide (48 ≤ b.toNat ∧ b.toNat ≤ 57)
def foldD (l : List UInt8) : Nat := l.foldl (fun a b => 10 * a + (b.toNat - 48)) 0
def signOff : List UInt8 → List UInt8
  | [] => []
  | b :: tl => if b.toNat = 45 then tl else b :: tl
/-- the number that decimal digits say -/
def numOf (bs : List UInt8) : Int := if (signOff bs).length < bs.length then -(foldD (signOff bs) : Int) else (foldD (signOff bs) : Int)
def rdDec (bs : List UInt8) : Option Int := if decide (1 ≤ (signOff bs).length ∧ (signOff bs).length ≤ 18) && (signOff bs).all isD && decide (dec (numOf bs) = bs) then some (numOf bs) else none
theorem foldD_snoc (l : List UInt8) (b : UInt8) : foldD (l ++ [b]) = 10 * foldD l + (b.toNat - 48) := by simp [foldD]
theorem foldD_acc (l : List UInt8) (h : l.all isD = true) : ∀ acc : Nat, l.foldl (fun a b => 10 * a + (b.toNat - 48)) acc < (acc + 1) * 10 ^ l.length := by
  induction l with
  | nil => intro acc; simp
  | cons b l ih =>
    intro acc
    rw [List.all_cons, Bool.and_eq_true] at h
    have h3 := of_decide_eq_true (show decide (48 ≤ b.toNat ∧ b.toNat ≤ 57) = true from h.1)
    have h1 := ih h.2 (10 * acc + (b.toNat - 48))
    rw [List.foldl_cons, List.length_cons, Nat.pow_succ]
    have h4 : (10 * acc + (b.toNat - 48) + 1) * 10 ^ l.length ≤ (10 * (acc + 1)) * 10 ^ l.length := Nat.mul_le_mul_right _ (by omega)
    have h5 : 10 * (acc + 1) * 10 ^ l.length = (acc + 1) * (10 ^ l.length * 10) := by rw [Nat.mul_comm 10 (acc + 1), Nat.mul_assoc, Nat.mul_comm 10]
    omega
theorem foldD_bd (l : List UInt8) (h : l.all isD = true) : foldD l < 10 ^ l.length := by
  have := foldD_acc l h 0
  simpa [foldD] using this
theorem all_take {l : List UInt8} {k : Nat} (h : k < l.length) : (l.take (k + 1)).all isD = ((l.take k).all isD && isD l[k]) := by
  rw [List.take_succ_eq_append_getElem h, List.all_append]; simp
theorem isDigit_any (z : Nat) (b : UInt8) (hb : b.toNat = z) (w : World) : Calls Tryz.prog 157 #[.int .u8 (z : Int)] w fun e w' => e = .returned (.bool (isD b)) ∧ w = w' := by
  by_cases h1 : 48 ≤ z
  · by_cases h2 : z ≤ 57
    · have i1 : (48 : Int) ≤ (z : Int) := by omega
      have i2 : (z : Int) ≤ 57 := by omega
      have HD : Hid (isD b = true) := by simp only [Hid, isD, hb]; exact decide_eq_true ⟨h1, h2⟩
      go_enter Tryz.func157, Tryz.ntmps157
      go_wp2_with fail
      go_ret
      exact ⟨ret_bool HD.out.symm, rfl⟩
    · have i1 : (48 : Int) ≤ (z : Int) := by omega
      have i2 : ¬ (z : Int) ≤ 57 := by omega
      have HD : Hid (isD b = false) := by simp only [Hid, isD, hb]; exact decide_eq_false (by omega)
      go_enter Tryz.func157, Tryz.ntmps157
      go_wp2_with fail
      go_ret
      exact ⟨ret_bool HD.out.symm, rfl⟩
  · have i1 : ¬ (48 : Int) ≤ (z : Int) := by omega
    have HD : Hid (isD b = false) := by simp only [Hid, isD, hb]; exact decide_eq_false (by omega)
    go_enter Tryz.func157, Tryz.ntmps157
    go_wp2_with fail
    go_ret
    exact ⟨ret_bool HD.out.symm, rfl⟩
theorem l01Digit_any (z : Nat) (b : UInt8) (hb : b.toNat = z) (w : World) : Calls Tryz.prog 158 #[.int .u8 (z : Int)] w fun e w' => e = .returned (.bool (isD b)) ∧ w = w' := by
  by_cases h1 : 48 ≤ z
  · by_cases h2 : z ≤ 57
    · have i1 : (48 : Int) ≤ (z : Int) := by omega
      have i2 : (z : Int) ≤ 57 := by omega
      have HD : Hid (isD b = true) := by simp only [Hid, isD, hb]; exact decide_eq_true ⟨h1, h2⟩
      go_enter Tryz.func158, Tryz.ntmps158
      go_wp2_with fail
      go_ret
      exact ⟨ret_bool HD.out.symm, rfl⟩
    · have i1 : (48 : Int) ≤ (z : Int) := by omega
      have i2 : ¬ (z : Int) ≤ 57 := by omega
      have HD : Hid (isD b = false) := by simp only [Hid, isD, hb]; exact decide_eq_false (by omega)
      go_enter Tryz.func158, Tryz.ntmps158
      go_wp2_with fail
      go_ret
      exact ⟨ret_bool HD.out.symm, rfl⟩
  · have i1 : ¬ (48 : Int) ≤ (z : Int) := by omega
    have HD : Hid (isD b = false) := by simp only [Hid, isD, hb]; exact decide_eq_false (by omega)
    go_enter Tryz.func158, Tryz.ntmps158
    go_wp2_with fail
    go_ret
    exact ⟨ret_bool HD.out.symm, rfl⟩
theorem rdDec_len {bs : List UInt8} (h : ¬ (1 ≤ (signOff bs).length ∧ (signOff bs).length ≤ 18)) : rdDec bs = none := by
  unfold rdDec; rw [decide_eq_false h]; rfl
theorem rdDec_all {bs : List UInt8} (h : (signOff bs).all isD = false) : rdDec bs = none := by
  unfold rdDec; rw [h]; simp
def rdN (bs : List UInt8) : Int := (rdDec bs).getD 0
theorem rd_none {bs : List UInt8} (h : rdDec bs = none) : rdN bs = 0 ∧ (rdDec bs).isSome = false := by simp [rdN, h]
theorem rd_some {bs : List UInt8} {n : Int} (h : rdDec bs = some n) : rdN bs = n ∧ (rdDec bs).isSome = true := by simp [rdN, h]
set_option maxRecDepth 100000 in
set_option maxHeartbeats 1600000 in
theorem l01Number_any (s : ByteArray) (w : World) (hs : s.size ≤ 9223372036854775807) :
    Calls Tryz.prog 105 #[.string s] w fun e w' => e = .returned (.tuple #[.int .i64 (rdN (strB s)), .bool (rdDec (strB s)).isSome]) ∧ Below w.heap.size w w' := by
  by_cases h0 : 0 < s.size
  · have hE := str_nonempty h0
    have hc := strB_cons h0
    obtain ⟨b, hb⟩ : ∃ b, s[0] = b := ⟨_, rfl⟩
    rw [hb] at hc
    obtain ⟨z0, hz0⟩ : ∃ z : Nat, b.toNat = z := ⟨_, rfl⟩
    have i0 : (0 : Int) < (s.size : Int) := by omega
    by_cases h45 : z0 = 45
    · have i2 : ((z0 : Int) == 45) = true := by rw [beq_iff_eq]; omega
      obtain ⟨x, hx⟩ : ∃ x, s.extract 1 s.size = x := ⟨_, rfl⟩
      have HXB : Hid (strB x = signOff (strB s)) := by
        simp only [Hid]; rw [← hx, strB_tail, hc]; simp only [signOff]; rw [hz0, if_pos h45]; rfl
      have hxs : x.size = s.size - 1 := by rw [← hx, extract_size]
      have HC := Lib.hid hc
      have i1 : (1 : Int) ≤ (s.size : Int) := by omega
      have i5 : (x.size : Int) < (s.size : Int) := by omega
      by_cases hx0 : 0 < x.size
      · have j0 : ((x.size : Int) == 0) = false := by rw [beq_eq_false_iff_ne]; omega
        have j1 : ¬ (x.size : Int) < 1 := by omega
        have HX := Lib.hid hx
        clear hc hxs
        go_enter Tryz.func105, Tryz.ntmps105
        have HXL := Lib.hid (show (strB x).length = x.size from strB_len x)
        by_cases h18 : x.size ≤ 18
        · go_wp2_with fail
          go_loopw [5, 6] (fun nn ii wr => ∃ k : Nat, k ≤ x.size ∧ ii = .int .i64 k ∧ nn = .int .i64 (foldD ((strB x).take k) : Int) ∧ ((strB x).take k).all isD = true ∧ w = wr) (fun _ i _ => x.size - (intOf i).toNat)
          case atStart => exact ⟨0, Nat.zero_le _, rfl, rfl, rfl, rfl⟩
          case round =>
            obtain ⟨k, hk, rfl, rfl, hall, rfl⟩ := hrel
            have hbd := foldD_bd _ hall
            rw [List.length_take] at hbd
            have hp : 10 ^ (min k (strB x).length) ≤ 10 ^ 18 := Nat.pow_le_pow_right (by omega) (by have := HXL.out; omega)
            have HA := Lib.hid hall
            obtain ⟨N, hN⟩ : ∃ N, foldD ((strB x).take k) = N := ⟨_, rfl⟩
            have HN := Lib.hid hN
            have hN2 : N < 1000000000000000000 := by rw [← hN]; exact Nat.lt_of_lt_of_le hbd (Nat.le_trans hp (by decide))
            have HB := Lib.hid (show N < 10 ^ (min k (strB x).length) by rw [← hN]; exact hbd)
            rw [hN]
            clear hall hbd hp hN
            by_cases hkn : k < x.size
            · obtain ⟨q, hq⟩ : ∃ q : UInt8, x[k] = q := ⟨_, rfl⟩
              obtain ⟨z, hz⟩ : ∃ z : Nat, q.toNat = z := ⟨_, rfl⟩
              have hz2 : z < 256 := by rw [← hz]; exact q.toNat_lt
              have hkl : k < (strB x).length := by rw [HXL.out]; exact hkn
              have hg : (strB x)[k] = q := by rw [← hq, strB_get x hkn]
              have HT := Lib.hid (all_take hkl)
              have HF := Lib.hid (List.take_succ_eq_append_getElem hkl)
              have HNOT := Lib.hid (fun (h1 : isD (strB x)[k] = false) => all_not (p := isD) hkl h1)
              rw [hg] at HT HF HNOT
              have i0 : (0 : Int) ≤ (k : Int) := by omega
              have i1 : (k : Int) < (x.size : Int) := by omega
              have HZ := Lib.hid hz
              have hN3 : N < 100000000000000000 := Nat.lt_of_lt_of_le HB.out (Nat.le_trans (Nat.pow_le_pow_right (n := 10) (by omega) (show min k (strB x).length ≤ 17 by omega)) (by decide))
              rcases hd : isD q with _ | _
              · have HU := Lib.hid (rd_none (bs := strB s) (rdDec_all (by rw [← HXB.out]; exact HNOT.out hd)))
                have KD := Lib.hid (fun W => calls_val (l01Digit_any z q hz W) (congrArg Value.bool hd))
                clear hd hg
                go_wp2_with (go_at_call 158; refine (KD.out _).mono ?_; rintro e w' ⟨rfl, rfl⟩)
                go_ret2
                exact ⟨by rw [HU.out.1, HU.out.2] <;> rfl, Below.refl _ _⟩
              · have KD := Lib.hid (fun W => calls_val (l01Digit_any z q hz W) (congrArg Value.bool hd))
                have hz3 := of_decide_eq_true (show decide (48 ≤ q.toNat ∧ q.toNat ≤ 57) = true from hd)
                rw [hz] at hz3
                have y1 : IntKind.u8.wrap ((z : Int) - 48) = (z : Int) - 48 := wrapB (by omega)
                have y2 : wrap64 (10 * (N : Int)) = 10 * (N : Int) := wrap64_of (by omega)
                have y3 : wrap64 (10 * (N : Int) + ((z : Int) - 48)) = 10 * (N : Int) + ((z : Int) - 48) := wrap64_of (by omega)
                have HD := Lib.hid hd
                clear hd hg
                go_wp2_with (go_at_call 158; refine (KD.out _).mono ?_; rintro e w' ⟨rfl, rfl⟩)
                go_roundw
                case rel => exact ⟨k + 1, by omega, by go_num, by rw [HF.out, foldD_snoc, HN.out, HZ.out]; congr 1; omega, by rw [HT.out, HA.out, HD.out]; rfl, by first | rfl | trivial⟩
                case measure => simp [intOf]; omega
            · have HK : Hid ((strB x).take k = strB x) := List.take_of_length_le (by have := HXL.out; omega)
              have HFN : Hid (foldD (signOff (strB s)) = N) := by simp only [Hid]; rw [← HXB.out, ← HK.out]; exact HN.out
              have HAL : Hid ((signOff (strB s)).all isD = true) := by simp only [Hid]; rw [← HXB.out, ← HK.out]; exact HA.out
              have HLE : Hid (1 ≤ (signOff (strB s)).length ∧ (signOff (strB s)).length ≤ 18) := by simp only [Hid]; rw [← HXB.out, HXL.out]; omega
              have HSL := Lib.hid (strB_len s)
              obtain ⟨v, hv⟩ : ∃ v, v = -(N : Int) := ⟨_, rfl⟩; have hvb : -9223372036854775808 ≤ v ∧ v ≤ 9223372036854775807 := (by omega); have HNU : Hid (numOf (strB s) = v) := (by simp only [Hid, numOf]; rw [HFN.out, hv, if_pos (by rw [← HXB.out, HXL.out, HSL.out]; omega)]); rw [show (0 : Int) = 0 from rfl]; have hv' := hv.symm; clear hv
              have HRD : Hid (rdDec (strB s) = if decide (dec v = strB s) then some v else none) := by
                simp only [Hid, rdDec]; rw [HAL.out, decide_eq_true HLE.out, HNU.out]; simp
              have i9 : ¬ (k : Int) < (x.size : Int) := by omega
              rcases hq : (dec v == s.toList) with _ | _
              · have HU := Lib.hid (rd_none (bs := strB s) (by rw [HRD.out]; rw [strB_toList, beq_eq_false_iff_ne] at hq; simp [hq]))
                go_wp2_with fail
                refine (l01Dec_any v w hvb.1 hvb.2).mono ?_; rintro e w' ⟨rfl, hwd⟩
                go_wp2_with fail
                go_ret2
                exact ⟨by rw [HU.out.1, HU.out.2] <;> rfl, hwd⟩
              · have HU := Lib.hid (rd_some (bs := strB s) (n := v) (by rw [HRD.out]; rw [strB_toList, beq_iff_eq] at hq; simp [hq]))
                go_wp2_with fail
                refine (l01Dec_any v w hvb.1 hvb.2).mono ?_; rintro e w' ⟨rfl, hwd⟩
                go_wp2_with fail
                go_ret2
                exact ⟨by rw [HU.out.1, HU.out.2] <;> rfl, hwd⟩
        · have HU := Lib.hid (rd_none (bs := strB s) (rdDec_len (by rw [← HXB.out, HXL.out]; omega)))
          have i3 : (18 : Int) < (x.size : Int) := by omega
          go_wp2_with fail
          go_ret2
          exact ⟨by rw [HU.out.1, HU.out.2] <;> rfl, Below.refl _ _⟩
      · have HU := Lib.hid (rd_none (bs := strB s) (rdDec_len (by rw [← HXB.out, strB_len]; omega)))
        have hxz := size_zero (show x.size = 0 by omega)
        subst hxz
        clear hc
        go_enter Tryz.func105, Tryz.ntmps105
        go_wp2_with fail
        go_ret2
        exact ⟨by rw [HU.out.1, HU.out.2] <;> rfl, Below.refl _ _⟩
    · have i2 : ((z0 : Int) == 45) = false := by rw [beq_eq_false_iff_ne]; omega
      have HXB : Hid (strB s = signOff (strB s)) := by
        simp only [Hid]; rw [hc]; simp only [signOff]; rw [hz0, if_neg h45]
      have j0 : ((s.size : Int) == 0) = false := by rw [beq_eq_false_iff_ne]; omega
      have j1 : ¬ (s.size : Int) < 1 := by omega
      have i5 : ¬ (s.size : Int) < (s.size : Int) := by omega
      clear hc
      go_enter Tryz.func105, Tryz.ntmps105
      have HXL := Lib.hid (show (strB s).length = s.size from strB_len s)
      by_cases h18 : s.size ≤ 18
      · go_wp2_with fail
        go_loopw [5, 6] (fun nn ii wr => ∃ k : Nat, k ≤ s.size ∧ ii = .int .i64 k ∧ nn = .int .i64 (foldD ((strB s).take k) : Int) ∧ ((strB s).take k).all isD = true ∧ w = wr) (fun _ i _ => s.size - (intOf i).toNat)
        case atStart => exact ⟨0, Nat.zero_le _, rfl, rfl, rfl, rfl⟩
        case round =>
          obtain ⟨k, hk, rfl, rfl, hall, rfl⟩ := hrel
          have hbd := foldD_bd _ hall
          rw [List.length_take] at hbd
          have hp : 10 ^ (min k (strB s).length) ≤ 10 ^ 18 := Nat.pow_le_pow_right (by omega) (by have := HXL.out; omega)
          have HA := Lib.hid hall
          obtain ⟨N, hN⟩ : ∃ N, foldD ((strB s).take k) = N := ⟨_, rfl⟩
          have HN := Lib.hid hN
          have hN2 : N < 1000000000000000000 := by rw [← hN]; exact Nat.lt_of_lt_of_le hbd (Nat.le_trans hp (by decide))
          have HB := Lib.hid (show N < 10 ^ (min k (strB s).length) by rw [← hN]; exact hbd)
          rw [hN]
          clear hall hbd hp hN
          by_cases hkn : k < s.size
          · obtain ⟨q, hq⟩ : ∃ q : UInt8, s[k] = q := ⟨_, rfl⟩
            obtain ⟨z, hz⟩ : ∃ z : Nat, q.toNat = z := ⟨_, rfl⟩
            have hz2 : z < 256 := by rw [← hz]; exact q.toNat_lt
            have hkl : k < (strB s).length := by rw [HXL.out]; exact hkn
            have hg : (strB s)[k] = q := by rw [← hq, strB_get s hkn]
            have HT := Lib.hid (all_take hkl)
            have HF := Lib.hid (List.take_succ_eq_append_getElem hkl)
            have HNOT := Lib.hid (fun (h1 : isD (strB s)[k] = false) => all_not (p := isD) hkl h1)
            rw [hg] at HT HF HNOT
            have i0 : (0 : Int) ≤ (k : Int) := by omega
            have i1 : (k : Int) < (s.size : Int) := by omega
            have HZ := Lib.hid hz
            have hN3 : N < 100000000000000000 := Nat.lt_of_lt_of_le HB.out (Nat.le_trans (Nat.pow_le_pow_right (n := 10) (by omega) (show min k (strB s).length ≤ 17 by omega)) (by decide))
            rcases hd : isD q with _ | _
            · have HU := Lib.hid (rd_none (bs := strB s) (rdDec_all (by rw [← HXB.out]; exact HNOT.out hd)))
              have KD := Lib.hid (fun W => calls_val (l01Digit_any z q hz W) (congrArg Value.bool hd))
              clear hd hg
              go_wp2_with (go_at_call 158; refine (KD.out _).mono ?_; rintro e w' ⟨rfl, rfl⟩)
              go_ret2
              exact ⟨by rw [HU.out.1, HU.out.2] <;> rfl, Below.refl _ _⟩
            · have KD := Lib.hid (fun W => calls_val (l01Digit_any z q hz W) (congrArg Value.bool hd))
              have hz3 := of_decide_eq_true (show decide (48 ≤ q.toNat ∧ q.toNat ≤ 57) = true from hd)
              rw [hz] at hz3
              have y1 : IntKind.u8.wrap ((z : Int) - 48) = (z : Int) - 48 := wrapB (by omega)
              have y2 : wrap64 (10 * (N : Int)) = 10 * (N : Int) := wrap64_of (by omega)
              have y3 : wrap64 (10 * (N : Int) + ((z : Int) - 48)) = 10 * (N : Int) + ((z : Int) - 48) := wrap64_of (by omega)
              have HD := Lib.hid hd
              clear hd hg
              go_wp2_with (go_at_call 158; refine (KD.out _).mono ?_; rintro e w' ⟨rfl, rfl⟩)
              go_roundw
              case rel => exact ⟨k + 1, by omega, by go_num, by rw [HF.out, foldD_snoc, HN.out, HZ.out]; congr 1; omega, by rw [HT.out, HA.out, HD.out]; rfl, by first | rfl | trivial⟩
              case measure => simp [intOf]; omega
          · have HK : Hid ((strB s).take k = strB s) := List.take_of_length_le (by have := HXL.out; omega)
            have HFN : Hid (foldD (signOff (strB s)) = N) := by simp only [Hid]; rw [← HXB.out, ← HK.out]; exact HN.out
            have HAL : Hid ((signOff (strB s)).all isD = true) := by simp only [Hid]; rw [← HXB.out, ← HK.out]; exact HA.out
            have HLE : Hid (1 ≤ (signOff (strB s)).length ∧ (signOff (strB s)).length ≤ 18) := by simp only [Hid]; rw [← HXB.out, HXL.out]; omega
            have HSL := Lib.hid (strB_len s)
            obtain ⟨v, hv⟩ : ∃ v, v = (N : Int) := ⟨_, rfl⟩; have hvb : -9223372036854775808 ≤ v ∧ v ≤ 9223372036854775807 := (by omega); have HNU : Hid (numOf (strB s) = v) := (by simp only [Hid, numOf]; rw [HFN.out, hv, if_neg (by rw [← HXB.out]; omega)]); have hv' := hv.symm; clear hv
            have HRD : Hid (rdDec (strB s) = if decide (dec v = strB s) then some v else none) := by
              simp only [Hid, rdDec]; rw [HAL.out, decide_eq_true HLE.out, HNU.out]; simp
            have i9 : ¬ (k : Int) < (s.size : Int) := by omega
            rcases hq : (dec v == s.toList) with _ | _
            · have HU := Lib.hid (rd_none (bs := strB s) (by rw [HRD.out]; rw [strB_toList, beq_eq_false_iff_ne] at hq; simp [hq]))
              go_wp2_with fail
              refine (l01Dec_any v w hvb.1 hvb.2).mono ?_; rintro e w' ⟨rfl, hwd⟩
              go_wp2_with fail
              go_ret2
              exact ⟨by rw [HU.out.1, HU.out.2] <;> rfl, hwd⟩
            · have HU := Lib.hid (rd_some (bs := strB s) (n := v) (by rw [HRD.out]; rw [strB_toList, beq_iff_eq] at hq; simp [hq]))
              go_wp2_with fail
              refine (l01Dec_any v w hvb.1 hvb.2).mono ?_; rintro e w' ⟨rfl, hwd⟩
              go_wp2_with fail
              go_ret2
              exact ⟨by rw [HU.out.1, HU.out.2] <;> rfl, hwd⟩
      · have HU := Lib.hid (rd_none (bs := strB s) (rdDec_len (by rw [← HXB.out, HXL.out]; omega)))
        have i3 : (18 : Int) < (s.size : Int) := by omega
        go_wp2_with fail
        go_ret2
        exact ⟨by rw [HU.out.1, HU.out.2] <;> rfl, Below.refl _ _⟩
  · obtain rfl := size_zero (show s.size = 0 by omega)
    have HU := Lib.hid (rd_none (bs := strB ⟨#[]⟩) (by rfl))
    go_enter Tryz.func105, Tryz.ntmps105
    go_wp2_with fail
    go_ret2
    exact ⟨by rw [HU.out.1, HU.out.2] <;> rfl, Below.refl _ _⟩
set_option maxRecDepth 100000 in
set_option maxHeartbeats 1600000 in
theorem ReadDecimal_any (s : ByteArray) (w : World) (hs : s.size ≤ 9223372036854775807)(ht : TB w) :
    Calls Tryz.prog 100 #[.string s] w fun e w' => e = .returned (.tuple #[.int .i64 (rdN (strB s)), .bool (rdDec (strB s)).isSome]) ∧ Below w.heap.size w w' := by
  by_cases h0 : 0 < s.size
  · have hE := str_nonempty h0
    have hc := strB_cons h0
    obtain ⟨b, hb⟩ : ∃ b, s[0] = b := ⟨_, rfl⟩
    rw [hb] at hc
    obtain ⟨z0, hz0⟩ : ∃ z : Nat, b.toNat = z := ⟨_, rfl⟩
    have i0 : (0 : Int) < (s.size : Int) := by omega
    by_cases h45 : z0 = 45
    · have i2 : ((z0 : Int) == 45) = true := by rw [beq_iff_eq]; omega
      obtain ⟨x, hx⟩ : ∃ x, s.extract 1 s.size = x := ⟨_, rfl⟩
      have HXB : Hid (strB x = signOff (strB s)) := by
        simp only [Hid]; rw [← hx, strB_tail, hc]; simp only [signOff]; rw [hz0, if_pos h45]; rfl
      have hxs : x.size = s.size - 1 := by rw [← hx, extract_size]
      have HC := Lib.hid hc
      have i1 : (1 : Int) ≤ (s.size : Int) := by omega
      have i5 : (x.size : Int) < (s.size : Int) := by omega
      by_cases hx0 : 0 < x.size
      · have j0 : ((x.size : Int) == 0) = false := by rw [beq_eq_false_iff_ne]; omega
        have j1 : ¬ (x.size : Int) < 1 := by omega
        have HX := Lib.hid hx
        clear hc hxs
        go_enter Tryz.func100, Tryz.ntmps100
        have HXL := Lib.hid (show (strB x).length = x.size from strB_len x)
        by_cases h18 : x.size ≤ 18
        · go_wp2_with fail
          go_loopw [5, 28] (fun nn ii wr => ∃ k : Nat, k ≤ x.size ∧ ii = .int .i64 k ∧ nn = .int .i64 (foldD ((strB x).take k) : Int) ∧ ((strB x).take k).all isD = true ∧ w = wr) (fun _ i _ => x.size - (intOf i).toNat)
          case atStart => exact ⟨0, Nat.zero_le _, rfl, rfl, rfl, rfl⟩
          case round =>
            obtain ⟨k, hk, rfl, rfl, hall, rfl⟩ := hrel
            have hbd := foldD_bd _ hall
            rw [List.length_take] at hbd
            have hp : 10 ^ (min k (strB x).length) ≤ 10 ^ 18 := Nat.pow_le_pow_right (by omega) (by have := HXL.out; omega)
            have HA := Lib.hid hall
            obtain ⟨N, hN⟩ : ∃ N, foldD ((strB x).take k) = N := ⟨_, rfl⟩
            have HN := Lib.hid hN
            have hN2 : N < 1000000000000000000 := by rw [← hN]; exact Nat.lt_of_lt_of_le hbd (Nat.le_trans hp (by decide))
            have HB := Lib.hid (show N < 10 ^ (min k (strB x).length) by rw [← hN]; exact hbd)
            rw [hN]
            clear hall hbd hp hN
            by_cases hkn : k < x.size
            · obtain ⟨q, hq⟩ : ∃ q : UInt8, x[k] = q := ⟨_, rfl⟩
              obtain ⟨z, hz⟩ : ∃ z : Nat, q.toNat = z := ⟨_, rfl⟩
              have hz2 : z < 256 := by rw [← hz]; exact q.toNat_lt
              have hkl : k < (strB x).length := by rw [HXL.out]; exact hkn
              have hg : (strB x)[k] = q := by rw [← hq, strB_get x hkn]
              have HT := Lib.hid (all_take hkl)
              have HF := Lib.hid (List.take_succ_eq_append_getElem hkl)
              have HNOT := Lib.hid (fun (h1 : isD (strB x)[k] = false) => all_not (p := isD) hkl h1)
              rw [hg] at HT HF HNOT
              have i0 : (0 : Int) ≤ (k : Int) := by omega
              have i1 : (k : Int) < (x.size : Int) := by omega
              have HZ := Lib.hid hz
              have hN3 : N < 100000000000000000 := Nat.lt_of_lt_of_le HB.out (Nat.le_trans (Nat.pow_le_pow_right (n := 10) (by omega) (show min k (strB x).length ≤ 17 by omega)) (by decide))
              rcases hd : isD q with _ | _
              · have HU := Lib.hid (rd_none (bs := strB s) (rdDec_all (by rw [← HXB.out]; exact HNOT.out hd)))
                have KD := Lib.hid (fun W => calls_val (isDigit_any z q hz W) (congrArg Value.bool hd))
                clear hd hg
                go_wp2_with (go_at_call 157; refine (KD.out _).mono ?_; rintro e w' ⟨rfl, rfl⟩)
                go_ret2
                exact ⟨by rw [HU.out.1, HU.out.2] <;> rfl, Below.refl _ _⟩
              · have KD := Lib.hid (fun W => calls_val (isDigit_any z q hz W) (congrArg Value.bool hd))
                have hz3 := of_decide_eq_true (show decide (48 ≤ q.toNat ∧ q.toNat ≤ 57) = true from hd)
                rw [hz] at hz3
                have y1 : IntKind.u8.wrap ((z : Int) - 48) = (z : Int) - 48 := wrapB (by omega)
                have y2 : wrap64 (10 * (N : Int)) = 10 * (N : Int) := wrap64_of (by omega)
                have y3 : wrap64 (10 * (N : Int) + ((z : Int) - 48)) = 10 * (N : Int) + ((z : Int) - 48) := wrap64_of (by omega)
                have HD := Lib.hid hd
                clear hd hg
                go_wp2_with (go_at_call 157; refine (KD.out _).mono ?_; rintro e w' ⟨rfl, rfl⟩)
                go_roundw
                case rel => exact ⟨k + 1, by omega, by go_num, by rw [HF.out, foldD_snoc, HN.out, HZ.out]; congr 1; omega, by rw [HT.out, HA.out, HD.out]; rfl, by first | rfl | trivial⟩
                case measure => simp [intOf]; omega
            · have HK : Hid ((strB x).take k = strB x) := List.take_of_length_le (by have := HXL.out; omega)
              have HFN : Hid (foldD (signOff (strB s)) = N) := by simp only [Hid]; rw [← HXB.out, ← HK.out]; exact HN.out
              have HAL : Hid ((signOff (strB s)).all isD = true) := by simp only [Hid]; rw [← HXB.out, ← HK.out]; exact HA.out
              have HLE : Hid (1 ≤ (signOff (strB s)).length ∧ (signOff (strB s)).length ≤ 18) := by simp only [Hid]; rw [← HXB.out, HXL.out]; omega
              have HSL := Lib.hid (strB_len s)
              obtain ⟨v, hv⟩ : ∃ v, v = -(N : Int) := ⟨_, rfl⟩; have hvb : -9223372036854775808 ≤ v ∧ v ≤ 9223372036854775807 := (by omega); have HNU : Hid (numOf (strB s) = v) := (by simp only [Hid, numOf]; rw [HFN.out, hv, if_pos (by rw [← HXB.out, HXL.out, HSL.out]; omega)]); rw [show (0 : Int) = 0 from rfl]; have hv' := hv.symm; clear hv
              have HRD : Hid (rdDec (strB s) = if decide (dec v = strB s) then some v else none) := by
                simp only [Hid, rdDec]; rw [HAL.out, decide_eq_true HLE.out, HNU.out]; simp
              have i9 : ¬ (k : Int) < (x.size : Int) := by omega
              rcases hq : (dec v == s.toList) with _ | _
              · have HU := Lib.hid (rd_none (bs := strB s) (by rw [HRD.out]; rw [strB_toList, beq_eq_false_iff_ne] at hq; simp [hq]))
                go_wp2_with fail
                refine (Decimal_any v w hvb.1 hvb.2 ht).mono ?_; rintro e w' ⟨rfl, hwd⟩
                go_wp2_with fail
                go_ret2
                exact ⟨by rw [HU.out.1, HU.out.2] <;> rfl, hwd⟩
              · have HU := Lib.hid (rd_some (bs := strB s) (n := v) (by rw [HRD.out]; rw [strB_toList, beq_iff_eq] at hq; simp [hq]))
                go_wp2_with fail
                refine (Decimal_any v w hvb.1 hvb.2 ht).mono ?_; rintro e w' ⟨rfl, hwd⟩
                go_wp2_with fail
                go_ret2
                exact ⟨by rw [HU.out.1, HU.out.2] <;> rfl, hwd⟩
        · have HU := Lib.hid (rd_none (bs := strB s) (rdDec_len (by rw [← HXB.out, HXL.out]; omega)))
          have i3 : (18 : Int) < (x.size : Int) := by omega
          go_wp2_with fail
          go_ret2
          exact ⟨by rw [HU.out.1, HU.out.2] <;> rfl, Below.refl _ _⟩
      · have HU := Lib.hid (rd_none (bs := strB s) (rdDec_len (by rw [← HXB.out, strB_len]; omega)))
        have hxz := size_zero (show x.size = 0 by omega)
        subst hxz
        clear hc
        go_enter Tryz.func100, Tryz.ntmps100
        go_wp2_with fail
        go_ret2
        exact ⟨by rw [HU.out.1, HU.out.2] <;> rfl, Below.refl _ _⟩
    · have i2 : ((z0 : Int) == 45) = false := by rw [beq_eq_false_iff_ne]; omega
      have HXB : Hid (strB s = signOff (strB s)) := by
        simp only [Hid]; rw [hc]; simp only [signOff]; rw [hz0, if_neg h45]
      have j0 : ((s.size : Int) == 0) = false := by rw [beq_eq_false_iff_ne]; omega
      have j1 : ¬ (s.size : Int) < 1 := by omega
      have i5 : ¬ (s.size : Int) < (s.size : Int) := by omega
      clear hc
      go_enter Tryz.func100, Tryz.ntmps100
      have HXL := Lib.hid (show (strB s).length = s.size from strB_len s)
      by_cases h18 : s.size ≤ 18
      · go_wp2_with fail
        go_loopw [5, 28] (fun nn ii wr => ∃ k : Nat, k ≤ s.size ∧ ii = .int .i64 k ∧ nn = .int .i64 (foldD ((strB s).take k) : Int) ∧ ((strB s).take k).all isD = true ∧ w = wr) (fun _ i _ => s.size - (intOf i).toNat)
        case atStart => exact ⟨0, Nat.zero_le _, rfl, rfl, rfl, rfl⟩
        case round =>
          obtain ⟨k, hk, rfl, rfl, hall, rfl⟩ := hrel
          have hbd := foldD_bd _ hall
          rw [List.length_take] at hbd
          have hp : 10 ^ (min k (strB s).length) ≤ 10 ^ 18 := Nat.pow_le_pow_right (by omega) (by have := HXL.out; omega)
          have HA := Lib.hid hall
          obtain ⟨N, hN⟩ : ∃ N, foldD ((strB s).take k) = N := ⟨_, rfl⟩
          have HN := Lib.hid hN
          have hN2 : N < 1000000000000000000 := by rw [← hN]; exact Nat.lt_of_lt_of_le hbd (Nat.le_trans hp (by decide))
          have HB := Lib.hid (show N < 10 ^ (min k (strB s).length) by rw [← hN]; exact hbd)
          rw [hN]
          clear hall hbd hp hN
          by_cases hkn : k < s.size
          · obtain ⟨q, hq⟩ : ∃ q : UInt8, s[k] = q := ⟨_, rfl⟩
            obtain ⟨z, hz⟩ : ∃ z : Nat, q.toNat = z := ⟨_, rfl⟩
            have hz2 : z < 256 := by rw [← hz]; exact q.toNat_lt
            have hkl : k < (strB s).length := by rw [HXL.out]; exact hkn
            have hg : (strB s)[k] = q := by rw [← hq, strB_get s hkn]
            have HT := Lib.hid (all_take hkl)
            have HF := Lib.hid (List.take_succ_eq_append_getElem hkl)
            have HNOT := Lib.hid (fun (h1 : isD (strB s)[k] = false) => all_not (p := isD) hkl h1)
            rw [hg] at HT HF HNOT
            have i0 : (0 : Int) ≤ (k : Int) := by omega
            have i1 : (k : Int) < (s.size : Int) := by omega
            have HZ := Lib.hid hz
            have hN3 : N < 100000000000000000 := Nat.lt_of_lt_of_le HB.out (Nat.le_trans (Nat.pow_le_pow_right (n := 10) (by omega) (show min k (strB s).length ≤ 17 by omega)) (by decide))
            rcases hd : isD q with _ | _
            · have HU := Lib.hid (rd_none (bs := strB s) (rdDec_all (by rw [← HXB.out]; exact HNOT.out hd)))
              have KD := Lib.hid (fun W => calls_val (isDigit_any z q hz W) (congrArg Value.bool hd))
              clear hd hg
              go_wp2_with (go_at_call 157; refine (KD.out _).mono ?_; rintro e w' ⟨rfl, rfl⟩)
              go_ret2
              exact ⟨by rw [HU.out.1, HU.out.2] <;> rfl, Below.refl _ _⟩
            · have KD := Lib.hid (fun W => calls_val (isDigit_any z q hz W) (congrArg Value.bool hd))
              have hz3 := of_decide_eq_true (show decide (48 ≤ q.toNat ∧ q.toNat ≤ 57) = true from hd)
              rw [hz] at hz3
              have y1 : IntKind.u8.wrap ((z : Int) - 48) = (z : Int) - 48 := wrapB (by omega)
              have y2 : wrap64 (10 * (N : Int)) = 10 * (N : Int) := wrap64_of (by omega)
              have y3 : wrap64 (10 * (N : Int) + ((z : Int) - 48)) = 10 * (N : Int) + ((z : Int) - 48) := wrap64_of (by omega)
              have HD := Lib.hid hd
              clear hd hg
              go_wp2_with (go_at_call 157; refine (KD.out _).mono ?_; rintro e w' ⟨rfl, rfl⟩)
              go_roundw
              case rel => exact ⟨k + 1, by omega, by go_num, by rw [HF.out, foldD_snoc, HN.out, HZ.out]; congr 1; omega, by rw [HT.out, HA.out, HD.out]; rfl, by first | rfl | trivial⟩
              case measure => simp [intOf]; omega
          · have HK : Hid ((strB s).take k = strB s) := List.take_of_length_le (by have := HXL.out; omega)
            have HFN : Hid (foldD (signOff (strB s)) = N) := by simp only [Hid]; rw [← HXB.out, ← HK.out]; exact HN.out
            have HAL : Hid ((signOff (strB s)).all isD = true) := by simp only [Hid]; rw [← HXB.out, ← HK.out]; exact HA.out
            have HLE : Hid (1 ≤ (signOff (strB s)).length ∧ (signOff (strB s)).length ≤ 18) := by simp only [Hid]; rw [← HXB.out, HXL.out]; omega
            have HSL := Lib.hid (strB_len s)
            obtain ⟨v, hv⟩ : ∃ v, v = (N : Int) := ⟨_, rfl⟩; have hvb : -9223372036854775808 ≤ v ∧ v ≤ 9223372036854775807 := (by omega); have HNU : Hid (numOf (strB s) = v) := (by simp only [Hid, numOf]; rw [HFN.out, hv, if_neg (by rw [← HXB.out]; omega)]); have hv' := hv.symm; clear hv
            have HRD : Hid (rdDec (strB s) = if decide (dec v = strB s) then some v else none) := by
              simp only [Hid, rdDec]; rw [HAL.out, decide_eq_true HLE.out, HNU.out]; simp
            have i9 : ¬ (k : Int) < (s.size : Int) := by omega
            rcases hq : (dec v == s.toList) with _ | _
            · have HU := Lib.hid (rd_none (bs := strB s) (by rw [HRD.out]; rw [strB_toList, beq_eq_false_iff_ne] at hq; simp [hq]))
              go_wp2_with fail
              refine (Decimal_any v w hvb.1 hvb.2 ht).mono ?_; rintro e w' ⟨rfl, hwd⟩
              go_wp2_with fail
              go_ret2
              exact ⟨by rw [HU.out.1, HU.out.2] <;> rfl, hwd⟩
            · have HU := Lib.hid (rd_some (bs := strB s) (n := v) (by rw [HRD.out]; rw [strB_toList, beq_iff_eq] at hq; simp [hq]))
              go_wp2_with fail
              refine (Decimal_any v w hvb.1 hvb.2 ht).mono ?_; rintro e w' ⟨rfl, hwd⟩
              go_wp2_with fail
              go_ret2
              exact ⟨by rw [HU.out.1, HU.out.2] <;> rfl, hwd⟩
      · have HU := Lib.hid (rd_none (bs := strB s) (rdDec_len (by rw [← HXB.out, HXL.out]; omega)))
        have i3 : (18 : Int) < (s.size : Int) := by omega
        go_wp2_with fail
        go_ret2
        exact ⟨by rw [HU.out.1, HU.out.2] <;> rfl, Below.refl _ _⟩
  · obtain rfl := size_zero (show s.size = 0 by omega)
    have HU := Lib.hid (rd_none (bs := strB ⟨#[]⟩) (by rfl))
    go_enter Tryz.func100, Tryz.ntmps100
    go_wp2_with fail
    go_ret2
    exact ⟨by rw [HU.out.1, HU.out.2] <;> rfl, Below.refl _ _⟩
end Go.Proofs.YtmmiahgmdllgdaaGreatDoor

namespace Go.Proofs.YtmmiahgmdllgdaaGreatDoor
open Go.RowKit Go.Sort
theorem tpS : TP 24 9 (.string ⟨#[]⟩) 1 16 := ⟨Tryz.underlying24, by kernel_rfl, rfl, by decide⟩
/-- a row of strings that is owned -/
def rowS (v : Value) (ss : List ByteArray) : Ent := .row v 9 1 ss.length (ss.map Value.string)
theorem Kn.rowS_at {w0 w : World} {m : List Ent} {A : Option Addr} {n c : Nat} {ss : List ByteArray} (h : Kn w0 (rowS (.slice A n c) ss :: m) w) {k : Nat} (hk : k < ss.length) :
    n = ss.length ∧ ∃ g, A = some ⟨g, 0, none⟩ ∧ w.cell? ⟨g, k, none⟩ = some (.string ss[k]) ∧ w0.heap.size ≤ g ∧ g < w.heap.size := by
  have h0 : w.ownsRow 0 9 1 (.slice A n c) ss.length (ss.map Value.string) := h.at0
  rcases h0.2 with ⟨hv, hn⟩ | ⟨g, cap, cur, hv, -, hg, -⟩
  · omega
  · injection hv with h1 h2 h3
    rw [h1] at h0
    have d1 := h0.cells (g := g) rfl k (.string ss[k]) (by simp [hk])
    rw [add_zero_block] at d1
    exact ⟨h2, g, h1, d1, h.own _ (List.mem_cons_self ..) g (by rw [h1]; rfl), (Array.getElem?_eq_some_iff.1 hg).1⟩
theorem kn_pushS {ops : Array Oper} {rest : List Oper} {o : Oper} {a : Act} {Q : Exit → Act → World → Prop} {w0 w : World} {m : List Ent} (hgd : o.guard = none) (s x : Operand) (ho : o.op = .call { callee := .builtin .append, args := #[s, x], argTypes := #[24, 24] })
    (v : Value) (ss : List ByteArray) (hs : a.eval s = v) {g c : Nat} {T' : TypeId} {z : ByteArray} (hx : a.eval x = .slice (some ⟨g, 0, none⟩) 1 c)
    (hK : Kn w0 (.blk g [.string z] T' :: rowS v ss :: m) w) (hl : ss.length ≤ 10000000)
    (h : ∀ v' w', Kn w0 (rowS v' (ss ++ [z]) :: m) w' → wpList Tryz.prog ops Q rest (a.put o.dst v') w') : wpList Tryz.prog ops Q (o :: rest) a w := by
  refine kn_app tpS hgd s x ho v ss.length (ss.map Value.string) hs hx hK rfl (by simp [Value.oneCell']) (by omega) (by omega) (fun v' w' hK' => h v' w' ?_)
  unfold rowS
  rw [List.length_append, List.map_append, List.map_cons, List.map_nil]
  exact hK'
/-- the parts of bytes between bytes -/
def splitB (k : Nat) : List UInt8 → List (List UInt8)
  | [] => [[]]
  | b :: tl => if b.toNat = k then [] :: splitB k tl else match splitB k tl with
    | [] => [[b]]
    | h :: t => (b :: h) :: t
def glue (p : List UInt8) : List (List UInt8) → List (List UInt8)
  | [] => [p]
  | h :: t => (p ++ h) :: t
theorem splitB_ne (k : Nat) (bs : List UInt8) : splitB k bs ≠ [] := by
  cases bs with
  | nil => simp [splitB]
  | cons b tl =>
    simp only [splitB]
    split
    · simp
    · split <;> simp
theorem glue_nil (l : List (List UInt8)) (h : l ≠ []) : glue [] l = l := by
  cases l with
  | nil => exact absurd rfl h
  | cons a t => rfl
theorem splitB_cons (k : Nat) (b : UInt8) (tl : List UInt8) : splitB k (b :: tl) = if b.toNat = k then [] :: splitB k tl else glue [b] (splitB k tl) := by
  simp only [splitB]
  split
  · rfl
  · cases splitB k tl <;> rfl
theorem glue_glue (p : List UInt8) (b : UInt8) (l : List (List UInt8)) : glue p (glue [b] l) = glue (p ++ [b]) l := by cases l <;> simp [glue]
theorem splitB_len (k : Nat) (bs : List UInt8) : (splitB k bs).length ≤ bs.length + 1 := by
  induction bs with
  | nil => simp [splitB]
  | cons b tl ih =>
    rw [splitB_cons]
    split
    · simp; omega
    · cases h : splitB k tl with
      | nil => simp [glue]
      | cons a t => rw [h] at ih; simp [glue] at ih ⊢; omega
theorem take_piece {bs : List UInt8} {f i : Nat} (h : i < bs.length) (hf : f ≤ i) : (bs.drop f).take (i + 1 - f) = (bs.drop f).take (i - f) ++ [bs[i]] := by
  rw [show i + 1 - f = (i - f) + 1 by omega, List.take_succ_eq_append_getElem (by rw [List.length_drop]; omega)]
  congr 2
  rw [List.getElem_drop]
  congr 1; omega
set_option maxRecDepth 100000 in
set_option maxHeartbeats 1600000 in
theorem l01Split_any (s : ByteArray) (kd : UInt8) (w : World) (hs : s.size ≤ 1048576) :
    Calls Tryz.prog 104 #[.string s, .int .u8 (kd.toNat : Int)] w fun e w' => ∃ A c ss, e = .returned (.slice A ss.length c) ∧ ss.map strB = splitB kd.toNat (strB s) ∧ Kn w [rowS (.slice A ss.length c) ss] w' := by
  have HSL := Lib.hid (strB_len s)
  obtain ⟨kn, hkn⟩ : ∃ k : Nat, kd.toNat = k := ⟨_, rfl⟩
  rw [hkn]
  clear hkn
  go_enter Tryz.func104, Tryz.ntmps104
  have hK0 := ((Kn.nil w).al [] 9).litRow (n := 0) (size := 1) rfl (by decide)
  go_wp2_with fail
  go_loopw [5, 6, 7] (fun vv ff ii wr => ∃ (f i : Nat) (ss : List ByteArray), f ≤ i ∧ i ≤ s.size ∧ ff = .int .i64 f ∧ ii = .int .i64 i ∧ ss.length ≤ i ∧
    splitB kn (strB s) = ss.map strB ++ glue (((strB s).drop f).take (i - f)) (splitB kn ((strB s).drop i)) ∧ Kn w [rowS vv ss] wr) (fun _ _ i _ => s.size - (intOf i).toNat)
  case atStart => exact ⟨0, 0, [], by omega, by omega, rfl, rfl, by simp, by simp [glue_nil _ (splitB_ne _ _)], hK0⟩
  case round =>
    rename_i vv _ _
    obtain ⟨f, i, ss, hf, hi, rfl, rfl, hsl, hsp, hK⟩ := hrel
    have HSP := Lib.hid hsp
    clear hsp hK0
    have i0 : (0 : Int) ≤ (i : Int) := by omega
    have f0 : (0 : Int) ≤ (f : Int) := by omega
    have f1 : (f : Int) ≤ (i : Int) := by omega
    have f2 : (f : Int) ≤ (s.size : Int) := by omega
    have i2 : (i : Int) ≤ (s.size : Int) := by omega
    by_cases hlt : i < s.size
    · obtain ⟨q, hq⟩ : ∃ q : UInt8, s[i] = q := ⟨_, rfl⟩
      obtain ⟨z, hz⟩ : ∃ z : Nat, q.toNat = z := ⟨_, rfl⟩
      have hil : i < (strB s).length := by rw [HSL.out]; exact hlt
      have hg : (strB s)[i] = q := by rw [← hq, strB_get s hlt]
      have hdr : (strB s).drop i = q :: (strB s).drop (i + 1) := by rw [List.drop_eq_getElem_cons hil, hg]
      have i1 : (i : Int) < (s.size : Int) := by omega
      have HS2 := Lib.hid (show splitB kn ((strB s).drop i) = if z = kn then [] :: splitB kn ((strB s).drop (i + 1)) else glue [q] (splitB kn ((strB s).drop (i + 1))) by rw [hdr, splitB_cons, hz])
      have HP := Lib.hid (take_piece (f := f) hil hf)
      rw [hg] at HP
      clear hdr hg
      by_cases hzk : z = kn
      · have k1 : ((z : Int) == (kn : Int)) = true := by rw [beq_iff_eq]; omega
        have k2 : (z : Int) = (kn : Int) := by omega
        have HS3 : Hid (splitB kn (strB s) = (ss ++ [s.extract f i]).map strB ++ glue [] (splitB kn ((strB s).drop (i + 1)))) := by
          simp only [Hid]
          rw [HSP.out, HS2.out, if_pos hzk, glue_nil _ (splitB_ne _ _), List.map_append, List.map_cons, List.map_nil, strB_extract]
          simp [glue]
        clear hzk k2
        go_wp2_with (at_builtin; refine kn_pushS rfl _ _ rfl _ ss rfl rfl (hK.al [.string (s.extract f i)] 9) (by omega) ?_; intro v5 w6 hK4)
        go_roundw
        case rel => exact ⟨i + 1, i + 1, ss ++ [s.extract f i], by omega, by omega, by go_num, by go_num, by rw [List.length_append]; simp; omega, by rw [Nat.sub_self, List.take_zero]; exact HS3.out, hK4⟩
        case measure => simp [intOf]; omega
      · have k1 : ((z : Int) == (kn : Int)) = false := by rw [beq_eq_false_iff_ne]; omega
        have HS3 : Hid (splitB kn (strB s) = ss.map strB ++ glue (((strB s).drop f).take (i + 1 - f)) (splitB kn ((strB s).drop (i + 1)))) := by
          simp only [Hid]
          rw [HSP.out, HS2.out, if_neg hzk, glue_glue, HP.out]
        clear hzk
        go_wp2_with fail
        go_roundw
        case rel => exact ⟨f, i + 1, ss, by omega, by omega, rfl, by go_num, by omega, HS3.out, hK⟩
        case measure => simp [intOf]; omega
    · have i1 : ¬ (i : Int) < (s.size : Int) := by omega
      have HS3 : Hid ((ss ++ [s.extract f s.size]).map strB = splitB kn (strB s)) := by
        simp only [Hid]
        rw [HSP.out, List.drop_of_length_le (show (strB s).length ≤ i by rw [HSL.out]; omega), List.map_append, List.map_cons, List.map_nil, strB_drop]
        simp only [splitB, glue, List.append_nil]
        rw [List.take_of_length_le (by rw [List.length_drop, HSL.out]; omega)]
      go_wp2_with (at_builtin; refine kn_pushS rfl _ _ rfl _ ss rfl rfl (hK.al [.string (s.extract f s.size)] 9) (by omega) ?_; intro v5 w6 hK4)
      obtain ⟨A, c, rfl⟩ := row_form hK4.at0
      go_ret
      exact ⟨A, c, _, rfl, HS3.out, hK4⟩
/-- the parts of bytes without blanks -/
def wordsB (bs : List UInt8) : List (List UInt8) := (splitB 32 bs).filter (fun l => !l.isEmpty)
def wordsG (p : List UInt8) (bs : List UInt8) : List (List UInt8) := (glue p (splitB 32 bs)).filter (fun l => !l.isEmpty)
set_option maxRecDepth 100000 in
set_option maxHeartbeats 1600000 in
theorem SplitWords_any (s : ByteArray) (w : World) (hs : s.size ≤ 1048576) :
    Calls Tryz.prog 111 #[.string s] w fun e w' => ∃ A c ss, e = .returned (.slice A ss.length c) ∧ ss.map strB = wordsB (strB s) ∧ Kn w [rowS (.slice A ss.length c) ss] w' := by
  have HSL := Lib.hid (strB_len s)
  go_enter Tryz.func111, Tryz.ntmps111
  have hK0 := ((Kn.nil w).al [] 9).litRow (n := 0) (size := 1) rfl (by decide)
  go_wp2_with fail
  go_loopw [3, 4, 9] (fun vv ff ii wr => ∃ (i : Nat) (ss : List ByteArray), i ≤ s.size ∧ ii = .int .i64 i ∧ ss.length ≤ i ∧
    ((ff = .int .i64 (-1) ∧ wordsB (strB s) = ss.map strB ++ wordsG [] ((strB s).drop i)) ∨
      ∃ f : Nat, f < i ∧ ff = .int .i64 f ∧ wordsB (strB s) = ss.map strB ++ wordsG (((strB s).drop f).take (i - f)) ((strB s).drop i)) ∧ Kn w [rowS vv ss] wr) (fun _ _ i _ => s.size - (intOf i).toNat)
  case atStart => exact ⟨0, [], by omega, rfl, by simp, .inl ⟨rfl, by simp [wordsB, wordsG, glue_nil _ (splitB_ne _ _)]⟩, hK0⟩
  case round =>
    rename_i vv ff _
    obtain ⟨i, ss, hi, rfl, hsl, hor, hK⟩ := hrel
    clear hK0
    have i0 : (0 : Int) ≤ (i : Int) := by omega
    have i2 : (i : Int) ≤ (s.size : Int) := by omega
    by_cases hlt : i < s.size
    · obtain ⟨q, hq⟩ : ∃ q : UInt8, s[i] = q := ⟨_, rfl⟩
      obtain ⟨z, hz⟩ : ∃ z : Nat, q.toNat = z := ⟨_, rfl⟩
      have hil : i < (strB s).length := by rw [HSL.out]; exact hlt
      have hg : (strB s)[i] = q := by rw [← hq, strB_get s hlt]
      have hdr : (strB s).drop i = q :: (strB s).drop (i + 1) := by rw [List.drop_eq_getElem_cons hil, hg]
      have i1 : (i : Int) < (s.size : Int) := by omega
      have HS2 := Lib.hid (show splitB 32 ((strB s).drop i) = if z = 32 then [] :: splitB 32 ((strB s).drop (i + 1)) else glue [q] (splitB 32 ((strB s).drop (i + 1))) by rw [hdr, splitB_cons, hz])
      have HPP := Lib.hid (fun f hf => take_piece (f := f) hil hf)
      rw [hg] at HPP
      clear hdr hg
      by_cases hzk : z = 32
      · have k1 : ((z : Int) == 32) = true := by rw [beq_iff_eq]; omega
        have k3 : ((z : Int) != 32) = false := by simp [bne, k1]
        have HZK := Lib.hid hzk
        clear hzk
        rcases hor with ⟨rfl, hsp⟩ | ⟨f, hf, rfl, hsp⟩
        · have HS3 : Hid (wordsB (strB s) = ss.map strB ++ wordsG [] ((strB s).drop (i + 1))) := by
            simp only [Hid]
            rw [hsp]; unfold wordsG
            rw [HS2.out, if_pos HZK.out, glue_nil (splitB 32 ((strB s).drop (i + 1))) (splitB_ne _ _)]
            simp [glue]
          clear hsp
          go_wp2_with fail
          go_roundw
          case rel => exact ⟨i + 1, ss, by omega, by go_num, by omega, .inl ⟨rfl, HS3.out⟩, hK⟩
          case measure => simp [intOf]; omega
        · have hne : (((strB s).drop f).take (i - f)).isEmpty = false := by
            cases h : ((strB s).drop f).take (i - f) with
            | nil =>
              have := congrArg List.length h
              rw [List.length_take, List.length_drop, HSL.out] at this
              simp at this; omega
            | cons a l => rfl
          have HS3 : Hid (wordsB (strB s) = (ss ++ [s.extract f i]).map strB ++ wordsG [] ((strB s).drop (i + 1))) := by
            simp only [Hid]
            rw [hsp]; unfold wordsG
            rw [HS2.out, if_pos HZK.out, List.map_append, List.map_cons, List.map_nil, strB_extract, glue_nil _ (splitB_ne _ _)]
            simp only [glue, List.append_nil]
            rw [List.filter_cons, hne]; simp
          have f0 : (0 : Int) ≤ (f : Int) := by omega
          have f1 : (f : Int) ≤ (i : Int) := by omega
          have f2 : ¬ (f : Int) < 0 := by omega
          clear hsp hne
          go_wp2_with (at_builtin; refine kn_pushS rfl _ _ rfl _ ss rfl rfl (hK.al [.string (s.extract f i)] 9) (by omega) ?_; intro v5 w6 hK4)
          go_roundw
          case rel => exact ⟨i + 1, ss ++ [s.extract f i], by omega, by go_num, by rw [List.length_append]; simp; omega, .inl ⟨rfl, HS3.out⟩, hK4⟩
          case measure => simp [intOf]; omega
      · have k1 : ((z : Int) == 32) = false := by rw [beq_eq_false_iff_ne]; omega
        have k3 : ((z : Int) != 32) = true := by simp [bne, k1]
        have HZK := Lib.hid hzk
        clear hzk
        rcases hor with ⟨rfl, hsp⟩ | ⟨f, hf, rfl, hsp⟩
        · have HS3 : Hid (wordsB (strB s) = ss.map strB ++ wordsG (((strB s).drop i).take (i + 1 - i)) ((strB s).drop (i + 1))) := by
            simp only [Hid]
            rw [hsp]; unfold wordsG
            rw [HS2.out, if_neg HZK.out, HPP.out i (Nat.le_refl _), glue_glue]; simp
          clear hsp
          go_wp2_with fail
          go_roundw
          case rel => exact ⟨i + 1, ss, by omega, by go_num, by omega, .inr ⟨i, by omega, rfl, HS3.out⟩, hK⟩
          case measure => simp [intOf]; omega
        · have HS3 : Hid (wordsB (strB s) = ss.map strB ++ wordsG (((strB s).drop f).take (i + 1 - f)) ((strB s).drop (i + 1))) := by
            simp only [Hid]
            rw [hsp]; unfold wordsG
            rw [HS2.out, if_neg HZK.out, HPP.out f (by omega), glue_glue]
          have f2 : ¬ (f : Int) < 0 := by omega
          have f0 : (0 : Int) ≤ (f : Int) := by omega
          clear hsp
          go_wp2_with fail
          go_roundw
          case rel => exact ⟨i + 1, ss, by omega, by go_num, by omega, .inr ⟨f, by omega, rfl, HS3.out⟩, hK⟩
          case measure => simp [intOf]; omega
    · have i1 : ¬ (i : Int) < (s.size : Int) := by omega
      have hdn : (strB s).drop i = [] := List.drop_of_length_le (show (strB s).length ≤ i by rw [HSL.out]; omega)
      rcases hor with ⟨rfl, hsp⟩ | ⟨f, hf, rfl, hsp⟩
      · have HS3 : Hid (ss.map strB = wordsB (strB s)) := by
          simp only [Hid]; rw [hsp, hdn]; simp [wordsG, splitB, glue]
        clear hsp hdn
        obtain ⟨A, c, rfl⟩ := row_form hK.at0
        go_wp2_with fail
        go_ret
        exact ⟨A, c, ss, rfl, HS3.out, hK⟩
      · have hne : (((strB s).drop f).take (i - f)).isEmpty = false := by
          cases h : ((strB s).drop f).take (i - f) with
          | nil =>
            have := congrArg List.length h
            rw [List.length_take, List.length_drop, HSL.out] at this
            simp at this; omega
          | cons a l => rfl
        have HS3 : Hid ((ss ++ [s.extract f s.size]).map strB = wordsB (strB s)) := by
          simp only [Hid]
          rw [hsp, hdn, List.map_append, List.map_cons, List.map_nil, strB_drop]; unfold wordsG
          simp only [splitB, glue, List.append_nil]
          rw [List.filter_cons, hne, List.take_of_length_le (by rw [List.length_drop, HSL.out]; omega)]; simp
        have f0 : (0 : Int) ≤ (f : Int) := by omega
        have f1 : (f : Int) ≤ (s.size : Int) := by omega
        clear hsp hdn hne
        go_wp2_with (at_builtin; refine kn_pushS rfl _ _ rfl _ ss rfl rfl (hK.al [.string (s.extract f s.size)] 9) (by omega) ?_; intro v5 w6 hK4)
        obtain ⟨A, c, rfl⟩ := row_form hK4.at0
        go_ret
        exact ⟨A, c, _, rfl, HS3.out, hK4⟩
/-- what stands in front of the first place of a text, and behind it -/
def cutB (p : List UInt8) : List UInt8 → Option (List UInt8 × List UInt8)
  | [] => none
  | b :: tl => if p.isPrefixOf (b :: tl) then some ([], (b :: tl).drop p.length) else (cutB p tl).map fun q => (b :: q.1, q.2)
theorem prefix_iff (p l : List UInt8) : p.isPrefixOf l = decide (l.take p.length = p) := by
  rw [Bool.eq_iff_iff, List.isPrefixOf_iff_prefix, List.prefix_iff_eq_take, decide_eq_true_eq]
  exact ⟨fun h => h.symm, fun h => h.symm⟩
theorem cutB_short (p : List UInt8) : ∀ l : List UInt8, l.length < p.length → cutB p l = none
  | [], _ => rfl
  | b :: tl, h => by
    simp only [cutB]
    have h1 : p.isPrefixOf (b :: tl) = false := by
      rw [prefix_iff]; refine decide_eq_false fun h2 => ?_
      have := congrArg List.length h2
      rw [List.length_take] at this; omega
    rw [h1, cutB_short p tl (by simp at h; omega)]; rfl
def cutX (p bs : List UInt8) : List UInt8 := ((cutB p bs).map (·.1)).getD bs
def cutY (p bs : List UInt8) : List UInt8 := ((cutB p bs).map (·.2)).getD []
set_option maxRecDepth 100000 in
set_option maxHeartbeats 1600000 in
theorem cut_any (s p : ByteArray) (w : World) (hs : s.size ≤ 1048576) (hp0 : 0 < p.size) (hp : p.size ≤ 1048576) :
    Calls Tryz.prog 156 #[.string s, .string p] w fun e w' => ∃ x y, e = .returned (.tuple #[.string x, .string y, .bool (cutB (strB p) (strB s)).isSome]) ∧ strB x = cutX (strB p) (strB s) ∧ strB y = cutY (strB p) (strB s) ∧ Below w.heap.size w w' := by
  have HSL := Lib.hid (strB_len s)
  have HPL := Lib.hid (strB_len p)
  obtain ⟨m, hm⟩ : ∃ m, p.size = m := ⟨_, rfl⟩
  rw [hm] at hp0 hp
  go_enter Tryz.func156, Tryz.ntmps156
  go_wp2_with fail
  go_loopw [7] (fun ii wr => ∃ i : Nat, i ≤ s.size + 1 ∧ ii = .int .i64 i ∧ cutB (strB p) (strB s) = (cutB (strB p) ((strB s).drop i)).map (fun q => ((strB s).take i ++ q.1, q.2)) ∧ w = wr) (fun i _ => s.size + 1 - (intOf i).toNat)
  case atStart => exact ⟨0, by omega, rfl, by simp, rfl⟩
  case round =>
    obtain ⟨i, hi, rfl, hcb, rfl⟩ := hrel
    have HCB := Lib.hid hcb
    clear hcb
    have i0 : (0 : Int) ≤ (i : Int) := by omega
    by_cases hle : i + m ≤ s.size
    · have i1 : (i : Int) + (m : Int) ≤ (s.size : Int) := by omega
      have i2 : (i : Int) ≤ (i : Int) + (m : Int) := by omega
      have hil : i < (strB s).length := by rw [HSL.out]; omega
      obtain ⟨q, hq⟩ : ∃ q : UInt8, (strB s)[i] = q := ⟨_, rfl⟩
      have hdr : (strB s).drop i = q :: (strB s).drop (i + 1) := by rw [List.drop_eq_getElem_cons hil, hq]
      have hT : (strB s).take (i + 1) = (strB s).take i ++ [q] := by rw [List.take_succ_eq_append_getElem hil, hq]
      have hpre : (strB p).isPrefixOf ((strB s).drop i) = ((s.extract i (i + m)).toList == p.toList) := by
        rw [prefix_iff, strB_toList, strB_toList, strB_extract, HPL.out, hm, show i + m - i = m by omega, Bool.eq_iff_iff, decide_eq_true_eq, beq_iff_eq]
      rcases hq2 : ((s.extract i (i + m)).toList == p.toList) with _ | _
      · have HC2 : Hid (cutB (strB p) (strB s) = (cutB (strB p) ((strB s).drop (i + 1))).map (fun q => ((strB s).take (i + 1) ++ q.1, q.2))) := by
          simp only [Hid]
          rw [HCB.out]
          rw [hq2, hdr] at hpre
          rw [hdr, cutB, hpre, hT]
          simp [Option.map_map, Function.comp_def]
        clear hdr hT hpre
        go_wp2_with fail
        go_roundw
        case rel => exact ⟨i + 1, by omega, by go_num, HC2.out, by first | rfl | trivial⟩
        case measure => simp [intOf]; omega
      · have HC2 : Hid (cutB (strB p) (strB s) = some ((strB s).take i, (strB s).drop (i + m))) := by
          simp only [Hid]
          rw [HCB.out]
          rw [hq2, hdr] at hpre
          rw [hdr, cutB, hpre, ← hdr]
          simp [HPL.out, hm, List.drop_drop]
        clear hdr hT hpre
        go_wp2_with fail
        go_region
        all_goals
          go_wp2_with fail
          refine bodyPost_ret (v := .tuple #[.string (s.extract 0 i), .string (s.extract (i + m) s.size), .bool true]) (by simp [results, Tryz.results156, go_sem]) rfl ⟨_, _, by rw [HC2.out]; rfl, ?_, ?_, ?_⟩
          · rw [strB_extract, cutX, HC2.out]; simp
          · rw [strB_drop, cutY, HC2.out]; rfl
          · first | exact Below.refl _ _ | exact (Below.refl _ _).drew
    · have i1 : ¬ (i : Int) + (m : Int) ≤ (s.size : Int) := by omega
      have HC2 : Hid (cutB (strB p) (strB s) = none) := by
        simp only [Hid]; rw [HCB.out, cutB_short _ _ (by rw [List.length_drop, HSL.out, HPL.out, hm]; omega)]; rfl
      go_wp2_with fail
      refine bodyPost_ret (v := .tuple #[.string s, .string ⟨#[]⟩, .bool false]) (by simp [results, Tryz.results156, go_sem]) rfl ⟨s, ⟨#[]⟩, by rw [HC2.out]; rfl, ?_, ?_, Below.refl _ _⟩
      · rw [cutX, HC2.out]; rfl
      · rw [cutY, HC2.out]; rfl
end Go.Proofs.YtmmiahgmdllgdaaGreatDoor

namespace Go.Proofs.YtmmiahgmdllgdaaGreatDoor
open Go.RowKit Go.Sort
def digV (c : UInt8) : Int := if 48 ≤ c.toNat ∧ c.toNat ≤ 57 then (c.toNat : Int) - 48 else if 97 ≤ c.toNat ∧ c.toNat ≤ 102 then (c.toNat : Int) - 87 else -1
def rdR (bs : List UInt8) : Option Reg := (cutB [58] bs).bind fun q => (rdDec q.1).bind fun n => if vreg n (q.2.reverse.map digV) then some ⟨n, q.2.reverse.map digV⟩ else none
theorem cutB_mem (k : UInt8) : ∀ (bs x y : List UInt8), cutB [k] bs = some (x, y) → bs = x ++ k :: y ∧ k ∉ x
  | [], _, _, h => by cases h
  | b :: tl, x, y, h => by
    simp only [cutB] at h
    split at h
    · rename_i h1
      injection h with h
      injection h with h2 h3
      rw [prefix_iff] at h1
      have h4 := of_decide_eq_true h1
      have : b = k := by simpa using h4
      subst this
      rw [← h2, ← h3]; simp
    · rename_i h1
      obtain ⟨q, hq, h2⟩ := Option.map_eq_some_iff.1 h
      injection h2 with h3 h4
      obtain ⟨h5, h6⟩ := cutB_mem k tl q.1 q.2 hq
      rw [← h3, ← h4]
      refine ⟨by rw [List.cons_append, ← h5], ?_⟩
      intro hm
      rcases List.mem_cons.1 hm with h7 | h7
      · apply h1; subst h7; rw [prefix_iff]; simp
      · exact h6 h7
theorem cutB_of (k : UInt8) (y : List UInt8) : ∀ x : List UInt8, k ∉ x → cutB [k] (x ++ k :: y) = some (x, y)
  | [], _ => by
    rw [List.nil_append]; simp only [cutB]
    rw [prefix_iff]; simp
  | b :: x, h => by
    rw [List.cons_append]; simp only [cutB]
    have h1 : ¬ (([k] : List UInt8).isPrefixOf (b :: (x ++ k :: y)) = true) := by
      rw [prefix_iff]; simp
      intro h2; exact h (by rw [h2]; simp)
    rw [if_neg h1, cutB_of k y x (fun h2 => h (List.mem_cons_of_mem _ h2))]; rfl
theorem cutB_none (k : UInt8) : ∀ bs : List UInt8, cutB [k] bs = none → k ∉ bs
  | [], _ => by simp
  | b :: tl, h => by
    simp only [cutB] at h
    split at h
    · cases h
    · rename_i h1
      have h2 := cutB_none k tl (by simpa using h)
      intro h3
      rcases List.mem_cons.1 h3 with h4 | h4
      · apply h1; subst h4; rw [prefix_iff]; simp
      · exact h2 h4
theorem splitB_none (k : UInt8) : ∀ bs : List UInt8, k ∉ bs → splitB k.toNat bs = [bs]
  | [], _ => rfl
  | b :: tl, h => by
    rw [splitB_cons, if_neg (fun h1 => h (by rw [← UInt8.toNat_inj.1 h1]; simp)), splitB_none k tl (fun h1 => h (List.mem_cons_of_mem _ h1))]; rfl
theorem splitB_at (k : UInt8) (y : List UInt8) : ∀ x : List UInt8, k ∉ x → splitB k.toNat (x ++ k :: y) = x :: splitB k.toNat y
  | [], _ => by rw [List.nil_append, splitB_cons, if_pos rfl]
  | b :: x, h => by
    rw [List.cons_append, splitB_cons, if_neg (fun h1 => h (by rw [← UInt8.toNat_inj.1 h1]; simp)), splitB_at k y x (fun h1 => h (List.mem_cons_of_mem _ h1))]; rfl
theorem digV_bad : digV 58 = -1 := by decide
theorem vreg_mem {b : Int} {ds : List Int} {d : Int} (h : d ∈ ds) (hd : d < 0) : vreg b ds = false := by
  rcases hv : vreg b ds with _ | _
  · rfl
  · have := (vreg_iff.1 hv).2.2.1 d h; omega
/-- the parts that the reference reads: two, the second one short -/
theorem rdR_spec (bs : List UInt8) : rdR bs = match splitB 58 bs with
    | [x, y] => if y.length ≤ 16 then (rdDec x).bind fun n => if vreg n (y.reverse.map digV) then some ⟨n, y.reverse.map digV⟩ else none else none
    | _ => none := by
  unfold rdR
  have e58 : (58 : UInt8).toNat = 58 := rfl
  cases h : cutB [58] bs with
  | none =>
    have h2 := splitB_none 58 bs (cutB_none 58 bs h)
    rw [e58] at h2
    rw [h2]; rfl
  | some q =>
    obtain ⟨x, y⟩ := q
    obtain ⟨h1, h2⟩ := cutB_mem 58 bs x y h
    have h3 := splitB_at 58 y x h2
    rw [← h1, e58] at h3
    rw [h3]
    simp only [Option.bind_some]
    by_cases hy : (58 : UInt8) ∈ y
    · have hv : ∀ n, vreg n (y.reverse.map digV) = false := fun n => vreg_mem (d := -1) (List.mem_map.2 ⟨58, by simpa using hy, digV_bad⟩) (by omega)
      have hl : ∀ z, splitB 58 y ≠ [z] := by
        intro z hz
        cases h4 : cutB [58] y with
        | none => exact cutB_none 58 y h4 hy
        | some q =>
          obtain ⟨a, b⟩ := q
          obtain ⟨h5, h6⟩ := cutB_mem 58 y a b h4
          have h7 := splitB_at 58 b a h6
          rw [← h5, e58, hz] at h7
          injection h7 with _ h7
          exact splitB_ne 58 b h7.symm
      have e1 : ((rdDec x).bind fun n => if vreg n (y.reverse.map digV) then some (⟨n, y.reverse.map digV⟩ : Reg) else none) = none := by
        cases rdDec x with
        | none => rfl
        | some n => simp only [Option.bind_some]; rw [hv n]; rfl
      rw [e1]
      cases hs : splitB 58 y with
      | nil => rfl
      | cons a t =>
        cases t with
        | nil => exact absurd hs (hl a)
        | cons b t => rfl
    · have h4 := splitB_none 58 y hy
      rw [e58] at h4
      rw [h4]
      simp only []
      by_cases h16 : y.length ≤ 16
      · rw [if_pos h16]
      · rw [if_neg h16]
        cases rdDec x with
        | none => rfl
        | some n =>
          simp only [Option.bind_some]
          have : vreg n (y.reverse.map digV) = false := by
            rcases hv : vreg n (y.reverse.map digV) with _ | _
            · rfl
            · have := (vreg_iff.1 hv).2.1; simp at this; omega
          rw [this]; rfl
def rdReg (bs : List UInt8) : Reg := (rdR bs).getD ⟨0, []⟩
theorem rdr_none {bs : List UInt8} (h : rdR bs = none) : rdReg bs = ⟨0, []⟩ ∧ (rdR bs).isSome = false := by simp [rdReg, h]
theorem rdr_some {bs : List UInt8} {r : Reg} (h : rdR bs = some r) : rdReg bs = r ∧ (rdR bs).isSome = true := by simp [rdReg, h]
theorem l02Digit_any (z : Nat) (c : UInt8) (hc : c.toNat = z) (w : World) : Calls Tryz.prog 215 #[.int .u8 (z : Int)] w fun e w' => e = .returned (.int .i64 (digV c)) ∧ w = w' := by
  have hz : z < 256 := by rw [← hc]; exact c.toNat_lt
  have HV := Lib.hid (show digV c = if 48 ≤ z ∧ z ≤ 57 then (z : Int) - 48 else if 97 ≤ z ∧ z ≤ 102 then (z : Int) - 87 else -1 by unfold digV; rw [hc])
  by_cases h1 : 48 ≤ z ∧ z ≤ 57
  · have HV2 := Lib.hid (show digV c = (z : Int) - 48 by rw [HV.out, if_pos h1])
    have i1 : (48 : Int) ≤ (z : Int) := by omega
    have i2 : (z : Int) ≤ 57 := by omega
    have y1 : IntKind.u8.wrap ((z : Int) - 48) = (z : Int) - 48 := wrapB (by omega)
    clear h1
    go_enter Tryz.func215, Tryz.ntmps215
    go_wp2_with fail
    go_ret
    exact ⟨ret_int HV2.out.symm, rfl⟩
  · by_cases h2 : 97 ≤ z ∧ z ≤ 102
    · have HV2 := Lib.hid (show digV c = (z : Int) - 97 + 10 by rw [HV.out, if_neg h1, if_pos h2]; omega)
      have i1 : (48 : Int) ≤ (z : Int) := by omega
      have i2 : ¬ (z : Int) ≤ 57 := by omega
      have i3 : (97 : Int) ≤ (z : Int) := by omega
      have i4 : (z : Int) ≤ 102 := by omega
      have y1 : IntKind.u8.wrap ((z : Int) - 97) = (z : Int) - 97 := wrapB (by omega)
      clear h1 h2
      go_enter Tryz.func215, Tryz.ntmps215
      go_wp2_with fail
      go_ret
      exact ⟨ret_int HV2.out.symm, rfl⟩
    · have HV2 := Lib.hid (show digV c = -1 by rw [HV.out, if_neg h1, if_neg h2])
      by_cases g1 : 48 ≤ z
      · have i1 : (48 : Int) ≤ (z : Int) := by omega
        have i2 : ¬ (z : Int) ≤ 57 := by omega
        by_cases g2 : 97 ≤ z
        · have i3 : (97 : Int) ≤ (z : Int) := by omega
          have i4 : ¬ (z : Int) ≤ 102 := by omega
          clear h1 h2
          go_enter Tryz.func215, Tryz.ntmps215
          go_wp2_with fail
          go_ret
          exact ⟨ret_int HV2.out.symm, rfl⟩
        · have i3 : ¬ (97 : Int) ≤ (z : Int) := by omega
          clear h1 h2
          go_enter Tryz.func215, Tryz.ntmps215
          go_wp2_with fail
          go_ret
          exact ⟨ret_int HV2.out.symm, rfl⟩
      · have i1 : ¬ (48 : Int) ≤ (z : Int) := by omega
        have i3 : ¬ (97 : Int) ≤ (z : Int) := by omega
        clear h1 h2
        go_enter Tryz.func215, Tryz.ntmps215
        go_wp2_with fail
        go_ret
        exact ⟨ret_int HV2.out.symm, rfl⟩
end Go.Proofs.YtmmiahgmdllgdaaGreatDoor

namespace Go.Proofs.YtmmiahgmdllgdaaGreatDoor
open Go.RowKit Go.Sort
theorem Kn.rowS_get {w0 w : World} {m : List Ent} {g n c : Nat} {ss : List ByteArray} (h : Kn w0 (rowS (.slice (some ⟨g, 0, none⟩) n c) ss :: m) w) {k : Nat} (hk : k < ss.length) : w.cell? ⟨g, k, none⟩ = some (.string ss[k]) := by
  obtain ⟨-, g', e, hc, -⟩ := h.rowS_at hk
  injection e with e
  injection e with e
  subst e; exact hc
def dtx : ByteArray := ⟨#[48, 49, 50, 51, 52, 53, 54, 55, 56, 57, 97, 98, 99, 100, 101, 102]⟩
/-- the last place among the first d characters of digits that a byte has -/
def lastAt (c : Nat) (d : Nat) : Int := (List.range d).foldl (fun a j => if (dtx.data.getD j 0).toNat = c then (j : Int) else a) (-1)
theorem lastAt_succ (c d : Nat) : lastAt c (d + 1) = if (dtx.data.getD d 0).toNat = c then (d : Int) else lastAt c d := by
  unfold lastAt; rw [List.range_succ, List.foldl_append]; rfl
theorem lastAt_all : ∀ c, c < 256 → lastAt c 16 = digV (UInt8.ofNat c) := by decide +kernel
theorem dtx_get (d : Nat) (h : d < 16) : dtx[d]? = some (dtx.data.getD d 0) := by
  have : ∀ d, d < 16 → dtx[d]? = some (dtx.data.getD d 0) := by decide
  exact this d h
theorem splitB_each (k : Nat) : ∀ (bs : List UInt8), ∀ x ∈ splitB k bs, x.length ≤ bs.length
  | [], x, h => by simp [splitB] at h; subst h; simp
  | b :: tl, x, h => by
    rw [splitB_cons] at h
    split at h
    · rcases List.mem_cons.1 h with rfl | h
      · simp
      · have := splitB_each k tl x h; rw [List.length_cons]; omega
    · cases h2 : splitB k tl with
      | nil => exact absurd h2 (splitB_ne k tl)
      | cons a t =>
        have h3 := fun y hy => splitB_each k tl y (by rw [h2]; exact hy)
        rw [h2] at h
        simp only [glue] at h
        rcases List.mem_cons.1 h with rfl | h
        · have := h3 a (List.mem_cons_self ..); simp; omega
        · have := h3 x (List.mem_cons_of_mem _ h); rw [List.length_cons]; omega
set_option maxRecDepth 100000 in
set_option maxHeartbeats 1600000 in
theorem ReadRegister_any (s : ByteArray) (w : World) (hs : s.size ≤ 1048576) (ht : TB w) :
    Calls Tryz.prog 165 #[.string s] w fun e w' => ∃ A c, e = .returned (.tuple #[.agg #[.int .i64 (rdReg (strB s)).base, .slice A (rdReg (strB s)).digits.length c], .bool (rdR (strB s)).isSome]) ∧ Kn w [rowI A c (rdReg (strB s)).digits] w' := by
  have HRD := Lib.hid (show rdR (strB s) = _ from rfl)
  have KC := Lib.hid (fun W => cut_any s ⟨#[58]⟩ W hs (by decide) (by decide))
  have hxl : (cutX [58] (strB s)).length ≤ 1048576 ∧ (cutY [58] (strB s)).length ≤ 1048576 := by
    have hl := strB_len s
    unfold cutX cutY
    cases h : cutB [58] (strB s) with
    | none => simp; omega
    | some q =>
      obtain ⟨x, y⟩ := q
      obtain ⟨h1, -⟩ := cutB_mem 58 _ x y h
      have := congrArg List.length h1
      simp at this ⊢; omega
  have HT := Lib.hid (fun W (hW : Below w.heap.size w W) => TB.below ht hW)
  clear ht
  go_enter Tryz.func165, Tryz.ntmps165
  go_wp2_with fail
  refine Calls.kn ((Kn.nil w).al [.int .i64 0, .slice none 0 0] 30) ?_; intro w1 hK1
  refine (KC.out w1).mono ?_; rintro e w2 ⟨x, y, rfl, hx, hy, hw⟩
  have e58 : strB ⟨#[58]⟩ = [58] := rfl
  rw [e58] at hx hy ⊢
  have hK2 := hK1.keep hw
  have hxs : x.size ≤ 1048576 := by rw [← strB_len, hx]; exact hxl.1
  have hys : y.size ≤ 1048576 := by rw [← strB_len, hy]; exact hxl.2
  have KD := Lib.hid (ReadDecimal_any x w2 (by omega) (HT.out _ hK2.below))
  have HX := Lib.hid hx
  have HY := Lib.hid hy
  clear hw hx hy hK1 hxl e58
  cases hcb : cutB [58] (strB s) with
  | none =>
    have HU := Lib.hid (rdr_none (bs := strB s) (by unfold rdR; rw [hcb]; rfl))
    clear hcb
    go_wp2_with fail
    refine KD.out.mono ?_; rintro e w3 ⟨rfl, hw⟩
    have hK3 := hK2.keep hw
    obtain ⟨d1, d2, d3, -⟩ := hK3.cells
    clear hw
    go_wp2_with fail
    refine bodyPost_ret (v := .tuple #[.agg #[.int .i64 0, .slice none 0 0], .bool false]) (by simp [results, Tryz.results165, go_sem, d1]) rfl ⟨none, 0, by rw [HU.out.1, HU.out.2]; rfl, ?_⟩
    rw [HU.out.1]
    exact ((hK3.st 0 (.int .i64 0)).st 1 (.slice none 0 0)).bare.nilRow _ _
  | some q =>
    obtain ⟨qx, qy⟩ := q
    have HXB : Hid (strB x = qx) := by simp only [Hid]; rw [HX.out, cutX, hcb]; rfl
    have HYB : Hid (strB y = qy) := by simp only [Hid]; rw [HY.out, cutY, hcb]; rfl
    have HRR : Hid (rdR (strB s) = (rdDec qx).bind fun n => if vreg n (qy.reverse.map digV) then some ⟨n, qy.reverse.map digV⟩ else none) := by
      simp only [Hid, rdR]; rw [hcb]; rfl
    have KD := KD.out
    rw [HXB.out] at KD
    clear hcb
    cases hrd : rdDec qx with
    | none =>
      have HU := Lib.hid (rdr_none (bs := strB s) (by rw [HRR.out, hrd]; rfl))
      rw [hrd] at KD
      have KD := Lib.hid KD
      clear hrd
      go_wp2_with fail
      refine KD.out.mono ?_; rintro e w3 ⟨rfl, hw⟩
      have hK3 := hK2.keep hw
      obtain ⟨d1, d2, d3, -⟩ := hK3.cells
      clear hw
      go_wp2_with fail
      refine bodyPost_ret (v := .tuple #[.agg #[.int .i64 0, .slice none 0 0], .bool false]) (by simp [results, Tryz.results165, go_sem, d1]) rfl ⟨none, 0, by rw [HU.out.1, HU.out.2]; rfl, ?_⟩
      rw [HU.out.1]
      exact ((hK3.st 0 (.int .i64 0)).st 1 (.slice none 0 0)).bare.nilRow _ _
    | some n =>
      have HRR := Lib.hid (show rdR (strB s) = if vreg n (qy.reverse.map digV) then some ⟨n, qy.reverse.map digV⟩ else none by rw [HRR.out, hrd]; rfl)
      have hn0 := (rd_some hrd).1
      rw [hn0, hrd] at KD
      have KD := Lib.hid KD
      clear hrd hn0
      rcases hbs : betB n 2 16 with _ | _
      · have HU := Lib.hid (rdr_none (bs := strB s) (by rw [HRR.out]; simp [vreg, hbs]))
        have KB := Lib.hid (fun W => calls_val (isBase_any n W) (congrArg Value.bool hbs))
        clear hbs
        go_wp2_with fail
        refine KD.out.mono ?_; rintro e w3 ⟨rfl, hw⟩
        have hK3 := hK2.keep hw
        obtain ⟨d1, d2, d3, -⟩ := hK3.cells
        clear hw
        go_wp2_with (go_at_call 214; refine (KB.out _).mono ?_; rintro e w' ⟨rfl, rfl⟩)
        refine bodyPost_ret (v := .tuple #[.agg #[.int .i64 0, .slice none 0 0], .bool false]) (by simp [results, Tryz.results165, go_sem, d1]) rfl ⟨none, 0, by rw [HU.out.1, HU.out.2]; rfl, ?_⟩
        rw [HU.out.1]
        exact ((hK3.st 0 (.int .i64 0)).st 1 (.slice none 0 0)).bare.nilRow _ _
      · have KB := Lib.hid (fun W => calls_val (isBase_any n W) (congrArg Value.bool hbs))
        clear hbs
        go_wp2_with fail
        refine KD.out.mono ?_; rintro e w3 ⟨rfl, hw⟩
        have hK3 := hK2.keep hw
        clear hw
        go_wp2_with (first | (go_at_call 214; refine (KB.out _).mono ?_; rintro e w' ⟨rfl, rfl⟩) | (refine wpList.kn (hK3.al [.int .i64 0, .slice none 0 0] 30) ?_; intro w4 hK4; obtain ⟨a1, a2, a3, -⟩ := hK4.cells) | (refine wpList.kn ((hK4.st 0 _).st 1 _) ?_; intro w5 hK5; clear a1 a2 a3))
        have hK6 := hK5.nilRow 2 1
        clear hK3 hK4 hK5 hK2
        go_loopw [10] (fun ii wr => ∃ (k : Nat) (v : Value), k ≤ y.size ∧ ii = .int .i64 ((k : Int) - 1) ∧
          Kn w [.row v 2 1 (((strB y).drop k).reverse.map digV).length ((((strB y).drop k).reverse.map digV).map (Value.int .i64)), .blk w3.heap.size [.int .i64 n, v] 30, .blk w.heap.size [.int .i64 0, .slice none 0 0] 30] wr) (fun i _ => (intOf i + 1).toNat)
        case atStart =>
          refine ⟨y.size, .slice none 0 0, Nat.le_refl _, rfl, ?_⟩
          rw [List.drop_of_length_le (by rw [strB_len]; omega)]
          exact hK6
        case round =>
          obtain ⟨k, v, hk, rfl, hK⟩ := hrel
          obtain ⟨wo, rfl⟩ : ∃ wo : World, wo = wr := ⟨_, rfl⟩
          clear hK6
          obtain ⟨a1, a2, a3, d1, d2, d3, -⟩ := hK.cells
          rcases Nat.eq_zero_or_pos k with hk0 | hk0
          · subst hk0
            rw [List.drop_zero] at hK
            have HYB := HYB
            have hE : (strB y).reverse.map digV = qy.reverse.map digV := by rw [HYB.out]
            rw [hE] at hK
            obtain ⟨ds, hds⟩ : ∃ ds, qy.reverse.map digV = ds := ⟨_, rfl⟩
            have HRR := HRR.out
            rw [hds] at hK HRR
            have HRR := Lib.hid HRR
            obtain ⟨A, c, rfl⟩ := row_form hK.at0
            have hri := hK.ownI.ri
            have hdl : ds.length ≤ 1048576 := by rw [← hds, ← HYB.out]; simp [strB_len]; omega
            have KV := fun b (hb : vreg n ds = b) => calls_val (ValidRegister_any n A ds.length c ds wo hri (by omega)) (congrArg Value.bool hb)
            clear hE hds hri
            rcases hv : vreg n ds with _ | _
            · have HU := Lib.hid (rdr_none (bs := strB s) (by rw [HRR.out, hv]; rfl))
              have KV := Lib.hid (KV _ hv)
              clear hv
              go_wp2_with fail
              refine KV.out.mono ?_; rintro e w7 ⟨rfl, hw⟩
              have hK7 := hK.keep hw
              clear d1 d2 d3 a1 a2 a3 hw
              obtain ⟨a1, a2, a3, d1, d2, d3, -⟩ := hK7.cells
              go_wp2_with fail
              refine bodyPost_ret (v := .tuple #[.agg #[.int .i64 0, .slice none 0 0], .bool false]) (by simp [results, Tryz.results165, go_sem, d1]) rfl ⟨none, 0, by rw [HU.out.1, HU.out.2]; rfl, ?_⟩
              rw [HU.out.1]
              exact ((hK7.sw2.st 0 (.int .i64 0)).st 1 (.slice none 0 0)).bare.nilRow _ _
            · have HU := Lib.hid (rdr_some (bs := strB s) (r := ⟨n, ds⟩) (by rw [HRR.out, hv]; rfl))
              have KV := Lib.hid (KV _ hv)
              clear hv
              go_wp2_with fail
              refine KV.out.mono ?_; rintro e w7 ⟨rfl, hw⟩
              have hK7 := hK.keep hw
              clear d1 d2 d3 a1 a2 a3 hw
              obtain ⟨a1, a2, a3, d1, d2, d3, -⟩ := hK7.cells
              go_wp2_with fail
              have hK8 := (hK7.sw2.st 0 (.int .i64 n)).st 1 (.slice A ds.length c)
              refine bodyPost_ret (v := .tuple #[.agg #[.int .i64 n, .slice A ds.length c], .bool true]) (by simp [results, Tryz.results165, go_sem, d1]) rfl ⟨A, c, by rw [HU.out.1, HU.out.2], ?_⟩
              rw [HU.out.1]
              exact hK8.sw1.drop1.drop1
          · obtain ⟨q, hq⟩ : ∃ q : UInt8, y[k - 1] = q := ⟨_, rfl⟩
            obtain ⟨z, hz⟩ : ∃ z : Nat, q.toNat = z := ⟨_, rfl⟩
            have hz2 : z < 256 := by rw [← hz]; exact q.toNat_lt
            have hdr : (strB y).drop (k - 1) = q :: (strB y).drop k := by
              rw [List.drop_eq_getElem_cons (by rw [strB_len]; omega), ← strB_get y (by omega), hq, show k - 1 + 1 = k by omega]
            have HDG := Lib.hid (show ((strB y).drop (k - 1)).reverse.map digV = ((strB y).drop k).reverse.map digV ++ [digV q] by rw [hdr]; simp)
            have HQ := Lib.hid (show lastAt z 16 = digV q by rw [lastAt_all z hz2, ← hz]; simp)
            have hi0 : (0 : Int) ≤ (k : Int) - 1 := by omega
            have hi1 : (k : Int) - 1 < (y.size : Int) := by omega
            have hin : ((k : Int) - 1).toNat = k - 1 := by omega
            have hlen : (((strB y).drop k).reverse.map digV).length ≤ 1048576 := by simp [strB_len]; omega
            obtain ⟨ds, hds⟩ : ∃ ds, ((strB y).drop k).reverse.map digV = ds := ⟨_, rfl⟩
            rw [hds] at hK hlen HDG
            clear hdr hds
            go_wp2_with fail
            go_loopw [11, 45] (fun gg dd wi => ∃ d : Nat, d ≤ 16 ∧ dd = .int .i64 d ∧ gg = .int .i64 (lastAt z d) ∧ ∃ q, wi = wo.drewN q) (fun _ d _ => 16 - (intOf d).toNat)
            case atStart => exact ⟨0, by omega, rfl, rfl, 0, rfl⟩
            case round =>
              obtain ⟨d, hd, rfl, rfl, nq, rfl⟩ := hrel
              by_cases hd16 : d < 16
              · have hdg := dtx_get d hd16
                obtain ⟨u, hu⟩ : ∃ u : Nat, (dtx.data.getD d 0).toNat = u := ⟨_, rfl⟩
                have HLS := Lib.hid (lastAt_succ z d)
                have j0 : (0 : Int) ≤ (d : Int) := by omega
                have j1 : (d : Int) < 16 := by omega
                have hgu : ((⟨#[48, 49, 50, 51, 52, 53, 54, 55, 56, 57, 97, 98, 99, 100, 101, 102]⟩ : ByteArray)[d]'hd16).toNat = u := by
                  rw [← hu]
                  have h3 : dtx[d]? = some (dtx[d]'hd16) := getElem?_pos dtx d hd16
                  rw [hdg] at h3
                  injection h3 with h3
                  rw [h3]; rfl
                have HU9 := Lib.hid hu
                clear hdg hu
                by_cases huz : u = z
                · have k1 : ((u : Int) == (z : Int)) = true := by rw [beq_iff_eq]; omega
                  have HL2 : Hid (lastAt z (d + 1) = (d : Int)) := by simp only [Hid]; rw [HLS.out, HU9.out, if_pos huz]
                  clear huz
                  go_wp2_with fail
                  go_quiet (fail)
                  go_wp2_with fail
                  go_roundw
                  case rel => exact ⟨d + 1, by omega, by go_num, by rw [HL2.out], by first | exact ⟨_, rfl⟩ | exact ⟨_, World.drewN_drewN _ _ _⟩⟩
                  case measure => simp [intOf]; omega
                · have k1 : ((u : Int) == (z : Int)) = false := by rw [beq_eq_false_iff_ne]; omega
                  have HL2 : Hid (lastAt z (d + 1) = lastAt z d) := by simp only [Hid]; rw [HLS.out, HU9.out, if_neg huz]
                  clear huz
                  go_wp2_with fail
                  go_quiet (fail)
                  go_wp2_with fail
                  go_roundw
                  case rel => exact ⟨d + 1, by omega, by go_num, by rw [HL2.out], by first | exact ⟨_, rfl⟩ | exact ⟨_, World.drewN_drewN _ _ _⟩⟩
                  case measure => simp [intOf]; omega
              · have hde : d = 16 := by omega
                subst hde
                rw [HQ.out]
                have hKd := hK.drewN nq
                go_wp2_with (at_builtin; refine kn_pushI rfl _ _ rfl _ ds rfl rfl (hKd.al [.int .i64 (digV q)] 2) (by omega) ?_; intro v5 w6 hK9; obtain ⟨A5, c5, rfl⟩ := row_form hK9.at0; rw [show (ds ++ [digV q]).length = ds.length + 1 by simp] at hK9; clear a1 a2 a3 d1 d2 d3; obtain ⟨a1, a2, a3, d1, d2, d3, -⟩ := hK9.cells)
                go_roundw
                case rel => exact ⟨k - 1, _, by omega, by congr 1; omega, by rw [HDG.out, show (ds ++ [digV q]).length = ds.length + 1 by simp]; exact (hK9.sw1.st 1 _).sw1⟩
                case measure => simp [intOf]; omega
set_option maxRecDepth 100000 in
set_option maxHeartbeats 1600000 in
theorem specReadRegister_any (s : ByteArray) (w : World) (hs : s.size ≤ 1048576) :
    Calls Tryz.prog 166 #[.string s] w fun e w' => ∃ A c, e = .returned (.tuple #[.agg #[.int .i64 (rdReg (strB s)).base, .slice A (rdReg (strB s)).digits.length c], .bool (rdR (strB s)).isSome]) ∧ Kn w [rowI A c (rdReg (strB s)).digits] w' := by
  have HRD := Lib.hid (rdR_spec (strB s))
  have KS := fun W => l01Split_any s 58 W hs
  have e58 : (58 : UInt8).toNat = 58 := rfl
  rw [e58] at KS
  have KS := Lib.hid KS
  have hjoin : ∀ x ∈ splitB 58 (strB s), x.length ≤ 1048576 := by
    have h1 := splitB_each 58 (strB s)
    intro x hx
    have := h1 x hx; rw [strB_len] at this; omega
  go_enter Tryz.func166, Tryz.ntmps166
  go_wp2_with fail
  refine Calls.kn ((Kn.nil w).al [.int .i64 0, .slice none 0 0] 30) ?_; intro w1 hK1
  refine (KS.out w1).mono ?_; rintro e w2 ⟨A, c, ss, rfl, hss, hK⟩
  have hK2 := hK1.join hK
  have HSS := Lib.hid hss
  have HJ := Lib.hid hjoin
  clear hK hK1 hss hjoin e58
  obtain ⟨d1, d2, d3, -⟩ := hK2.cells
  have HNO : Hid (ss.length ≠ 2 → rdR (strB s) = none) := by
    intro h
    rw [HRD.out, ← HSS.out]
    match ss, h with
    | [], _ => rfl
    | [_], _ => rfl
    | [_, _], h => exact absurd rfl h
    | _ :: _ :: _ :: _, _ => rfl
  by_cases hl2 : ss.length = 2
  · have HYES : Hid (∃ x y, ss = [x, y]) := by
      match ss, hl2 with
      | [x, y], _ => exact ⟨x, y, rfl⟩
    obtain ⟨x, y, rfl⟩ := HYES.out
    obtain ⟨-, g, rfl, -, -, -⟩ := hK2.rowS_at (k := 0) (by simp)
    have hx : (strB x).length ≤ 1048576 := HJ.out _ (by rw [← HSS.out]; simp)
    have hy : (strB y).length ≤ 1048576 := HJ.out _ (by rw [← HSS.out]; simp)
    rw [strB_len] at hx hy
    have HRR : Hid (rdR (strB s) = if y.size ≤ 16 then (rdDec (strB x)).bind fun n => if vreg n ((strB y).reverse.map digV) then some ⟨n, (strB y).reverse.map digV⟩ else none else none) := by
      simp only [Hid]
      rw [HRD.out, ← HSS.out]
      simp only [List.map_cons, List.map_nil, strB_len]
    have s0 := hK2.rowS_get (k := 0) (by simp)
    have s1 := hK2.rowS_get (k := 1) (by simp)
    simp only [List.getElem_cons_zero, List.getElem_cons_succ] at s0 s1
    clear hl2
    by_cases h16 : y.size ≤ 16
    · have i16 : ¬ (16 : Int) < (y.size : Int) := by omega
      have HRR := Lib.hid (show rdR (strB s) = (rdDec (strB x)).bind fun n => if vreg n ((strB y).reverse.map digV) then some ⟨n, (strB y).reverse.map digV⟩ else none by rw [HRR.out, if_pos h16])
      have KN := Lib.hid (l01Number_any x w2 (by omega))
      obtain ⟨n, hn⟩ : ∃ n, rdN (strB x) = n := ⟨_, rfl⟩
      obtain ⟨ok, hok⟩ : ∃ b, (rdDec (strB x)).isSome = b := ⟨_, rfl⟩
      have KN := KN.out
      rw [hn, hok] at KN
      have KN := Lib.hid KN
      have HRS : Hid (rdR (strB s) = if ok && vreg n ((strB y).reverse.map digV) then some ⟨n, (strB y).reverse.map digV⟩ else none) := by
        simp only [Hid]; rw [HRR.out]
        cases hrd : rdDec (strB x) with
        | none => rw [hrd] at hok; subst hok; rfl
        | some q =>
          have h2 := (rd_some hrd).1
          rw [hrd] at hok
          subst hok
          rw [hn] at h2; subst h2; simp
      clear h16 hn hok
      go_wp2_with fail
      refine KN.out.mono ?_; rintro e w3 ⟨rfl, hw⟩
      have hK3 := hK2.keep hw
      clear hw d1 d2 d3 s0 s1
      have s1 := hK3.rowS_get (k := 1) (by simp)
      simp only [List.getElem_cons_zero, List.getElem_cons_succ] at s1
      go_wp2_with (first | (refine wpList.kn (hK3.al [.int .i64 0, .slice none 0 0] 30) ?_; intro w4 hK4; clear s1; have s1 := hK4.drop.rowS_get (k := 1) (by simp); simp only [List.getElem_cons_zero, List.getElem_cons_succ] at s1; obtain ⟨a1, a2, a3, -⟩ := hK4.cells) | (refine wpList.kn ((hK4.st 0 _).st 1 _) ?_; intro w5 hK5; clear s1; have s1 := hK5.drop.rowS_get (k := 1) (by simp); simp only [List.getElem_cons_zero, List.getElem_cons_succ] at s1; clear a1 a2 a3))
      have hK6 := hK5.nilRow 2 1
      clear hK3 hK4 hK5 hK2
      go_loopw [8] (fun ii wr => ∃ (k : Nat) (v : Value), k ≤ y.size ∧ ii = .int .i64 ((k : Int) - 1) ∧
        Kn w [.row v 2 1 (((strB y).drop k).reverse.map digV).length ((((strB y).drop k).reverse.map digV).map (Value.int .i64)), .blk w3.heap.size [.int .i64 n, v] 30, rowS (.slice (some ⟨g, 0, none⟩) 2 c) [x, y], .blk w.heap.size [.int .i64 0, .slice none 0 0] 30] wr) (fun i _ => (intOf i + 1).toNat)
      case atStart =>
        refine ⟨y.size, .slice none 0 0, Nat.le_refl _, rfl, ?_⟩
        rw [List.drop_of_length_le (by rw [strB_len]; omega)]
        exact hK6
      case round =>
        obtain ⟨k, v, hk, rfl, hK⟩ := hrel
        obtain ⟨wo, rfl⟩ : ∃ wo : World, wo = wr := ⟨_, rfl⟩
        clear hK6 s1
        obtain ⟨a1, a2, a3, d1, d2, d3, -⟩ := hK.cells
        have s1 := hK.drop.drop.rowS_get (k := 1) (by simp)
        simp only [List.getElem_cons_zero, List.getElem_cons_succ] at s1
        rcases Nat.eq_zero_or_pos k with hk0 | hk0
        · subst hk0
          rw [List.drop_zero] at hK
          obtain ⟨ds, hds⟩ : ∃ ds, (strB y).reverse.map digV = ds := ⟨_, rfl⟩
          have HRS := HRS.out
          rw [hds] at hK HRS
          have HRS := Lib.hid HRS
          obtain ⟨A, c, rfl⟩ := row_form hK.at0
          have hri := hK.ownI.ri
          have hdl : ds.length ≤ 1048576 := by rw [← hds]; simp [strB_len]; omega
          have hRM : RegM wo ⟨w3.heap.size, 0, none⟩ ⟨n, ds⟩ := ⟨A, c, ⟨by rw [a1]; rfl, by rw [a1]; rfl⟩, hri⟩
          have KV := fun b (hb : (⟨n, ds⟩ : Reg).ok = b) => l02Ok_reg ⟨w3.heap.size, 0, none⟩ ⟨n, ds⟩ wo hRM (by unfold SmallReg; simp only []; omega) b hb
          clear hds hri hRM
          cases ok with
          | false =>
            have HU := Lib.hid (rdr_none (bs := strB s) HRS.out)
            clear KV
            go_wp2_with fail
            refine bodyPost_ret (v := .tuple #[.agg #[.int .i64 0, .slice none 0 0], .bool false]) (by simp [results, Tryz.results166, go_sem, d1]) rfl ⟨none, 0, by rw [HU.out.1, HU.out.2]; rfl, ?_⟩
            rw [HU.out.1]
            exact ((hK.sw3.st 0 (.int .i64 0)).st 1 (.slice none 0 0)).bare.nilRow _ _
          | true =>
          rcases hv : vreg n ds with _ | _
          · have HU := Lib.hid (rdr_none (bs := strB s) (by rw [HRS.out, hv]; rfl))
            have KV := Lib.hid (KV _ hv)
            clear hv
            go_wp2_with fail
            refine KV.out.mono ?_; rintro e w7 ⟨rfl, m, rfl⟩
            have hK7 := hK.drewN m
            go_wp2_with fail
            refine bodyPost_ret (v := .tuple #[.agg #[.int .i64 0, .slice none 0 0], .bool false]) (by simp [results, Tryz.results166, go_sem, d1]) rfl ⟨none, 0, by rw [HU.out.1, HU.out.2]; rfl, ?_⟩
            rw [HU.out.1]
            exact ((hK7.sw3.st 0 (.int .i64 0)).st 1 (.slice none 0 0)).bare.nilRow _ _
          · have HU := Lib.hid (rdr_some (bs := strB s) (r := ⟨n, ds⟩) (by rw [HRS.out, hv]; rfl))
            have KV := Lib.hid (KV _ hv)
            clear hv
            go_wp2_with fail
            refine KV.out.mono ?_; rintro e w7 ⟨rfl, m, rfl⟩
            have hK7 := hK.drewN m
            go_wp2_with fail
            have hK8 := (hK7.sw3.st 0 (.int .i64 n)).st 1 (.slice A ds.length c)
            refine bodyPost_ret (v := .tuple #[.agg #[.int .i64 n, .slice A ds.length c], .bool true]) (by simp [results, Tryz.results166, go_sem, d1]) rfl ⟨A, c, by rw [HU.out.1, HU.out.2], ?_⟩
            rw [HU.out.1]
            exact hK8.drop.drop1.drop1
        · obtain ⟨q, hq⟩ : ∃ q : UInt8, y[k - 1] = q := ⟨_, rfl⟩
          obtain ⟨z, hz⟩ : ∃ z : Nat, q.toNat = z := ⟨_, rfl⟩
          have hz2 : z < 256 := by rw [← hz]; exact q.toNat_lt
          have hdr : (strB y).drop (k - 1) = q :: (strB y).drop k := by
            rw [List.drop_eq_getElem_cons (by rw [strB_len]; omega), ← strB_get y (by omega), hq, show k - 1 + 1 = k by omega]
          have HDG := Lib.hid (show ((strB y).drop (k - 1)).reverse.map digV = ((strB y).drop k).reverse.map digV ++ [digV q] by rw [hdr]; simp)
          have KD := Lib.hid (fun W => l02Digit_any z q hz W)
          have hi0 : (0 : Int) ≤ (k : Int) - 1 := by omega
          have hi1 : (k : Int) - 1 < (y.size : Int) := by omega
          have hin : ((k : Int) - 1).toNat = k - 1 := by omega
          have hlen : (((strB y).drop k).reverse.map digV).length ≤ 1048576 := by simp [strB_len]; omega
          obtain ⟨ds, hds⟩ : ∃ ds, ((strB y).drop k).reverse.map digV = ds := ⟨_, rfl⟩
          rw [hds] at hK hlen HDG
          clear hdr hds
          go_wp2_with fail
          go_region_law (first
            | (go_simp; go_at_call 215; refine (KD.out _).mono ?_; rintro e w' ⟨rfl, rfl⟩)
            | (refine kn_stepI rfl _ _ rfl _ ds rfl rfl ((hK.al [.int .i64 (digV q)] 2).drew) (by omega) ?_; intro v5 w6 hK9; obtain ⟨A5, c5, rfl⟩ := row_form hK9.at0; rw [show (ds ++ [digV q]).length = ds.length + 1 by simp] at hK9; clear a1 a2 a3 d1 d2 d3; obtain ⟨a1, a2, a3, d1, d2, d3, -⟩ := hK9.cells))
          all_goals
            go_wp2_with fail
            go_roundw
            case rel => exact ⟨k - 1, _, by omega, by congr 1; omega, by rw [HDG.out, show (ds ++ [digV q]).length = ds.length + 1 by simp]; exact (hK9.sw1.st 1 _).sw1⟩
            case measure => simp [intOf]; omega
    · have i16 : (16 : Int) < (y.size : Int) := by omega
      have HU := Lib.hid (rdr_none (bs := strB s) (by rw [HRR.out, if_neg h16]))
      clear h16
      go_wp2_with fail
      refine bodyPost_ret (v := .tuple #[.agg #[.int .i64 0, .slice none 0 0], .bool false]) (by simp [results, Tryz.results166, go_sem, d1]) rfl ⟨none, 0, by rw [HU.out.1, HU.out.2]; rfl, ?_⟩
      rw [HU.out.1]
      exact ((hK2.sw1.st 0 (.int .i64 0)).st 1 (.slice none 0 0)).bare.nilRow _ _
  · have HU := Lib.hid (rdr_none (bs := strB s) (HNO.out hl2))
    have k1 : ((ss.length : Int) != 2) = true := by rw [bne_iff_ne]; omega
    clear hl2
    go_wp2_with fail
    refine bodyPost_ret (v := .tuple #[.agg #[.int .i64 0, .slice none 0 0], .bool false]) (by simp [results, Tryz.results166, go_sem, d1]) rfl ⟨none, 0, by rw [HU.out.1, HU.out.2]; rfl, ?_⟩
    rw [HU.out.1]
    exact ((hK2.sw1.st 0 (.int .i64 0)).st 1 (.slice none 0 0)).bare.nilRow _ _
end Go.Proofs.YtmmiahgmdllgdaaGreatDoor

namespace Go.Proofs.YtmmiahgmdllgdaaGreatDoor
open Go.RowKit Go.Sort
theorem TriM.of_block {w : World} {g : Nat} {T : TypeId} {t : Tri} {A1 A2 A3 : Option Addr} {c1 c2 c3 : Nat}
    (hg : w.heap[g]? = some (.cells #[.int .i64 t.a.base, .slice A1 t.a.digits.length c1, .int .i64 t.b.base, .slice A2 t.b.digits.length c2, .int .i64 t.s.base, .slice A3 t.s.digits.length c3, .int .i64 t.carry] T (0, 0)))
    (r1 : RI w A1 t.a.digits.length t.a.digits) (r2 : RI w A2 t.b.digits.length t.b.digits) (r3 : RI w A3 t.s.digits.length t.s.digits) : TriM w ⟨g, 0, none⟩ t := by
  have hc : ∀ i v, #[Value.int .i64 t.a.base, .slice A1 t.a.digits.length c1, .int .i64 t.b.base, .slice A2 t.b.digits.length c2, .int .i64 t.s.base, .slice A3 t.s.digits.length c3, .int .i64 t.carry][i]? = some v → w.cell? ⟨g, i, none⟩ = some v := fun i v hv => by rw [cell_of_row w g i _ T (0, 0) hg]; exact hv
  exact ⟨⟨A1, c1, ⟨hc 0 _ rfl, hc 1 _ rfl⟩, r1⟩, ⟨A2, c2, ⟨hc 2 _ rfl, hc 3 _ rfl⟩, r2⟩, ⟨A3, c3, ⟨hc 4 _ rfl, hc 5 _ rfl⟩, r3⟩, hc 6 _ rfl⟩
theorem RL.one {w : World} {g : Nat} {t : Tri} (h : TriM w ⟨g, 0, none⟩ t) (hl : g < w.heap.size) : RL TriM 7 w (some ⟨g, 0, none⟩) 1 [t] :=
  ⟨rfl, fun _ => ⟨_, rfl, hl, fun k hk => by
    have : k = 0 := by simp at hk; omega
    subst this
    rw [Nat.zero_mul, addr_add_zero]; exact h⟩⟩
theorem RegisterText_reg (r : Reg) (A : Option Addr) (c : Nat) (w : World) (hr : RI w A r.digits.length r.digits) (hm : SmallReg r) (ht : TB w) :
    Calls Tryz.prog 134 #[.agg #[.int .i64 r.base, .slice A r.digits.length c]] w fun e w' => e = .returned (.string ⟨(rtext r).toArray⟩) ∧ Below w.heap.size w w' := RegisterText_any r.base A _ c r.digits w hr hm ht
def ttextL (t : Tri) : ByteArray := ((((((⟨(rtext t.a).toArray⟩ : ByteArray) ++ (⟨#[32, 43, 32]⟩ : ByteArray)) ++ (⟨(rtext t.b).toArray⟩ : ByteArray)) ++ (⟨#[32, 61, 32]⟩ : ByteArray)) ++ (⟨(rtext t.s).toArray⟩ : ByteArray)) ++ (⟨#[32]⟩ : ByteArray)) ++ (⟨(dec t.carry).toArray⟩ : ByteArray)
def ttext (t : Tri) : ByteArray := if vtrials [t] then ttextL t else ⟨#[]⟩
theorem rtext_len (r : Reg) : (rtext r).length ≤ 60 := by
  unfold rtext
  split
  · rename_i h
    obtain ⟨⟨hb1, hb2⟩, ⟨hl1, hl2⟩, -, -⟩ := vreg_iff.1 h
    have := dec_len r.base (by omega) (by omega)
    simp only [rtextL, List.length_append, List.length_map, List.length_reverse, List.length_cons, List.length_nil]; omega
  · simp
theorem vtrials_one {t : Tri} (h : vtrials [t] = true) : t.a.ok = true ∧ t.b.ok = true ∧ t.s.ok = true ∧ 0 ≤ t.carry ∧ t.carry ≤ 1 := by
  simp only [vtrials, List.all_cons, List.all_nil, Bool.and_true, Bool.and_eq_true, List.headD_cons, triGood, vlike] at h
  obtain ⟨⟨⟨⟨h1, h2⟩, h3⟩, h4⟩, -⟩ := h
  obtain ⟨h5, h6⟩ := betB_iff.1 h4
  exact ⟨h1.1.1, h2.1.1, h3.1.1, h5, h6⟩
end Go.Proofs.YtmmiahgmdllgdaaGreatDoor

namespace Go.Proofs.YtmmiahgmdllgdaaGreatDoor
open Go.RowKit Go.Sort
/-- powers -/
def pw (b : Int) : Nat → Int
  | 0 => 1
  | n + 1 => pw b n * b
theorem pw_pos (b : Int) (hb : 2 ≤ b) (n : Nat) : 1 ≤ pw b n := by
  induction n with
  | zero => simp [pw]
  | succ n ih => have := Int.mul_le_mul ih hb (by omega) (by omega); simp only [pw]; omega
theorem pw_step (b : Int) (hb : 2 ≤ b) (n : Nat) : 2 * pw b n ≤ pw b (n + 1) := by
  have := Int.mul_le_mul_of_nonneg_left hb (show 0 ≤ pw b n by have := pw_pos b hb n; omega)
  simp only [pw]; omega
theorem pw_mono (b : Int) (hb : 2 ≤ b) (n k : Nat) (h : n ≤ k) : pw b n ≤ pw b k := by
  induction h with
  | refl => omega
  | @step m _ ih => have h1 := pw_step b hb m; have h2 := pw_pos b hb m; exact Int.le_trans ih (by show pw b m ≤ pw b (m + 1); omega)
def powC (b : Int) (n : Nat) : Int := if pw b n ≤ 1000000000001 then pw b n else 0
def powS (b : Int) (n : Nat) : Int := min 1000000000002 (pw b n)
theorem powS_succ (b : Int) (hb : 2 ≤ b) (n : Nat) : powS b (n + 1) = min 1000000000002 (powS b n * b) := by
  unfold powS
  have h1 := pw_pos b hb n
  rcases Int.le_total (pw b n) 1000000000002 with h | h
  · rw [Int.min_eq_right h]; rfl
  · have h2 := pw_step b hb n
    rw [Int.min_eq_left h, Int.min_eq_left (by omega), Int.min_eq_left (by omega)]
theorem powS_bd (b : Int) (hb : 2 ≤ b) (n : Nat) : 1 ≤ powS b n ∧ powS b n ≤ 1000000000002 := by
  have := pw_pos b hb n; unfold powS; omega
theorem power_any (b : Int) (n : Nat) (w : World) (hb1 : 2 ≤ b) (hb2 : b ≤ 16) (hn : n ≤ 9223372036854775807) :
    Calls Tryz.prog 171 #[.int .i64 b, .int .i64 n] w fun e w' => e = .returned (.int .i64 (powC b n)) ∧ w = w' := by
  go_enter Tryz.func171, Tryz.ntmps171
  go_wp2
  go_loop [5, 7] (fun v i => ∃ k : Nat, k ≤ n ∧ i = .int .i64 k ∧ v = .int .i64 (pw b k) ∧ pw b k ≤ 1000000000001) (fun _ i => n - (intOf i).toNat)
  case atStart => exact ⟨0, Nat.zero_le _, rfl, rfl, by simp [pw]⟩
  case round =>
    obtain ⟨k, hk, rfl, rfl, hv⟩ := hrel
    have h1 := pw_pos b hb1 k
    have hm0 : 0 ≤ pw b k * b := Int.mul_nonneg (by omega) (by omega)
    have hm1 : pw b k * b ≤ 16000000000016 := by
      have := Int.mul_le_mul hv hb2 (by omega) (by omega); omega
    by_cases hkn : k < n
    · have hP : Hid (pw b (k + 1) = pw b k * b) := rfl
      have hi1 : (k : Int) < (n : Int) := by omega
      by_cases hq : 1000000000000 < pw b k * b - 1
      · go_wp2
        go_ret
        exact ⟨ret_int (by have h2 := pw_mono b hb1 (k + 1) n (by omega); rw [hP.out] at h2; unfold powC; rw [if_neg (by omega)]), rfl⟩
      · go_wp2
        go_round
        case rel => exact ⟨k + 1, by omega, by go_num, by rw [hP.out], by rw [hP.out]; omega⟩
        case measure => simp [intOf]; omega
    · have hi1 : ¬ (k : Int) < (n : Int) := by omega
      obtain rfl : k = n := by omega
      go_wp2
      go_ret
      exact ⟨ret_int (by unfold powC; rw [if_pos hv]), rfl⟩
theorem l10Power_any (b : Int) (n : Nat) (w : World) (hb1 : 2 ≤ b) (hb2 : b ≤ 16) (hn : n ≤ 9223372036854775807) :
    Calls Tryz.prog 183 #[.int .i64 b, .int .i64 n] w fun e w' => e = .returned (.int .i64 (powS b n)) ∧ w = w' := by
  go_enter Tryz.func183, Tryz.ntmps183
  go_wp2
  go_loop [5, 1] (fun v i => ∃ k j : Nat, k + j = n ∧ i = .int .i64 j ∧ v = .int .i64 (powS b k)) (fun _ i => (intOf i).toNat)
  case atStart => exact ⟨0, n, by omega, rfl, rfl⟩
  case round =>
    obtain ⟨k, j, hk, rfl, rfl⟩ := hrel
    obtain ⟨h1, hv⟩ := powS_bd b hb1 k
    have hm0 : 0 ≤ powS b k * b := Int.mul_nonneg (by omega) (by omega)
    have hm1 : powS b k * b ≤ 16000000000032 := by
      have := Int.mul_le_mul hv hb2 (by omega) (by omega); omega
    have HP := Lib.hid (powS_succ b hb1 k)
    by_cases hj : 0 < j
    · have hi1 : (0 : Int) < (j : Int) := by omega
      go_wp2_with (go_at_call 221; refine (l00Min_any _ _ _).mono ?_; rintro e w' ⟨rfl, rfl⟩)
      go_round
      case rel => exact ⟨k + 1, j - 1, by omega, by congr 1; omega, by rw [HP.out]⟩
      case measure => simp [intOf]; omega
    · obtain rfl : j = 0 := by omega
      go_wp2_with (go_at_call 221; refine (l00Min_any _ _ _).mono ?_; rintro e w' ⟨rfl, rfl⟩)
      go_ret
      exact ⟨ret_int (by congr 1), rfl⟩
theorem l10Full_any (b : Int) (n : Nat) (w : World) (hb1 : 2 ≤ b) (hb2 : b ≤ 16) (hn : n ≤ 9223372036854775807) :
    Calls Tryz.prog 217 #[.int .i64 b, .int .i64 n] w fun e w' => e = .returned (.bool (decide (pw b n ≤ 1000000000001))) ∧ w = w' := by
  obtain ⟨h1, hv⟩ := powS_bd b hb1 n
  go_enter Tryz.func217, Tryz.ntmps217
  go_wp2_with (go_at_call 183; refine (l10Power_any _ _ _ hb1 hb2 hn).mono ?_; rintro e w' ⟨rfl, rfl⟩)
  go_ret
  exact ⟨ret_bool (by unfold powS; rw [decide_eq_decide]; omega), rfl⟩
theorem powC_zero (b : Int) (hb : 2 ≤ b) (n : Nat) : (powC b n == 0) = !decide (pw b n ≤ 1000000000001) := by
  have := pw_pos b hb n
  unfold powC
  split
  · rename_i h; rw [decide_eq_true h]; simp; omega
  · rename_i h; rw [decide_eq_false h]; rfl
end Go.Proofs.YtmmiahgmdllgdaaGreatDoor
