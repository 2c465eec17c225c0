/- Part 8: lemmas and contracts of the claim's functions. -/
import Derived.Test.YtlhcilmnfmglfaaDoorZC1
import Derived.Test.YtlhcilmnfmglfaaDoorZC2
import Derived.Test.YtlhcilmnfmglfaaDoorZC3
import Derived.Test.YtlhcilmnfmglfaaDoorZC4
import Derived.Test.YtlhcilmnfmglfaaDoorZC5
import Derived.Test.YtlhcilmnfmglfaaDoorZC6
import Derived.Test.YtlhcilmnfmglfaaDoorZC7
import Derived.Deep.DeepCutAuto
namespace Go.Proofs.YtlhcilmnfmglfaaDoor
open Go.RowKit Go.Sort
def isD (b : UInt8) : Bool := decide (48 ≤ b.toNat ∧ b.toNat ≤ 57)
def foldD (l : List UInt8) : Nat := l.foldl (fun a b => 10 * a + (b.toNat - 48)) 0
def signOff : List UInt8 → List UInt8
  | [] => []
  | b :: tl => if b.toNat = 45 then tl else b :: tl
/-- the number that decimal digits say -/
def numOf (bs : List UInt8) : Int := if (signOff bs).length < bs.length then -(foldD (signOff bs) : Int) else (foldD (signOff bs) : Int)
def rdDec (bs : List UInt8) : Option Int := if decide (1 ≤ (signOff bs).length ∧ (signOff bs).length ≤ 18) && (signOff bs).all isD && decide (dec (numOf bs) = bs) then some (numOf bs) else none
theorem foldD_snoc (l : List UInt8) (b : UInt8) : foldD (l ++ [b]) = 10 * foldD l + (b.toNat - 48) := by simp [foldD]
theorem foldD_acc (l : List UInt8) (h : l.all isD = true) : ∀ acc : Nat, l.foldl (fun a b => 10 * a + (b.toNat - 48)) acc < (acc + 1) * 10 ^ l.length := by
  induction l with
  | nil => intro acc; simp
  | cons b l ih =>
    intro acc
    rw [List.all_cons, Bool.and_eq_true] at h
    have h3 := of_decide_eq_true (show decide (48 ≤ b.toNat ∧ b.toNat ≤ 57) = true from h.1)
    have h1 := ih h.2 (10 * acc + (b.toNat - 48))
    rw [List.foldl_cons, List.length_cons, Nat.pow_succ]
    have h4 : (10 * acc + (b.toNat - 48) + 1) * 10 ^ l.length ≤ (10 * (acc + 1)) * 10 ^ l.length := Nat.mul_le_mul_right _ (by omega)
    have h5 : 10 * (acc + 1) * 10 ^ l.length = (acc + 1) * (10 ^ l.length * 10) := by rw [Nat.mul_comm 10 (acc + 1), Nat.mul_assoc, Nat.mul_comm 10]
    omega
theorem foldD_bd (l : List UInt8) (h : l.all isD = true) : foldD l < 10 ^ l.length := by
  have := foldD_acc l h 0
  simpa [foldD] using this
theorem all_take {l : List UInt8} {k : Nat} (h : k < l.length) : (l.take (k + 1)).all isD = ((l.take k).all isD && isD l[k]) := by
  rw [List.take_succ_eq_append_getElem h, List.all_append]; simp
theorem isDigit_any (z : Nat) (b : UInt8) (hb : b.toNat = z) (w : World) : Calls Tryd.prog 220 #[.int .u8 (z : Int)] w fun e w' => e = .returned (.bool (isD b)) ∧ w = w' := by
  by_cases h1 : 48 ≤ z
  · by_cases h2 : z ≤ 57
    · have i1 : (48 : Int) ≤ (z : Int) := by omega
      have i2 : (z : Int) ≤ 57 := by omega
      have HD : Hid (isD b = true) := by simp only [Hid, isD, hb]; exact decide_eq_true ⟨h1, h2⟩
      go_enter Tryd.func220, Tryd.ntmps220
      go_wp2_with fail
      go_ret
      exact ⟨ret_bool HD.out.symm, rfl⟩
    · have i1 : (48 : Int) ≤ (z : Int) := by omega
      have i2 : ¬ (z : Int) ≤ 57 := by omega
      have HD : Hid (isD b = false) := by simp only [Hid, isD, hb]; exact decide_eq_false (by omega)
      go_enter Tryd.func220, Tryd.ntmps220
      go_wp2_with fail
      go_ret
      exact ⟨ret_bool HD.out.symm, rfl⟩
  · have i1 : ¬ (48 : Int) ≤ (z : Int) := by omega
    have HD : Hid (isD b = false) := by simp only [Hid, isD, hb]; exact decide_eq_false (by omega)
    go_enter Tryd.func220, Tryd.ntmps220
    go_wp2_with fail
    go_ret
    exact ⟨ret_bool HD.out.symm, rfl⟩
theorem l01Digit_any (z : Nat) (b : UInt8) (hb : b.toNat = z) (w : World) : Calls Tryd.prog 213 #[.int .u8 (z : Int)] w fun e w' => e = .returned (.bool (isD b)) ∧ w = w' := by
  by_cases h1 : 48 ≤ z
  · by_cases h2 : z ≤ 57
    · have i1 : (48 : Int) ≤ (z : Int) := by omega
      have i2 : (z : Int) ≤ 57 := by omega
      have HD : Hid (isD b = true) := by simp only [Hid, isD, hb]; exact decide_eq_true ⟨h1, h2⟩
      go_enter Tryd.func213, Tryd.ntmps213
      go_wp2_with fail
      go_ret
      exact ⟨ret_bool HD.out.symm, rfl⟩
    · have i1 : (48 : Int) ≤ (z : Int) := by omega
      have i2 : ¬ (z : Int) ≤ 57 := by omega
      have HD : Hid (isD b = false) := by simp only [Hid, isD, hb]; exact decide_eq_false (by omega)
      go_enter Tryd.func213, Tryd.ntmps213
      go_wp2_with fail
      go_ret
      exact ⟨ret_bool HD.out.symm, rfl⟩
  · have i1 : ¬ (48 : Int) ≤ (z : Int) := by omega
    have HD : Hid (isD b = false) := by simp only [Hid, isD, hb]; exact decide_eq_false (by omega)
    go_enter Tryd.func213, Tryd.ntmps213
    go_wp2_with fail
    go_ret
    exact ⟨ret_bool HD.out.symm, rfl⟩
theorem rdDec_len {bs : List UInt8} (h : ¬ (1 ≤ (signOff bs).length ∧ (signOff bs).length ≤ 18)) : rdDec bs = none := by
  unfold rdDec; rw [decide_eq_false h]; rfl
theorem rdDec_all {bs : List UInt8} (h : (signOff bs).all isD = false) : rdDec bs = none := by
  unfold rdDec; rw [h]; simp
def rdN (bs : List UInt8) : Int := (rdDec bs).getD 0
theorem rd_none {bs : List UInt8} (h : rdDec bs = none) : rdN bs = 0 ∧ (rdDec bs).isSome = false := by simp [rdN, h]
theorem rd_some {bs : List UInt8} {n : Int} (h : rdDec bs = some n) : rdN bs = n ∧ (rdDec bs).isSome = true := by simp [rdN, h]
set_option maxRecDepth 100000 in
set_option maxHeartbeats 1600000 in
theorem l01Number_any (s : ByteArray) (w : World) (hs : s.size ≤ 9223372036854775807) :
    Calls Tryd.prog 198 #[.string s] w fun e w' => e = .returned (.tuple #[.int .i64 (rdN (strB s)), .bool (rdDec (strB s)).isSome]) ∧ Below w.heap.size w w' := by
  by_cases h0 : 0 < s.size
  · have hE := str_nonempty h0
    have hc := strB_cons h0
    obtain ⟨b, hb⟩ : ∃ b, s[0] = b := ⟨_, rfl⟩
    rw [hb] at hc
    obtain ⟨z0, hz0⟩ : ∃ z : Nat, b.toNat = z := ⟨_, rfl⟩
    have i0 : (0 : Int) < (s.size : Int) := by omega
    by_cases h45 : z0 = 45
    · have i2 : ((z0 : Int) == 45) = true := by rw [beq_iff_eq]; omega
      obtain ⟨x, hx⟩ : ∃ x, s.extract 1 s.size = x := ⟨_, rfl⟩
      have HXB : Hid (strB x = signOff (strB s)) := by
        simp only [Hid]; rw [← hx, strB_tail, hc]; simp only [signOff]; rw [hz0, if_pos h45]; rfl
      have hxs : x.size = s.size - 1 := by rw [← hx, extract_size]
      have HC := Lib.hid hc
      have i1 : (1 : Int) ≤ (s.size : Int) := by omega
      have i5 : (x.size : Int) < (s.size : Int) := by omega
      by_cases hx0 : 0 < x.size
      · have j0 : ((x.size : Int) == 0) = false := by rw [beq_eq_false_iff_ne]; omega
        have j1 : ¬ (x.size : Int) < 1 := by omega
        have HX := Lib.hid hx
        clear hc hxs
        go_enter Tryd.func198, Tryd.ntmps198
        have HXL := Lib.hid (show (strB x).length = x.size from strB_len x)
        by_cases h18 : x.size ≤ 18
        · go_wp2_with fail
          go_loopw [5, 6] (fun nn ii wr => ∃ k : Nat, k ≤ x.size ∧ ii = .int .i64 k ∧ nn = .int .i64 (foldD ((strB x).take k) : Int) ∧ ((strB x).take k).all isD = true ∧ w = wr) (fun _ i _ => x.size - (intOf i).toNat)
          case atStart => exact ⟨0, Nat.zero_le _, rfl, rfl, rfl, rfl⟩
          case round =>
            obtain ⟨k, hk, rfl, rfl, hall, rfl⟩ := hrel
            have hbd := foldD_bd _ hall
            rw [List.length_take] at hbd
            have hp : 10 ^ (min k (strB x).length) ≤ 10 ^ 18 := Nat.pow_le_pow_right (by omega) (by have := HXL.out; omega)
            have HA := Lib.hid hall
            obtain ⟨N, hN⟩ : ∃ N, foldD ((strB x).take k) = N := ⟨_, rfl⟩
            have HN := Lib.hid hN
            have hN2 : N < 1000000000000000000 := by rw [← hN]; exact Nat.lt_of_lt_of_le hbd (Nat.le_trans hp (by decide))
            have HB := Lib.hid (show N < 10 ^ (min k (strB x).length) by rw [← hN]; exact hbd)
            rw [hN]
            clear hall hbd hp hN
            by_cases hkn : k < x.size
            · obtain ⟨q, hq⟩ : ∃ q : UInt8, x[k] = q := ⟨_, rfl⟩
              obtain ⟨z, hz⟩ : ∃ z : Nat, q.toNat = z := ⟨_, rfl⟩
              have hz2 : z < 256 := by rw [← hz]; exact q.toNat_lt
              have hkl : k < (strB x).length := by rw [HXL.out]; exact hkn
              have hg : (strB x)[k] = q := by rw [← hq, strB_get x hkn]
              have HT := Lib.hid (all_take hkl)
              have HF := Lib.hid (List.take_succ_eq_append_getElem hkl)
              have HNOT := Lib.hid (fun (h1 : isD (strB x)[k] = false) => all_not (p := isD) hkl h1)
              rw [hg] at HT HF HNOT
              have i0 : (0 : Int) ≤ (k : Int) := by omega
              have i1 : (k : Int) < (x.size : Int) := by omega
              have HZ := Lib.hid hz
              have hN3 : N < 100000000000000000 := Nat.lt_of_lt_of_le HB.out (Nat.le_trans (Nat.pow_le_pow_right (n := 10) (by omega) (show min k (strB x).length ≤ 17 by omega)) (by decide))
              rcases hd : isD q with _ | _
              · have HU := Lib.hid (rd_none (bs := strB s) (rdDec_all (by rw [← HXB.out]; exact HNOT.out hd)))
                have KD := Lib.hid (fun W => calls_val (l01Digit_any z q hz W) (congrArg Value.bool hd))
                clear hd hg
                go_wp2_with (go_at_call 213; refine (KD.out _).mono ?_; rintro e w' ⟨rfl, rfl⟩)
                go_ret2
                exact ⟨by rw [HU.out.1, HU.out.2] <;> rfl, Below.refl _ _⟩
              · have KD := Lib.hid (fun W => calls_val (l01Digit_any z q hz W) (congrArg Value.bool hd))
                have hz3 := of_decide_eq_true (show decide (48 ≤ q.toNat ∧ q.toNat ≤ 57) = true from hd)
                rw [hz] at hz3
                have y1 : IntKind.u8.wrap ((z : Int) - 48) = (z : Int) - 48 := wrapB (by omega)
                have y2 : wrap64 (10 * (N : Int)) = 10 * (N : Int) := wrap64_of (by omega)
                have y3 : wrap64 (10 * (N : Int) + ((z : Int) - 48)) = 10 * (N : Int) + ((z : Int) - 48) := wrap64_of (by omega)
                have HD := Lib.hid hd
                clear hd hg
                go_wp2_with (go_at_call 213; refine (KD.out _).mono ?_; rintro e w' ⟨rfl, rfl⟩)
                go_roundw
                case rel => exact ⟨k + 1, by omega, by go_num, by rw [HF.out, foldD_snoc, HN.out, HZ.out]; congr 1; omega, by rw [HT.out, HA.out, HD.out]; rfl, by first | rfl | trivial⟩
                case measure => simp [intOf]; omega
            · have HK : Hid ((strB x).take k = strB x) := List.take_of_length_le (by have := HXL.out; omega)
              have HFN : Hid (foldD (signOff (strB s)) = N) := by simp only [Hid]; rw [← HXB.out, ← HK.out]; exact HN.out
              have HAL : Hid ((signOff (strB s)).all isD = true) := by simp only [Hid]; rw [← HXB.out, ← HK.out]; exact HA.out
              have HLE : Hid (1 ≤ (signOff (strB s)).length ∧ (signOff (strB s)).length ≤ 18) := by simp only [Hid]; rw [← HXB.out, HXL.out]; omega
              have HSL := Lib.hid (strB_len s)
              obtain ⟨v, hv⟩ : ∃ v, v = -(N : Int) := ⟨_, rfl⟩; have hvb : -9223372036854775808 ≤ v ∧ v ≤ 9223372036854775807 := (by omega); have HNU : Hid (numOf (strB s) = v) := (by simp only [Hid, numOf]; rw [HFN.out, hv, if_pos (by rw [← HXB.out, HXL.out, HSL.out]; omega)]); rw [show (0 : Int) = 0 from rfl]; have hv' := hv.symm; clear hv
              have HRD : Hid (rdDec (strB s) = if decide (dec v = strB s) then some v else none) := by
                simp only [Hid, rdDec]; rw [HAL.out, decide_eq_true HLE.out, HNU.out]; simp
              have i9 : ¬ (k : Int) < (x.size : Int) := by omega
              rcases hq : (dec v == s.toList) with _ | _
              · have HU := Lib.hid (rd_none (bs := strB s) (by rw [HRD.out]; rw [strB_toList, beq_eq_false_iff_ne] at hq; simp [hq]))
                go_wp2_with fail
                refine (l01Dec_any v w hvb.1 hvb.2).mono ?_; rintro e w' ⟨rfl, hwd⟩
                go_wp2_with fail
                go_ret2
                exact ⟨by rw [HU.out.1, HU.out.2] <;> rfl, hwd⟩
              · have HU := Lib.hid (rd_some (bs := strB s) (n := v) (by rw [HRD.out]; rw [strB_toList, beq_iff_eq] at hq; simp [hq]))
                go_wp2_with fail
                refine (l01Dec_any v w hvb.1 hvb.2).mono ?_; rintro e w' ⟨rfl, hwd⟩
                go_wp2_with fail
                go_ret2
                exact ⟨by rw [HU.out.1, HU.out.2] <;> rfl, hwd⟩
        · have HU := Lib.hid (rd_none (bs := strB s) (rdDec_len (by rw [← HXB.out, HXL.out]; omega)))
          have i3 : (18 : Int) < (x.size : Int) := by omega
          go_wp2_with fail
          go_ret2
          exact ⟨by rw [HU.out.1, HU.out.2] <;> rfl, Below.refl _ _⟩
      · have HU := Lib.hid (rd_none (bs := strB s) (rdDec_len (by rw [← HXB.out, strB_len]; omega)))
        have hxz := size_zero (show x.size = 0 by omega)
        subst hxz
        clear hc
        go_enter Tryd.func198, Tryd.ntmps198
        go_wp2_with fail
        go_ret2
        exact ⟨by rw [HU.out.1, HU.out.2] <;> rfl, Below.refl _ _⟩
    · have i2 : ((z0 : Int) == 45) = false := by rw [beq_eq_false_iff_ne]; omega
      have HXB : Hid (strB s = signOff (strB s)) := by
        simp only [Hid]; rw [hc]; simp only [signOff]; rw [hz0, if_neg h45]
      have j0 : ((s.size : Int) == 0) = false := by rw [beq_eq_false_iff_ne]; omega
      have j1 : ¬ (s.size : Int) < 1 := by omega
      have i5 : ¬ (s.size : Int) < (s.size : Int) := by omega
      clear hc
      go_enter Tryd.func198, Tryd.ntmps198
      have HXL := Lib.hid (show (strB s).length = s.size from strB_len s)
      by_cases h18 : s.size ≤ 18
      · go_wp2_with fail
        go_loopw [5, 6] (fun nn ii wr => ∃ k : Nat, k ≤ s.size ∧ ii = .int .i64 k ∧ nn = .int .i64 (foldD ((strB s).take k) : Int) ∧ ((strB s).take k).all isD = true ∧ w = wr) (fun _ i _ => s.size - (intOf i).toNat)
        case atStart => exact ⟨0, Nat.zero_le _, rfl, rfl, rfl, rfl⟩
        case round =>
          obtain ⟨k, hk, rfl, rfl, hall, rfl⟩ := hrel
          have hbd := foldD_bd _ hall
          rw [List.length_take] at hbd
          have hp : 10 ^ (min k (strB s).length) ≤ 10 ^ 18 := Nat.pow_le_pow_right (by omega) (by have := HXL.out; omega)
          have HA := Lib.hid hall
          obtain ⟨N, hN⟩ : ∃ N, foldD ((strB s).take k) = N := ⟨_, rfl⟩
          have HN := Lib.hid hN
          have hN2 : N < 1000000000000000000 := by rw [← hN]; exact Nat.lt_of_lt_of_le hbd (Nat.le_trans hp (by decide))
          have HB := Lib.hid (show N < 10 ^ (min k (strB s).length) by rw [← hN]; exact hbd)
          rw [hN]
          clear hall hbd hp hN
          by_cases hkn : k < s.size
          · obtain ⟨q, hq⟩ : ∃ q : UInt8, s[k] = q := ⟨_, rfl⟩
            obtain ⟨z, hz⟩ : ∃ z : Nat, q.toNat = z := ⟨_, rfl⟩
            have hz2 : z < 256 := by rw [← hz]; exact q.toNat_lt
            have hkl : k < (strB s).length := by rw [HXL.out]; exact hkn
            have hg : (strB s)[k] = q := by rw [← hq, strB_get s hkn]
            have HT := Lib.hid (all_take hkl)
            have HF := Lib.hid (List.take_succ_eq_append_getElem hkl)
            have HNOT := Lib.hid (fun (h1 : isD (strB s)[k] = false) => all_not (p := isD) hkl h1)
            rw [hg] at HT HF HNOT
            have i0 : (0 : Int) ≤ (k : Int) := by omega
            have i1 : (k : Int) < (s.size : Int) := by omega
            have HZ := Lib.hid hz
            have hN3 : N < 100000000000000000 := Nat.lt_of_lt_of_le HB.out (Nat.le_trans (Nat.pow_le_pow_right (n := 10) (by omega) (show min k (strB s).length ≤ 17 by omega)) (by decide))
            rcases hd : isD q with _ | _
            · have HU := Lib.hid (rd_none (bs := strB s) (rdDec_all (by rw [← HXB.out]; exact HNOT.out hd)))
              have KD := Lib.hid (fun W => calls_val (l01Digit_any z q hz W) (congrArg Value.bool hd))
              clear hd hg
              go_wp2_with (go_at_call 213; refine (KD.out _).mono ?_; rintro e w' ⟨rfl, rfl⟩)
              go_ret2
              exact ⟨by rw [HU.out.1, HU.out.2] <;> rfl, Below.refl _ _⟩
            · have KD := Lib.hid (fun W => calls_val (l01Digit_any z q hz W) (congrArg Value.bool hd))
              have hz3 := of_decide_eq_true (show decide (48 ≤ q.toNat ∧ q.toNat ≤ 57) = true from hd)
              rw [hz] at hz3
              have y1 : IntKind.u8.wrap ((z : Int) - 48) = (z : Int) - 48 := wrapB (by omega)
              have y2 : wrap64 (10 * (N : Int)) = 10 * (N : Int) := wrap64_of (by omega)
              have y3 : wrap64 (10 * (N : Int) + ((z : Int) - 48)) = 10 * (N : Int) + ((z : Int) - 48) := wrap64_of (by omega)
              have HD := Lib.hid hd
              clear hd hg
              go_wp2_with (go_at_call 213; refine (KD.out _).mono ?_; rintro e w' ⟨rfl, rfl⟩)
              go_roundw
              case rel => exact ⟨k + 1, by omega, by go_num, by rw [HF.out, foldD_snoc, HN.out, HZ.out]; congr 1; omega, by rw [HT.out, HA.out, HD.out]; rfl, by first | rfl | trivial⟩
              case measure => simp [intOf]; omega
          · have HK : Hid ((strB s).take k = strB s) := List.take_of_length_le (by have := HXL.out; omega)
            have HFN : Hid (foldD (signOff (strB s)) = N) := by simp only [Hid]; rw [← HXB.out, ← HK.out]; exact HN.out
            have HAL : Hid ((signOff (strB s)).all isD = true) := by simp only [Hid]; rw [← HXB.out, ← HK.out]; exact HA.out
            have HLE : Hid (1 ≤ (signOff (strB s)).length ∧ (signOff (strB s)).length ≤ 18) := by simp only [Hid]; rw [← HXB.out, HXL.out]; omega
            have HSL := Lib.hid (strB_len s)
            obtain ⟨v, hv⟩ : ∃ v, v = (N : Int) := ⟨_, rfl⟩; have hvb : -9223372036854775808 ≤ v ∧ v ≤ 9223372036854775807 := (by omega); have HNU : Hid (numOf (strB s) = v) := (by simp only [Hid, numOf]; rw [HFN.out, hv, if_neg (by rw [← HXB.out]; omega)]); have hv' := hv.symm; clear hv
            have HRD : Hid (rdDec (strB s) = if decide (dec v = strB s) then some v else none) := by
              simp only [Hid, rdDec]; rw [HAL.out, decide_eq_true HLE.out, HNU.out]; simp
            have i9 : ¬ (k : Int) < (s.size : Int) := by omega
            rcases hq : (dec v == s.toList) with _ | _
            · have HU := Lib.hid (rd_none (bs := strB s) (by rw [HRD.out]; rw [strB_toList, beq_eq_false_iff_ne] at hq; simp [hq]))
              go_wp2_with fail
              refine (l01Dec_any v w hvb.1 hvb.2).mono ?_; rintro e w' ⟨rfl, hwd⟩
              go_wp2_with fail
              go_ret2
              exact ⟨by rw [HU.out.1, HU.out.2] <;> rfl, hwd⟩
            · have HU := Lib.hid (rd_some (bs := strB s) (n := v) (by rw [HRD.out]; rw [strB_toList, beq_iff_eq] at hq; simp [hq]))
              go_wp2_with fail
              refine (l01Dec_any v w hvb.1 hvb.2).mono ?_; rintro e w' ⟨rfl, hwd⟩
              go_wp2_with fail
              go_ret2
              exact ⟨by rw [HU.out.1, HU.out.2] <;> rfl, hwd⟩
      · have HU := Lib.hid (rd_none (bs := strB s) (rdDec_len (by rw [← HXB.out, HXL.out]; omega)))
        have i3 : (18 : Int) < (s.size : Int) := by omega
        go_wp2_with fail
        go_ret2
        exact ⟨by rw [HU.out.1, HU.out.2] <;> rfl, Below.refl _ _⟩
  · obtain rfl := size_zero (show s.size = 0 by omega)
    have HU := Lib.hid (rd_none (bs := strB ⟨#[]⟩) (by rfl))
    go_enter Tryd.func198, Tryd.ntmps198
    go_wp2_with fail
    go_ret2
    exact ⟨by rw [HU.out.1, HU.out.2] <;> rfl, Below.refl _ _⟩
set_option maxRecDepth 100000 in
set_option maxHeartbeats 1600000 in
theorem ReadDecimal_any (s : ByteArray) (w : World) (hs : s.size ≤ 9223372036854775807)(ht : TB w) :
    Calls Tryd.prog 204 #[.string s] w fun e w' => e = .returned (.tuple #[.int .i64 (rdN (strB s)), .bool (rdDec (strB s)).isSome]) ∧ Below w.heap.size w w' := by
  by_cases h0 : 0 < s.size
  · have hE := str_nonempty h0
    have hc := strB_cons h0
    obtain ⟨b, hb⟩ : ∃ b, s[0] = b := ⟨_, rfl⟩
    rw [hb] at hc
    obtain ⟨z0, hz0⟩ : ∃ z : Nat, b.toNat = z := ⟨_, rfl⟩
    have i0 : (0 : Int) < (s.size : Int) := by omega
    by_cases h45 : z0 = 45
    · have i2 : ((z0 : Int) == 45) = true := by rw [beq_iff_eq]; omega
      obtain ⟨x, hx⟩ : ∃ x, s.extract 1 s.size = x := ⟨_, rfl⟩
      have HXB : Hid (strB x = signOff (strB s)) := by
        simp only [Hid]; rw [← hx, strB_tail, hc]; simp only [signOff]; rw [hz0, if_pos h45]; rfl
      have hxs : x.size = s.size - 1 := by rw [← hx, extract_size]
      have HC := Lib.hid hc
      have i1 : (1 : Int) ≤ (s.size : Int) := by omega
      have i5 : (x.size : Int) < (s.size : Int) := by omega
      by_cases hx0 : 0 < x.size
      · have j0 : ((x.size : Int) == 0) = false := by rw [beq_eq_false_iff_ne]; omega
        have j1 : ¬ (x.size : Int) < 1 := by omega
        have HX := Lib.hid hx
        clear hc hxs
        go_enter Tryd.func204, Tryd.ntmps204
        have HXL := Lib.hid (show (strB x).length = x.size from strB_len x)
        by_cases h18 : x.size ≤ 18
        · go_wp2_with fail
          go_loopw [5, 28] (fun nn ii wr => ∃ k : Nat, k ≤ x.size ∧ ii = .int .i64 k ∧ nn = .int .i64 (foldD ((strB x).take k) : Int) ∧ ((strB x).take k).all isD = true ∧ w = wr) (fun _ i _ => x.size - (intOf i).toNat)
          case atStart => exact ⟨0, Nat.zero_le _, rfl, rfl, rfl, rfl⟩
          case round =>
            obtain ⟨k, hk, rfl, rfl, hall, rfl⟩ := hrel
            have hbd := foldD_bd _ hall
            rw [List.length_take] at hbd
            have hp : 10 ^ (min k (strB x).length) ≤ 10 ^ 18 := Nat.pow_le_pow_right (by omega) (by have := HXL.out; omega)
            have HA := Lib.hid hall
            obtain ⟨N, hN⟩ : ∃ N, foldD ((strB x).take k) = N := ⟨_, rfl⟩
            have HN := Lib.hid hN
            have hN2 : N < 1000000000000000000 := by rw [← hN]; exact Nat.lt_of_lt_of_le hbd (Nat.le_trans hp (by decide))
            have HB := Lib.hid (show N < 10 ^ (min k (strB x).length) by rw [← hN]; exact hbd)
            rw [hN]
            clear hall hbd hp hN
            by_cases hkn : k < x.size
            · obtain ⟨q, hq⟩ : ∃ q : UInt8, x[k] = q := ⟨_, rfl⟩
              obtain ⟨z, hz⟩ : ∃ z : Nat, q.toNat = z := ⟨_, rfl⟩
              have hz2 : z < 256 := by rw [← hz]; exact q.toNat_lt
              have hkl : k < (strB x).length := by rw [HXL.out]; exact hkn
              have hg : (strB x)[k] = q := by rw [← hq, strB_get x hkn]
              have HT := Lib.hid (all_take hkl)
              have HF := Lib.hid (List.take_succ_eq_append_getElem hkl)
              have HNOT := Lib.hid (fun (h1 : isD (strB x)[k] = false) => all_not (p := isD) hkl h1)
              rw [hg] at HT HF HNOT
              have i0 : (0 : Int) ≤ (k : Int) := by omega
              have i1 : (k : Int) < (x.size : Int) := by omega
              have HZ := Lib.hid hz
              have hN3 : N < 100000000000000000 := Nat.lt_of_lt_of_le HB.out (Nat.le_trans (Nat.pow_le_pow_right (n := 10) (by omega) (show min k (strB x).length ≤ 17 by omega)) (by decide))
              rcases hd : isD q with _ | _
              · have HU := Lib.hid (rd_none (bs := strB s) (rdDec_all (by rw [← HXB.out]; exact HNOT.out hd)))
                have KD := Lib.hid (fun W => calls_val (isDigit_any z q hz W) (congrArg Value.bool hd))
                clear hd hg
                go_wp2_with (go_at_call 220; refine (KD.out _).mono ?_; rintro e w' ⟨rfl, rfl⟩)
                go_ret2
                exact ⟨by rw [HU.out.1, HU.out.2] <;> rfl, Below.refl _ _⟩
              · have KD := Lib.hid (fun W => calls_val (isDigit_any z q hz W) (congrArg Value.bool hd))
                have hz3 := of_decide_eq_true (show decide (48 ≤ q.toNat ∧ q.toNat ≤ 57) = true from hd)
                rw [hz] at hz3
                have y1 : IntKind.u8.wrap ((z : Int) - 48) = (z : Int) - 48 := wrapB (by omega)
                have y2 : wrap64 (10 * (N : Int)) = 10 * (N : Int) := wrap64_of (by omega)
                have y3 : wrap64 (10 * (N : Int) + ((z : Int) - 48)) = 10 * (N : Int) + ((z : Int) - 48) := wrap64_of (by omega)
                have HD := Lib.hid hd
                clear hd hg
                go_wp2_with (go_at_call 220; refine (KD.out _).mono ?_; rintro e w' ⟨rfl, rfl⟩)
                go_roundw
                case rel => exact ⟨k + 1, by omega, by go_num, by rw [HF.out, foldD_snoc, HN.out, HZ.out]; congr 1; omega, by rw [HT.out, HA.out, HD.out]; rfl, by first | rfl | trivial⟩
                case measure => simp [intOf]; omega
            · have HK : Hid ((strB x).take k = strB x) := List.take_of_length_le (by have := HXL.out; omega)
              have HFN : Hid (foldD (signOff (strB s)) = N) := by simp only [Hid]; rw [← HXB.out, ← HK.out]; exact HN.out
              have HAL : Hid ((signOff (strB s)).all isD = true) := by simp only [Hid]; rw [← HXB.out, ← HK.out]; exact HA.out
              have HLE : Hid (1 ≤ (signOff (strB s)).length ∧ (signOff (strB s)).length ≤ 18) := by simp only [Hid]; rw [← HXB.out, HXL.out]; omega
              have HSL := Lib.hid (strB_len s)
              obtain ⟨v, hv⟩ : ∃ v, v = -(N : Int) := ⟨_, rfl⟩; have hvb : -9223372036854775808 ≤ v ∧ v ≤ 9223372036854775807 := (by omega); have HNU : Hid (numOf (strB s) = v) := (by simp only [Hid, numOf]; rw [HFN.out, hv, if_pos (by rw [← HXB.out, HXL.out, HSL.out]; omega)]); rw [show (0 : Int) = 0 from rfl]; have hv' := hv.symm; clear hv
              have HRD : Hid (rdDec (strB s) = if decide (dec v = strB s) then some v else none) := by
                simp only [Hid, rdDec]; rw [HAL.out, decide_eq_true HLE.out, HNU.out]; simp
              have i9 : ¬ (k : Int) < (x.size : Int) := by omega
              rcases hq : (dec v == s.toList) with _ | _
              · have HU := Lib.hid (rd_none (bs := strB s) (by rw [HRD.out]; rw [strB_toList, beq_eq_false_iff_ne] at hq; simp [hq]))
                go_wp2_with fail
                refine (Decimal_any v w hvb.1 hvb.2 ht).mono ?_; rintro e w' ⟨rfl, hwd⟩
                go_wp2_with fail
                go_ret2
                exact ⟨by rw [HU.out.1, HU.out.2] <;> rfl, hwd⟩
              · have HU := Lib.hid (rd_some (bs := strB s) (n := v) (by rw [HRD.out]; rw [strB_toList, beq_iff_eq] at hq; simp [hq]))
                go_wp2_with fail
                refine (Decimal_any v w hvb.1 hvb.2 ht).mono ?_; rintro e w' ⟨rfl, hwd⟩
                go_wp2_with fail
                go_ret2
                exact ⟨by rw [HU.out.1, HU.out.2] <;> rfl, hwd⟩
        · have HU := Lib.hid (rd_none (bs := strB s) (rdDec_len (by rw [← HXB.out, HXL.out]; omega)))
          have i3 : (18 : Int) < (x.size : Int) := by omega
          go_wp2_with fail
          go_ret2
          exact ⟨by rw [HU.out.1, HU.out.2] <;> rfl, Below.refl _ _⟩
      · have HU := Lib.hid (rd_none (bs := strB s) (rdDec_len (by rw [← HXB.out, strB_len]; omega)))
        have hxz := size_zero (show x.size = 0 by omega)
        subst hxz
        clear hc
        go_enter Tryd.func204, Tryd.ntmps204
        go_wp2_with fail
        go_ret2
        exact ⟨by rw [HU.out.1, HU.out.2] <;> rfl, Below.refl _ _⟩
    · have i2 : ((z0 : Int) == 45) = false := by rw [beq_eq_false_iff_ne]; omega
      have HXB : Hid (strB s = signOff (strB s)) := by
        simp only [Hid]; rw [hc]; simp only [signOff]; rw [hz0, if_neg h45]
      have j0 : ((s.size : Int) == 0) = false := by rw [beq_eq_false_iff_ne]; omega
      have j1 : ¬ (s.size : Int) < 1 := by omega
      have i5 : ¬ (s.size : Int) < (s.size : Int) := by omega
      clear hc
      go_enter Tryd.func204, Tryd.ntmps204
      have HXL := Lib.hid (show (strB s).length = s.size from strB_len s)
      by_cases h18 : s.size ≤ 18
      · go_wp2_with fail
        go_loopw [5, 28] (fun nn ii wr => ∃ k : Nat, k ≤ s.size ∧ ii = .int .i64 k ∧ nn = .int .i64 (foldD ((strB s).take k) : Int) ∧ ((strB s).take k).all isD = true ∧ w = wr) (fun _ i _ => s.size - (intOf i).toNat)
        case atStart => exact ⟨0, Nat.zero_le _, rfl, rfl, rfl, rfl⟩
        case round =>
          obtain ⟨k, hk, rfl, rfl, hall, rfl⟩ := hrel
          have hbd := foldD_bd _ hall
          rw [List.length_take] at hbd
          have hp : 10 ^ (min k (strB s).length) ≤ 10 ^ 18 := Nat.pow_le_pow_right (by omega) (by have := HXL.out; omega)
          have HA := Lib.hid hall
          obtain ⟨N, hN⟩ : ∃ N, foldD ((strB s).take k) = N := ⟨_, rfl⟩
          have HN := Lib.hid hN
          have hN2 : N < 1000000000000000000 := by rw [← hN]; exact Nat.lt_of_lt_of_le hbd (Nat.le_trans hp (by decide))
          have HB := Lib.hid (show N < 10 ^ (min k (strB s).length) by rw [← hN]; exact hbd)
          rw [hN]
          clear hall hbd hp hN
          by_cases hkn : k < s.size
          · obtain ⟨q, hq⟩ : ∃ q : UInt8, s[k] = q := ⟨_, rfl⟩
            obtain ⟨z, hz⟩ : ∃ z : Nat, q.toNat = z := ⟨_, rfl⟩
            have hz2 : z < 256 := by rw [← hz]; exact q.toNat_lt
            have hkl : k < (strB s).length := by rw [HXL.out]; exact hkn
            have hg : (strB s)[k] = q := by rw [← hq, strB_get s hkn]
            have HT := Lib.hid (all_take hkl)
            have HF := Lib.hid (List.take_succ_eq_append_getElem hkl)
            have HNOT := Lib.hid (fun (h1 : isD (strB s)[k] = false) => all_not (p := isD) hkl h1)
            rw [hg] at HT HF HNOT
            have i0 : (0 : Int) ≤ (k : Int) := by omega
            have i1 : (k : Int) < (s.size : Int) := by omega
            have HZ := Lib.hid hz
            have hN3 : N < 100000000000000000 := Nat.lt_of_lt_of_le HB.out (Nat.le_trans (Nat.pow_le_pow_right (n := 10) (by omega) (show min k (strB s).length ≤ 17 by omega)) (by decide))
            rcases hd : isD q with _ | _
            · have HU := Lib.hid (rd_none (bs := strB s) (rdDec_all (by rw [← HXB.out]; exact HNOT.out hd)))
              have KD := Lib.hid (fun W => calls_val (isDigit_any z q hz W) (congrArg Value.bool hd))
              clear hd hg
              go_wp2_with (go_at_call 220; refine (KD.out _).mono ?_; rintro e w' ⟨rfl, rfl⟩)
              go_ret2
              exact ⟨by rw [HU.out.1, HU.out.2] <;> rfl, Below.refl _ _⟩
            · have KD := Lib.hid (fun W => calls_val (isDigit_any z q hz W) (congrArg Value.bool hd))
              have hz3 := of_decide_eq_true (show decide (48 ≤ q.toNat ∧ q.toNat ≤ 57) = true from hd)
              rw [hz] at hz3
              have y1 : IntKind.u8.wrap ((z : Int) - 48) = (z : Int) - 48 := wrapB (by omega)
              have y2 : wrap64 (10 * (N : Int)) = 10 * (N : Int) := wrap64_of (by omega)
              have y3 : wrap64 (10 * (N : Int) + ((z : Int) - 48)) = 10 * (N : Int) + ((z : Int) - 48) := wrap64_of (by omega)
              have HD := Lib.hid hd
              clear hd hg
              go_wp2_with (go_at_call 220; refine (KD.out _).mono ?_; rintro e w' ⟨rfl, rfl⟩)
              go_roundw
              case rel => exact ⟨k + 1, by omega, by go_num, by rw [HF.out, foldD_snoc, HN.out, HZ.out]; congr 1; omega, by rw [HT.out, HA.out, HD.out]; rfl, by first | rfl | trivial⟩
              case measure => simp [intOf]; omega
          · have HK : Hid ((strB s).take k = strB s) := List.take_of_length_le (by have := HXL.out; omega)
            have HFN : Hid (foldD (signOff (strB s)) = N) := by simp only [Hid]; rw [← HXB.out, ← HK.out]; exact HN.out
            have HAL : Hid ((signOff (strB s)).all isD = true) := by simp only [Hid]; rw [← HXB.out, ← HK.out]; exact HA.out
            have HLE : Hid (1 ≤ (signOff (strB s)).length ∧ (signOff (strB s)).length ≤ 18) := by simp only [Hid]; rw [← HXB.out, HXL.out]; omega
            have HSL := Lib.hid (strB_len s)
            obtain ⟨v, hv⟩ : ∃ v, v = (N : Int) := ⟨_, rfl⟩; have hvb : -9223372036854775808 ≤ v ∧ v ≤ 9223372036854775807 := (by omega); have HNU : Hid (numOf (strB s) = v) := (by simp only [Hid, numOf]; rw [HFN.out, hv, if_neg (by rw [← HXB.out]; omega)]); have hv' := hv.symm; clear hv
            have HRD : Hid (rdDec (strB s) = if decide (dec v = strB s) then some v else none) := by
              simp only [Hid, rdDec]; rw [HAL.out, decide_eq_true HLE.out, HNU.out]; simp
            have i9 : ¬ (k : Int) < (s.size : Int) := by omega
            rcases hq : (dec v == s.toList) with _ | _
            · have HU := Lib.hid (rd_none (bs := strB s) (by rw [HRD.out]; rw [strB_toList, beq_eq_false_iff_ne] at hq; simp [hq]))
              go_wp2_with fail
              refine (Decimal_any v w hvb.1 hvb.2 ht).mono ?_; rintro e w' ⟨rfl, hwd⟩
              go_wp2_with fail
              go_ret2
              exact ⟨by rw [HU.out.1, HU.out.2] <;> rfl, hwd⟩
            · have HU := Lib.hid (rd_some (bs := strB s) (n := v) (by rw [HRD.out]; rw [strB_toList, beq_iff_eq] at hq; simp [hq]))
              go_wp2_with fail
              refine (Decimal_any v w hvb.1 hvb.2 ht).mono ?_; rintro e w' ⟨rfl, hwd⟩
              go_wp2_with fail
              go_ret2
              exact ⟨by rw [HU.out.1, HU.out.2] <;> rfl, hwd⟩
      · have HU := Lib.hid (rd_none (bs := strB s) (rdDec_len (by rw [← HXB.out, HXL.out]; omega)))
        have i3 : (18 : Int) < (s.size : Int) := by omega
        go_wp2_with fail
        go_ret2
        exact ⟨by rw [HU.out.1, HU.out.2] <;> rfl, Below.refl _ _⟩
  · obtain rfl := size_zero (show s.size = 0 by omega)
    have HU := Lib.hid (rd_none (bs := strB ⟨#[]⟩) (by rfl))
    go_enter Tryd.func204, Tryd.ntmps204
    go_wp2_with fail
    go_ret2
    exact ⟨by rw [HU.out.1, HU.out.2] <;> rfl, Below.refl _ _⟩
end Go.Proofs.YtlhcilmnfmglfaaDoor

namespace Go.Proofs.YtlhcilmnfmglfaaDoor
open Go.RowKit Go.Sort
def digV (c : UInt8) : Int := if 48 ≤ c.toNat ∧ c.toNat ≤ 57 then (c.toNat : Int) - 48 else if 97 ≤ c.toNat ∧ c.toNat ≤ 102 then (c.toNat : Int) - 87 else -1
def rdR (bs : List UInt8) : Option Reg := (cutB [58] bs).bind fun q => (rdDec q.1).bind fun n => if vreg n (q.2.reverse.map digV) then some ⟨n, q.2.reverse.map digV⟩ else none
theorem cutB_mem (k : UInt8) : ∀ (bs x y : List UInt8), cutB [k] bs = some (x, y) → bs = x ++ k :: y ∧ k ∉ x
  | [], _, _, h => by cases h
  | b :: tl, x, y, h => by
    simp only [cutB] at h
    split at h
    · rename_i h1
      injection h with h
      injection h with h2 h3
      rw [prefix_iff] at h1
      have h4 := of_decide_eq_true h1
      have : b = k := by simpa using h4
      subst this
      rw [← h2, ← h3]; simp
    · rename_i h1
      obtain ⟨q, hq, h2⟩ := Option.map_eq_some_iff.1 h
      injection h2 with h3 h4
      obtain ⟨h5, h6⟩ := cutB_mem k tl q.1 q.2 hq
      rw [← h3, ← h4]
      refine ⟨by rw [List.cons_append, ← h5], ?_⟩
      intro hm
      rcases List.mem_cons.1 hm with h7 | h7
      · apply h1; subst h7; rw [prefix_iff]; simp
      · exact h6 h7
theorem cutB_of (k : UInt8) (y : List UInt8) : ∀ x : List UInt8, k ∉ x → cutB [k] (x ++ k :: y) = some (x, y)
  | [], _ => by
    rw [List.nil_append]; simp only [cutB]
    rw [prefix_iff]; simp
  | b :: x, h => by
    rw [List.cons_append]; simp only [cutB]
    have h1 : ¬ (([k] : List UInt8).isPrefixOf (b :: (x ++ k :: y)) = true) := by
      rw [prefix_iff]; simp
      intro h2; exact h (by rw [h2]; simp)
    rw [if_neg h1, cutB_of k y x (fun h2 => h (List.mem_cons_of_mem _ h2))]; rfl
theorem cutB_none (k : UInt8) : ∀ bs : List UInt8, cutB [k] bs = none → k ∉ bs
  | [], _ => by simp
  | b :: tl, h => by
    simp only [cutB] at h
    split at h
    · cases h
    · rename_i h1
      have h2 := cutB_none k tl (by simpa using h)
      intro h3
      rcases List.mem_cons.1 h3 with h4 | h4
      · apply h1; subst h4; rw [prefix_iff]; simp
      · exact h2 h4
theorem splitB_none (k : UInt8) : ∀ bs : List UInt8, k ∉ bs → splitB k.toNat bs = [bs]
  | [], _ => rfl
  | b :: tl, h => by
    rw [splitB_cons, if_neg (fun h1 => h (by rw [← UInt8.toNat_inj.1 h1]; simp)), splitB_none k tl (fun h1 => h (List.mem_cons_of_mem _ h1))]; rfl
theorem splitB_at (k : UInt8) (y : List UInt8) : ∀ x : List UInt8, k ∉ x → splitB k.toNat (x ++ k :: y) = x :: splitB k.toNat y
  | [], _ => by rw [List.nil_append, splitB_cons, if_pos rfl]
  | b :: x, h => by
    rw [List.cons_append, splitB_cons, if_neg (fun h1 => h (by rw [← UInt8.toNat_inj.1 h1]; simp)), splitB_at k y x (fun h1 => h (List.mem_cons_of_mem _ h1))]; rfl
theorem digV_bad : digV 58 = -1 := by decide
theorem vreg_mem {b : Int} {ds : List Int} {d : Int} (h : d ∈ ds) (hd : d < 0) : vreg b ds = false := by
  rcases hv : vreg b ds with _ | _
  · rfl
  · have := (vreg_iff.1 hv).2.2.1 d h; omega
/-- the parts that the reference reads: two, the second one short -/
theorem rdR_spec (bs : List UInt8) : rdR bs = match splitB 58 bs with
    | [x, y] => if y.length ≤ 16 then (rdDec x).bind fun n => if vreg n (y.reverse.map digV) then some ⟨n, y.reverse.map digV⟩ else none else none
    | _ => none := by
  unfold rdR
  have e58 : (58 : UInt8).toNat = 58 := rfl
  cases h : cutB [58] bs with
  | none =>
    have h2 := splitB_none 58 bs (cutB_none 58 bs h)
    rw [e58] at h2
    rw [h2]; rfl
  | some q =>
    obtain ⟨x, y⟩ := q
    obtain ⟨h1, h2⟩ := cutB_mem 58 bs x y h
    have h3 := splitB_at 58 y x h2
    rw [← h1, e58] at h3
    rw [h3]
    simp only [Option.bind_some]
    by_cases hy : (58 : UInt8) ∈ y
    · have hv : ∀ n, vreg n (y.reverse.map digV) = false := fun n => vreg_mem (d := -1) (List.mem_map.2 ⟨58, by simpa using hy, digV_bad⟩) (by omega)
      have hl : ∀ z, splitB 58 y ≠ [z] := by
        intro z hz
        cases h4 : cutB [58] y with
        | none => exact cutB_none 58 y h4 hy
        | some q =>
          obtain ⟨a, b⟩ := q
          obtain ⟨h5, h6⟩ := cutB_mem 58 y a b h4
          have h7 := splitB_at 58 b a h6
          rw [← h5, e58, hz] at h7
          injection h7 with _ h7
          exact splitB_ne 58 b h7.symm
      have e1 : ((rdDec x).bind fun n => if vreg n (y.reverse.map digV) then some (⟨n, y.reverse.map digV⟩ : Reg) else none) = none := by
        cases rdDec x with
        | none => rfl
        | some n => simp only [Option.bind_some]; rw [hv n]; rfl
      rw [e1]
      cases hs : splitB 58 y with
      | nil => rfl
      | cons a t =>
        cases t with
        | nil => exact absurd hs (hl a)
        | cons b t => rfl
    · have h4 := splitB_none 58 y hy
      rw [e58] at h4
      rw [h4]
      simp only []
      by_cases h16 : y.length ≤ 16
      · rw [if_pos h16]
      · rw [if_neg h16]
        cases rdDec x with
        | none => rfl
        | some n =>
          simp only [Option.bind_some]
          have : vreg n (y.reverse.map digV) = false := by
            rcases hv : vreg n (y.reverse.map digV) with _ | _
            · rfl
            · have := (vreg_iff.1 hv).2.1; simp at this; omega
          rw [this]; rfl
def rdReg (bs : List UInt8) : Reg := (rdR bs).getD ⟨0, []⟩
theorem rdr_none {bs : List UInt8} (h : rdR bs = none) : rdReg bs = ⟨0, []⟩ ∧ (rdR bs).isSome = false := by simp [rdReg, h]
theorem rdr_some {bs : List UInt8} {r : Reg} (h : rdR bs = some r) : rdReg bs = r ∧ (rdR bs).isSome = true := by simp [rdReg, h]
theorem l02Digit_any (z : Nat) (c : UInt8) (hc : c.toNat = z) (w : World) : Calls Tryd.prog 212 #[.int .u8 (z : Int)] w fun e w' => e = .returned (.int .i64 (digV c)) ∧ w = w' := by
  have hz : z < 256 := by rw [← hc]; exact c.toNat_lt
  have HV := Lib.hid (show digV c = if 48 ≤ z ∧ z ≤ 57 then (z : Int) - 48 else if 97 ≤ z ∧ z ≤ 102 then (z : Int) - 87 else -1 by unfold digV; rw [hc])
  by_cases h1 : 48 ≤ z ∧ z ≤ 57
  · have HV2 := Lib.hid (show digV c = (z : Int) - 48 by rw [HV.out, if_pos h1])
    have i1 : (48 : Int) ≤ (z : Int) := by omega
    have i2 : (z : Int) ≤ 57 := by omega
    have y1 : IntKind.u8.wrap ((z : Int) - 48) = (z : Int) - 48 := wrapB (by omega)
    clear h1
    go_enter Tryd.func212, Tryd.ntmps212
    go_wp2_with fail
    go_ret
    exact ⟨ret_int HV2.out.symm, rfl⟩
  · by_cases h2 : 97 ≤ z ∧ z ≤ 102
    · have HV2 := Lib.hid (show digV c = (z : Int) - 97 + 10 by rw [HV.out, if_neg h1, if_pos h2]; omega)
      have i1 : (48 : Int) ≤ (z : Int) := by omega
      have i2 : ¬ (z : Int) ≤ 57 := by omega
      have i3 : (97 : Int) ≤ (z : Int) := by omega
      have i4 : (z : Int) ≤ 102 := by omega
      have y1 : IntKind.u8.wrap ((z : Int) - 97) = (z : Int) - 97 := wrapB (by omega)
      clear h1 h2
      go_enter Tryd.func212, Tryd.ntmps212
      go_wp2_with fail
      go_ret
      exact ⟨ret_int HV2.out.symm, rfl⟩
    · have HV2 := Lib.hid (show digV c = -1 by rw [HV.out, if_neg h1, if_neg h2])
      by_cases g1 : 48 ≤ z
      · have i1 : (48 : Int) ≤ (z : Int) := by omega
        have i2 : ¬ (z : Int) ≤ 57 := by omega
        by_cases g2 : 97 ≤ z
        · have i3 : (97 : Int) ≤ (z : Int) := by omega
          have i4 : ¬ (z : Int) ≤ 102 := by omega
          clear h1 h2
          go_enter Tryd.func212, Tryd.ntmps212
          go_wp2_with fail
          go_ret
          exact ⟨ret_int HV2.out.symm, rfl⟩
        · have i3 : ¬ (97 : Int) ≤ (z : Int) := by omega
          clear h1 h2
          go_enter Tryd.func212, Tryd.ntmps212
          go_wp2_with fail
          go_ret
          exact ⟨ret_int HV2.out.symm, rfl⟩
      · have i1 : ¬ (48 : Int) ≤ (z : Int) := by omega
        have i3 : ¬ (97 : Int) ≤ (z : Int) := by omega
        clear h1 h2
        go_enter Tryd.func212, Tryd.ntmps212
        go_wp2_with fail
        go_ret
        exact ⟨ret_int HV2.out.symm, rfl⟩
end Go.Proofs.YtlhcilmnfmglfaaDoor

namespace Go.Proofs.YtlhcilmnfmglfaaDoor
open Go.RowKit Go.Sort
theorem Kn.rowS_get {w0 w : World} {m : List Ent} {g n c : Nat} {ss : List ByteArray} (h : Kn w0 (rowS (.slice (some ⟨g, 0, none⟩) n c) ss :: m) w) {k : Nat} (hk : k < ss.length) : w.cell? ⟨g, k, none⟩ = some (.string ss[k]) := by
  obtain ⟨-, g', e, hc, -⟩ := h.rowS_at hk
  injection e with e
  injection e with e
  subst e; exact hc
def dtx : ByteArray := ⟨#[48, 49, 50, 51, 52, 53, 54, 55, 56, 57, 97, 98, 99, 100, 101, 102]⟩
/-- the last place among the first d characters of digits that a byte has -/
def lastAt (c : Nat) (d : Nat) : Int := (List.range d).foldl (fun a j => if (dtx.data.getD j 0).toNat = c then (j : Int) else a) (-1)
theorem lastAt_succ (c d : Nat) : lastAt c (d + 1) = if (dtx.data.getD d 0).toNat = c then (d : Int) else lastAt c d := by
  unfold lastAt; rw [List.range_succ, List.foldl_append]; rfl
theorem lastAt_all : ∀ c, c < 256 → lastAt c 16 = digV (UInt8.ofNat c) := by decide +kernel
theorem dtx_get (d : Nat) (h : d < 16) : dtx[d]? = some (dtx.data.getD d 0) := by
  have : ∀ d, d < 16 → dtx[d]? = some (dtx.data.getD d 0) := by decide
  exact this d h
theorem splitB_each (k : Nat) : ∀ (bs : List UInt8), ∀ x ∈ splitB k bs, x.length ≤ bs.length
  | [], x, h => by simp [splitB] at h; subst h; simp
  | b :: tl, x, h => by
    rw [splitB_cons] at h
    split at h
    · rcases List.mem_cons.1 h with rfl | h
      · simp
      · have := splitB_each k tl x h; rw [List.length_cons]; omega
    · cases h2 : splitB k tl with
      | nil => exact absurd h2 (splitB_ne k tl)
      | cons a t =>
        have h3 := fun y hy => splitB_each k tl y (by rw [h2]; exact hy)
        rw [h2] at h
        simp only [glue] at h
        rcases List.mem_cons.1 h with rfl | h
        · have := h3 a (List.mem_cons_self ..); simp; omega
        · have := h3 x (List.mem_cons_of_mem _ h); rw [List.length_cons]; omega
set_option maxRecDepth 100000 in
set_option maxHeartbeats 1600000 in
theorem ReadRegister_any (s : ByteArray) (w : World) (hs : s.size ≤ 1048576) (ht : TB w) :
    Calls Tryd.prog 203 #[.string s] w fun e w' => ∃ A c, e = .returned (.tuple #[.agg #[.int .i64 (rdReg (strB s)).base, .slice A (rdReg (strB s)).digits.length c], .bool (rdR (strB s)).isSome]) ∧ Kn w [rowI A c (rdReg (strB s)).digits] w' := by
  have HRD := Lib.hid (show rdR (strB s) = _ from rfl)
  have KC := Lib.hid (fun W => cut_any s ⟨#[58]⟩ W hs (by decide) (by decide))
  have hxl : (cutX [58] (strB s)).length ≤ 1048576 ∧ (cutY [58] (strB s)).length ≤ 1048576 := by
    have hl := strB_len s
    unfold cutX cutY
    cases h : cutB [58] (strB s) with
    | none => simp; omega
    | some q =>
      obtain ⟨x, y⟩ := q
      obtain ⟨h1, -⟩ := cutB_mem 58 _ x y h
      have := congrArg List.length h1
      simp at this ⊢; omega
  have HT := Lib.hid (fun W (hW : Below w.heap.size w W) => TB.below ht hW)
  clear ht
  go_enter Tryd.func203, Tryd.ntmps203
  go_wp2_with fail
  refine Calls.kn ((Kn.nil w).al [.int .i64 0, .slice none 0 0] 33) ?_; intro w1 hK1
  refine (KC.out w1).mono ?_; rintro e w2 ⟨x, y, rfl, hx, hy, hw⟩
  have e58 : strB ⟨#[58]⟩ = [58] := rfl
  rw [e58] at hx hy ⊢
  have hK2 := hK1.keep hw
  have hxs : x.size ≤ 1048576 := by rw [← strB_len, hx]; exact hxl.1
  have hys : y.size ≤ 1048576 := by rw [← strB_len, hy]; exact hxl.2
  have KD := Lib.hid (ReadDecimal_any x w2 (by omega) (HT.out _ hK2.below))
  have HX := Lib.hid hx
  have HY := Lib.hid hy
  clear hw hx hy hK1 hxl e58
  cases hcb : cutB [58] (strB s) with
  | none =>
    have HU := Lib.hid (rdr_none (bs := strB s) (by unfold rdR; rw [hcb]; rfl))
    clear hcb
    go_wp2_with fail
    refine KD.out.mono ?_; rintro e w3 ⟨rfl, hw⟩
    have hK3 := hK2.keep hw
    obtain ⟨d1, d2, d3, -⟩ := hK3.cells
    clear hw
    go_wp2_with fail
    refine bodyPost_ret (v := .tuple #[.agg #[.int .i64 0, .slice none 0 0], .bool false]) (by simp [results, Tryd.results203, go_sem, d1]) rfl ⟨none, 0, by rw [HU.out.1, HU.out.2]; rfl, ?_⟩
    rw [HU.out.1]
    exact ((hK3.st 0 (.int .i64 0)).st 1 (.slice none 0 0)).bare.nilRow _ _
  | some q =>
    obtain ⟨qx, qy⟩ := q
    have HXB : Hid (strB x = qx) := by simp only [Hid]; rw [HX.out, cutX, hcb]; rfl
    have HYB : Hid (strB y = qy) := by simp only [Hid]; rw [HY.out, cutY, hcb]; rfl
    have HRR : Hid (rdR (strB s) = (rdDec qx).bind fun n => if vreg n (qy.reverse.map digV) then some ⟨n, qy.reverse.map digV⟩ else none) := by
      simp only [Hid, rdR]; rw [hcb]; rfl
    have KD := KD.out
    rw [HXB.out] at KD
    clear hcb
    cases hrd : rdDec qx with
    | none =>
      have HU := Lib.hid (rdr_none (bs := strB s) (by rw [HRR.out, hrd]; rfl))
      rw [hrd] at KD
      have KD := Lib.hid KD
      clear hrd
      go_wp2_with fail
      refine KD.out.mono ?_; rintro e w3 ⟨rfl, hw⟩
      have hK3 := hK2.keep hw
      obtain ⟨d1, d2, d3, -⟩ := hK3.cells
      clear hw
      go_wp2_with fail
      refine bodyPost_ret (v := .tuple #[.agg #[.int .i64 0, .slice none 0 0], .bool false]) (by simp [results, Tryd.results203, go_sem, d1]) rfl ⟨none, 0, by rw [HU.out.1, HU.out.2]; rfl, ?_⟩
      rw [HU.out.1]
      exact ((hK3.st 0 (.int .i64 0)).st 1 (.slice none 0 0)).bare.nilRow _ _
    | some n =>
      have HRR := Lib.hid (show rdR (strB s) = if vreg n (qy.reverse.map digV) then some ⟨n, qy.reverse.map digV⟩ else none by rw [HRR.out, hrd]; rfl)
      have hn0 := (rd_some hrd).1
      rw [hn0, hrd] at KD
      have KD := Lib.hid KD
      clear hrd hn0
      rcases hbs : betB n 2 16 with _ | _
      · have HU := Lib.hid (rdr_none (bs := strB s) (by rw [HRR.out]; simp [vreg, hbs]))
        have KB := Lib.hid (fun W => calls_val (isBase_any n W) (congrArg Value.bool hbs))
        clear hbs
        go_wp2_with fail
        refine KD.out.mono ?_; rintro e w3 ⟨rfl, hw⟩
        have hK3 := hK2.keep hw
        obtain ⟨d1, d2, d3, -⟩ := hK3.cells
        clear hw
        go_wp2_with (go_at_call 85; refine (KB.out _).mono ?_; rintro e w' ⟨rfl, rfl⟩)
        refine bodyPost_ret (v := .tuple #[.agg #[.int .i64 0, .slice none 0 0], .bool false]) (by simp [results, Tryd.results203, go_sem, d1]) rfl ⟨none, 0, by rw [HU.out.1, HU.out.2]; rfl, ?_⟩
        rw [HU.out.1]
        exact ((hK3.st 0 (.int .i64 0)).st 1 (.slice none 0 0)).bare.nilRow _ _
      · have KB := Lib.hid (fun W => calls_val (isBase_any n W) (congrArg Value.bool hbs))
        clear hbs
        go_wp2_with fail
        refine KD.out.mono ?_; rintro e w3 ⟨rfl, hw⟩
        have hK3 := hK2.keep hw
        clear hw
        go_wp2_with (first | (go_at_call 85; refine (KB.out _).mono ?_; rintro e w' ⟨rfl, rfl⟩) | (refine wpList.kn (hK3.al [.int .i64 0, .slice none 0 0] 33) ?_; intro w4 hK4; obtain ⟨a1, a2, a3, -⟩ := hK4.cells) | (refine wpList.kn ((hK4.st 0 _).st 1 _) ?_; intro w5 hK5; clear a1 a2 a3))
        have hK6 := hK5.nilRow 2 1
        clear hK3 hK4 hK5 hK2
        go_loopw [10] (fun ii wr => ∃ (k : Nat) (v : Value), k ≤ y.size ∧ ii = .int .i64 ((k : Int) - 1) ∧
          Kn w [.row v 2 1 (((strB y).drop k).reverse.map digV).length ((((strB y).drop k).reverse.map digV).map (Value.int .i64)), .blk w3.heap.size [.int .i64 n, v] 33, .blk w.heap.size [.int .i64 0, .slice none 0 0] 33] wr) (fun i _ => (intOf i + 1).toNat)
        case atStart =>
          refine ⟨y.size, .slice none 0 0, Nat.le_refl _, rfl, ?_⟩
          rw [List.drop_of_length_le (by rw [strB_len]; omega)]
          exact hK6
        case round =>
          obtain ⟨k, v, hk, rfl, hK⟩ := hrel
          obtain ⟨wo, rfl⟩ : ∃ wo : World, wo = wr := ⟨_, rfl⟩
          clear hK6
          obtain ⟨a1, a2, a3, d1, d2, d3, -⟩ := hK.cells
          rcases Nat.eq_zero_or_pos k with hk0 | hk0
          · subst hk0
            rw [List.drop_zero] at hK
            have HYB := HYB
            have hE : (strB y).reverse.map digV = qy.reverse.map digV := by rw [HYB.out]
            rw [hE] at hK
            obtain ⟨ds, hds⟩ : ∃ ds, qy.reverse.map digV = ds := ⟨_, rfl⟩
            have HRR := HRR.out
            rw [hds] at hK HRR
            have HRR := Lib.hid HRR
            obtain ⟨A, c, rfl⟩ := row_form hK.at0
            have hri := hK.ownI.ri
            have hdl : ds.length ≤ 1048576 := by rw [← hds, ← HYB.out]; simp [strB_len]; omega
            have KV := fun b (hb : vreg n ds = b) => calls_val (ValidRegister_any n A ds.length c ds wo hri (by omega)) (congrArg Value.bool hb)
            clear hE hds hri
            rcases hv : vreg n ds with _ | _
            · have HU := Lib.hid (rdr_none (bs := strB s) (by rw [HRR.out, hv]; rfl))
              have KV := Lib.hid (KV _ hv)
              clear hv
              go_wp2_with fail
              refine KV.out.mono ?_; rintro e w7 ⟨rfl, hw⟩
              have hK7 := hK.keep hw
              clear d1 d2 d3 a1 a2 a3 hw
              obtain ⟨a1, a2, a3, d1, d2, d3, -⟩ := hK7.cells
              go_wp2_with fail
              refine bodyPost_ret (v := .tuple #[.agg #[.int .i64 0, .slice none 0 0], .bool false]) (by simp [results, Tryd.results203, go_sem, d1]) rfl ⟨none, 0, by rw [HU.out.1, HU.out.2]; rfl, ?_⟩
              rw [HU.out.1]
              exact ((hK7.sw2.st 0 (.int .i64 0)).st 1 (.slice none 0 0)).bare.nilRow _ _
            · have HU := Lib.hid (rdr_some (bs := strB s) (r := ⟨n, ds⟩) (by rw [HRR.out, hv]; rfl))
              have KV := Lib.hid (KV _ hv)
              clear hv
              go_wp2_with fail
              refine KV.out.mono ?_; rintro e w7 ⟨rfl, hw⟩
              have hK7 := hK.keep hw
              clear d1 d2 d3 a1 a2 a3 hw
              obtain ⟨a1, a2, a3, d1, d2, d3, -⟩ := hK7.cells
              go_wp2_with fail
              have hK8 := (hK7.sw2.st 0 (.int .i64 n)).st 1 (.slice A ds.length c)
              refine bodyPost_ret (v := .tuple #[.agg #[.int .i64 n, .slice A ds.length c], .bool true]) (by simp [results, Tryd.results203, go_sem, d1]) rfl ⟨A, c, by rw [HU.out.1, HU.out.2], ?_⟩
              rw [HU.out.1]
              exact hK8.sw1.drop1.drop1
          · obtain ⟨q, hq⟩ : ∃ q : UInt8, y[k - 1] = q := ⟨_, rfl⟩
            obtain ⟨z, hz⟩ : ∃ z : Nat, q.toNat = z := ⟨_, rfl⟩
            have hz2 : z < 256 := by rw [← hz]; exact q.toNat_lt
            have hdr : (strB y).drop (k - 1) = q :: (strB y).drop k := by
              rw [List.drop_eq_getElem_cons (by rw [strB_len]; omega), ← strB_get y (by omega), hq, show k - 1 + 1 = k by omega]
            have HDG := Lib.hid (show ((strB y).drop (k - 1)).reverse.map digV = ((strB y).drop k).reverse.map digV ++ [digV q] by rw [hdr]; simp)
            have HQ := Lib.hid (show lastAt z 16 = digV q by rw [lastAt_all z hz2, ← hz]; simp)
            have hi0 : (0 : Int) ≤ (k : Int) - 1 := by omega
            have hi1 : (k : Int) - 1 < (y.size : Int) := by omega
            have hin : ((k : Int) - 1).toNat = k - 1 := by omega
            have hlen : (((strB y).drop k).reverse.map digV).length ≤ 1048576 := by simp [strB_len]; omega
            obtain ⟨ds, hds⟩ : ∃ ds, ((strB y).drop k).reverse.map digV = ds := ⟨_, rfl⟩
            rw [hds] at hK hlen HDG
            clear hdr hds
            go_wp2_with fail
            go_loopw [11, 45] (fun gg dd wi => ∃ d : Nat, d ≤ 16 ∧ dd = .int .i64 d ∧ gg = .int .i64 (lastAt z d) ∧ ∃ q, wi = wo.drewN q) (fun _ d _ => 16 - (intOf d).toNat)
            case atStart => exact ⟨0, by omega, rfl, rfl, 0, rfl⟩
            case round =>
              obtain ⟨d, hd, rfl, rfl, nq, rfl⟩ := hrel
              by_cases hd16 : d < 16
              · have hdg := dtx_get d hd16
                obtain ⟨u, hu⟩ : ∃ u : Nat, (dtx.data.getD d 0).toNat = u := ⟨_, rfl⟩
                have HLS := Lib.hid (lastAt_succ z d)
                have j0 : (0 : Int) ≤ (d : Int) := by omega
                have j1 : (d : Int) < 16 := by omega
                have hgu : ((⟨#[48, 49, 50, 51, 52, 53, 54, 55, 56, 57, 97, 98, 99, 100, 101, 102]⟩ : ByteArray)[d]'hd16).toNat = u := by
                  rw [← hu]
                  have h3 : dtx[d]? = some (dtx[d]'hd16) := getElem?_pos dtx d hd16
                  rw [hdg] at h3
                  injection h3 with h3
                  rw [h3]; rfl
                have HU9 := Lib.hid hu
                clear hdg hu
                by_cases huz : u = z
                · have k1 : ((u : Int) == (z : Int)) = true := by rw [beq_iff_eq]; omega
                  have HL2 : Hid (lastAt z (d + 1) = (d : Int)) := by simp only [Hid]; rw [HLS.out, HU9.out, if_pos huz]
                  clear huz
                  go_wp2_with fail
                  go_quiet (fail)
                  go_wp2_with fail
                  go_roundw
                  case rel => exact ⟨d + 1, by omega, by go_num, by rw [HL2.out], by first | exact ⟨_, rfl⟩ | exact ⟨_, World.drewN_drewN _ _ _⟩⟩
                  case measure => simp [intOf]; omega
                · have k1 : ((u : Int) == (z : Int)) = false := by rw [beq_eq_false_iff_ne]; omega
                  have HL2 : Hid (lastAt z (d + 1) = lastAt z d) := by simp only [Hid]; rw [HLS.out, HU9.out, if_neg huz]
                  clear huz
                  go_wp2_with fail
                  go_quiet (fail)
                  go_wp2_with fail
                  go_roundw
                  case rel => exact ⟨d + 1, by omega, by go_num, by rw [HL2.out], by first | exact ⟨_, rfl⟩ | exact ⟨_, World.drewN_drewN _ _ _⟩⟩
                  case measure => simp [intOf]; omega
              · have hde : d = 16 := by omega
                subst hde
                rw [HQ.out]
                have hKd := hK.drewN nq
                go_wp2_with (at_builtin; refine kn_pushI rfl _ _ rfl _ ds rfl rfl (hKd.al [.int .i64 (digV q)] 2) (by omega) ?_; intro v5 w6 hK9; obtain ⟨A5, c5, rfl⟩ := row_form hK9.at0; rw [show (ds ++ [digV q]).length = ds.length + 1 by simp] at hK9; clear a1 a2 a3 d1 d2 d3; obtain ⟨a1, a2, a3, d1, d2, d3, -⟩ := hK9.cells)
                go_roundw
                case rel => exact ⟨k - 1, _, by omega, by congr 1; omega, by rw [HDG.out, show (ds ++ [digV q]).length = ds.length + 1 by simp]; exact (hK9.sw1.st 1 _).sw1⟩
                case measure => simp [intOf]; omega
set_option maxRecDepth 100000 in
set_option maxHeartbeats 1600000 in
theorem specReadRegister_any (s : ByteArray) (w : World) (hs : s.size ≤ 1048576) :
    Calls Tryd.prog 197 #[.string s] w fun e w' => ∃ A c, e = .returned (.tuple #[.agg #[.int .i64 (rdReg (strB s)).base, .slice A (rdReg (strB s)).digits.length c], .bool (rdR (strB s)).isSome]) ∧ Kn w [rowI A c (rdReg (strB s)).digits] w' := by
  have HRD := Lib.hid (rdR_spec (strB s))
  have KS := fun W => l01Split_any s 58 W hs
  have e58 : (58 : UInt8).toNat = 58 := rfl
  rw [e58] at KS
  have KS := Lib.hid KS
  have hjoin : ∀ x ∈ splitB 58 (strB s), x.length ≤ 1048576 := by
    have h1 := splitB_each 58 (strB s)
    intro x hx
    have := h1 x hx; rw [strB_len] at this; omega
  go_enter Tryd.func197, Tryd.ntmps197
  go_wp2_with fail
  refine Calls.kn ((Kn.nil w).al [.int .i64 0, .slice none 0 0] 33) ?_; intro w1 hK1
  refine (KS.out w1).mono ?_; rintro e w2 ⟨A, c, ss, rfl, hss, hK⟩
  have hK2 := hK1.join hK
  have HSS := Lib.hid hss
  have HJ := Lib.hid hjoin
  clear hK hK1 hss hjoin e58
  obtain ⟨d1, d2, d3, -⟩ := hK2.cells
  have HNO : Hid (ss.length ≠ 2 → rdR (strB s) = none) := by
    intro h
    rw [HRD.out, ← HSS.out]
    match ss, h with
    | [], _ => rfl
    | [_], _ => rfl
    | [_, _], h => exact absurd rfl h
    | _ :: _ :: _ :: _, _ => rfl
  by_cases hl2 : ss.length = 2
  · have HYES : Hid (∃ x y, ss = [x, y]) := by
      match ss, hl2 with
      | [x, y], _ => exact ⟨x, y, rfl⟩
    obtain ⟨x, y, rfl⟩ := HYES.out
    obtain ⟨-, g, rfl, -, -, -⟩ := hK2.rowS_at (k := 0) (by simp)
    have hx : (strB x).length ≤ 1048576 := HJ.out _ (by rw [← HSS.out]; simp)
    have hy : (strB y).length ≤ 1048576 := HJ.out _ (by rw [← HSS.out]; simp)
    rw [strB_len] at hx hy
    have HRR : Hid (rdR (strB s) = if y.size ≤ 16 then (rdDec (strB x)).bind fun n => if vreg n ((strB y).reverse.map digV) then some ⟨n, (strB y).reverse.map digV⟩ else none else none) := by
      simp only [Hid]
      rw [HRD.out, ← HSS.out]
      simp only [List.map_cons, List.map_nil, strB_len]
    have s0 := hK2.rowS_get (k := 0) (by simp)
    have s1 := hK2.rowS_get (k := 1) (by simp)
    simp only [List.getElem_cons_zero, List.getElem_cons_succ] at s0 s1
    clear hl2
    by_cases h16 : y.size ≤ 16
    · have i16 : ¬ (16 : Int) < (y.size : Int) := by omega
      have HRR := Lib.hid (show rdR (strB s) = (rdDec (strB x)).bind fun n => if vreg n ((strB y).reverse.map digV) then some ⟨n, (strB y).reverse.map digV⟩ else none by rw [HRR.out, if_pos h16])
      have KN := Lib.hid (l01Number_any x w2 (by omega))
      obtain ⟨n, hn⟩ : ∃ n, rdN (strB x) = n := ⟨_, rfl⟩
      obtain ⟨ok, hok⟩ : ∃ b, (rdDec (strB x)).isSome = b := ⟨_, rfl⟩
      have KN := KN.out
      rw [hn, hok] at KN
      have KN := Lib.hid KN
      have HRS : Hid (rdR (strB s) = if ok && vreg n ((strB y).reverse.map digV) then some ⟨n, (strB y).reverse.map digV⟩ else none) := by
        simp only [Hid]; rw [HRR.out]
        cases hrd : rdDec (strB x) with
        | none => rw [hrd] at hok; subst hok; rfl
        | some q =>
          have h2 := (rd_some hrd).1
          rw [hrd] at hok
          subst hok
          rw [hn] at h2; subst h2; simp
      clear h16 hn hok
      go_wp2_with fail
      refine KN.out.mono ?_; rintro e w3 ⟨rfl, hw⟩
      have hK3 := hK2.keep hw
      clear hw d1 d2 d3 s0 s1
      have s1 := hK3.rowS_get (k := 1) (by simp)
      simp only [List.getElem_cons_zero, List.getElem_cons_succ] at s1
      go_wp2_with (first | (refine wpList.kn (hK3.al [.int .i64 0, .slice none 0 0] 33) ?_; intro w4 hK4; clear s1; have s1 := hK4.drop.rowS_get (k := 1) (by simp); simp only [List.getElem_cons_zero, List.getElem_cons_succ] at s1; obtain ⟨a1, a2, a3, -⟩ := hK4.cells) | (refine wpList.kn ((hK4.st 0 _).st 1 _) ?_; intro w5 hK5; clear s1; have s1 := hK5.drop.rowS_get (k := 1) (by simp); simp only [List.getElem_cons_zero, List.getElem_cons_succ] at s1; clear a1 a2 a3))
      have hK6 := hK5.nilRow 2 1
      clear hK3 hK4 hK5 hK2
      go_loopw [8] (fun ii wr => ∃ (k : Nat) (v : Value), k ≤ y.size ∧ ii = .int .i64 ((k : Int) - 1) ∧
        Kn w [.row v 2 1 (((strB y).drop k).reverse.map digV).length ((((strB y).drop k).reverse.map digV).map (Value.int .i64)), .blk w3.heap.size [.int .i64 n, v] 33, rowS (.slice (some ⟨g, 0, none⟩) 2 c) [x, y], .blk w.heap.size [.int .i64 0, .slice none 0 0] 33] wr) (fun i _ => (intOf i + 1).toNat)
      case atStart =>
        refine ⟨y.size, .slice none 0 0, Nat.le_refl _, rfl, ?_⟩
        rw [List.drop_of_length_le (by rw [strB_len]; omega)]
        exact hK6
      case round =>
        obtain ⟨k, v, hk, rfl, hK⟩ := hrel
        obtain ⟨wo, rfl⟩ : ∃ wo : World, wo = wr := ⟨_, rfl⟩
        clear hK6 s1
        obtain ⟨a1, a2, a3, d1, d2, d3, -⟩ := hK.cells
        have s1 := hK.drop.drop.rowS_get (k := 1) (by simp)
        simp only [List.getElem_cons_zero, List.getElem_cons_succ] at s1
        rcases Nat.eq_zero_or_pos k with hk0 | hk0
        · subst hk0
          rw [List.drop_zero] at hK
          obtain ⟨ds, hds⟩ : ∃ ds, (strB y).reverse.map digV = ds := ⟨_, rfl⟩
          have HRS := HRS.out
          rw [hds] at hK HRS
          have HRS := Lib.hid HRS
          obtain ⟨A, c, rfl⟩ := row_form hK.at0
          have hri := hK.ownI.ri
          have hdl : ds.length ≤ 1048576 := by rw [← hds]; simp [strB_len]; omega
          have hRM : RegM wo ⟨w3.heap.size, 0, none⟩ ⟨n, ds⟩ := ⟨A, c, ⟨by rw [a1]; rfl, by rw [a1]; rfl⟩, hri⟩
          have KV := fun b (hb : (⟨n, ds⟩ : Reg).ok = b) => l02Ok_reg ⟨w3.heap.size, 0, none⟩ ⟨n, ds⟩ wo hRM (by unfold SmallReg; simp only []; omega) b hb
          clear hds hri hRM
          cases ok with
          | false =>
            have HU := Lib.hid (rdr_none (bs := strB s) HRS.out)
            clear KV
            go_wp2_with fail
            refine bodyPost_ret (v := .tuple #[.agg #[.int .i64 0, .slice none 0 0], .bool false]) (by simp [results, Tryd.results197, go_sem, d1]) rfl ⟨none, 0, by rw [HU.out.1, HU.out.2]; rfl, ?_⟩
            rw [HU.out.1]
            exact ((hK.sw3.st 0 (.int .i64 0)).st 1 (.slice none 0 0)).bare.nilRow _ _
          | true =>
          rcases hv : vreg n ds with _ | _
          · have HU := Lib.hid (rdr_none (bs := strB s) (by rw [HRS.out, hv]; rfl))
            have KV := Lib.hid (KV _ hv)
            clear hv
            go_wp2_with fail
            refine KV.out.mono ?_; rintro e w7 ⟨rfl, m, rfl⟩
            have hK7 := hK.drewN m
            go_wp2_with fail
            refine bodyPost_ret (v := .tuple #[.agg #[.int .i64 0, .slice none 0 0], .bool false]) (by simp [results, Tryd.results197, go_sem, d1]) rfl ⟨none, 0, by rw [HU.out.1, HU.out.2]; rfl, ?_⟩
            rw [HU.out.1]
            exact ((hK7.sw3.st 0 (.int .i64 0)).st 1 (.slice none 0 0)).bare.nilRow _ _
          · have HU := Lib.hid (rdr_some (bs := strB s) (r := ⟨n, ds⟩) (by rw [HRS.out, hv]; rfl))
            have KV := Lib.hid (KV _ hv)
            clear hv
            go_wp2_with fail
            refine KV.out.mono ?_; rintro e w7 ⟨rfl, m, rfl⟩
            have hK7 := hK.drewN m
            go_wp2_with fail
            have hK8 := (hK7.sw3.st 0 (.int .i64 n)).st 1 (.slice A ds.length c)
            refine bodyPost_ret (v := .tuple #[.agg #[.int .i64 n, .slice A ds.length c], .bool true]) (by simp [results, Tryd.results197, go_sem, d1]) rfl ⟨A, c, by rw [HU.out.1, HU.out.2], ?_⟩
            rw [HU.out.1]
            exact hK8.drop.drop1.drop1
        · obtain ⟨q, hq⟩ : ∃ q : UInt8, y[k - 1] = q := ⟨_, rfl⟩
          obtain ⟨z, hz⟩ : ∃ z : Nat, q.toNat = z := ⟨_, rfl⟩
          have hz2 : z < 256 := by rw [← hz]; exact q.toNat_lt
          have hdr : (strB y).drop (k - 1) = q :: (strB y).drop k := by
            rw [List.drop_eq_getElem_cons (by rw [strB_len]; omega), ← strB_get y (by omega), hq, show k - 1 + 1 = k by omega]
          have HDG := Lib.hid (show ((strB y).drop (k - 1)).reverse.map digV = ((strB y).drop k).reverse.map digV ++ [digV q] by rw [hdr]; simp)
          have KD := Lib.hid (fun W => l02Digit_any z q hz W)
          have hi0 : (0 : Int) ≤ (k : Int) - 1 := by omega
          have hi1 : (k : Int) - 1 < (y.size : Int) := by omega
          have hin : ((k : Int) - 1).toNat = k - 1 := by omega
          have hlen : (((strB y).drop k).reverse.map digV).length ≤ 1048576 := by simp [strB_len]; omega
          obtain ⟨ds, hds⟩ : ∃ ds, ((strB y).drop k).reverse.map digV = ds := ⟨_, rfl⟩
          rw [hds] at hK hlen HDG
          clear hdr hds
          go_wp2_with fail
          go_region_law (first
            | (go_simp; go_at_call 212; refine (KD.out _).mono ?_; rintro e w' ⟨rfl, rfl⟩)
            | (refine kn_stepI rfl _ _ rfl _ ds rfl rfl ((hK.al [.int .i64 (digV q)] 2).drew) (by omega) ?_; intro v5 w6 hK9; obtain ⟨A5, c5, rfl⟩ := row_form hK9.at0; rw [show (ds ++ [digV q]).length = ds.length + 1 by simp] at hK9; clear a1 a2 a3 d1 d2 d3; obtain ⟨a1, a2, a3, d1, d2, d3, -⟩ := hK9.cells))
          all_goals
            go_wp2_with fail
            go_roundw
            case rel => exact ⟨k - 1, _, by omega, by congr 1; omega, by rw [HDG.out, show (ds ++ [digV q]).length = ds.length + 1 by simp]; exact (hK9.sw1.st 1 _).sw1⟩
            case measure => simp [intOf]; omega
    · have i16 : (16 : Int) < (y.size : Int) := by omega
      have HU := Lib.hid (rdr_none (bs := strB s) (by rw [HRR.out, if_neg h16]))
      clear h16
      go_wp2_with fail
      refine bodyPost_ret (v := .tuple #[.agg #[.int .i64 0, .slice none 0 0], .bool false]) (by simp [results, Tryd.results197, go_sem, d1]) rfl ⟨none, 0, by rw [HU.out.1, HU.out.2]; rfl, ?_⟩
      rw [HU.out.1]
      exact ((hK2.sw1.st 0 (.int .i64 0)).st 1 (.slice none 0 0)).bare.nilRow _ _
  · have HU := Lib.hid (rdr_none (bs := strB s) (HNO.out hl2))
    have k1 : ((ss.length : Int) != 2) = true := by rw [bne_iff_ne]; omega
    clear hl2
    go_wp2_with fail
    refine bodyPost_ret (v := .tuple #[.agg #[.int .i64 0, .slice none 0 0], .bool false]) (by simp [results, Tryd.results197, go_sem, d1]) rfl ⟨none, 0, by rw [HU.out.1, HU.out.2]; rfl, ?_⟩
    rw [HU.out.1]
    exact ((hK2.sw1.st 0 (.int .i64 0)).st 1 (.slice none 0 0)).bare.nilRow _ _
end Go.Proofs.YtlhcilmnfmglfaaDoor

namespace Go.Proofs.YtlhcilmnfmglfaaDoor
open Go.RowKit Go.Sort
theorem TriM.of_block {w : World} {g : Nat} {T : TypeId} {t : Tri} {A1 A2 A3 : Option Addr} {c1 c2 c3 : Nat}
    (hg : w.heap[g]? = some (.cells #[.int .i64 t.a.base, .slice A1 t.a.digits.length c1, .int .i64 t.b.base, .slice A2 t.b.digits.length c2, .int .i64 t.s.base, .slice A3 t.s.digits.length c3, .int .i64 t.carry] T (0, 0)))
    (r1 : RI w A1 t.a.digits.length t.a.digits) (r2 : RI w A2 t.b.digits.length t.b.digits) (r3 : RI w A3 t.s.digits.length t.s.digits) : TriM w ⟨g, 0, none⟩ t := by
  have hc : ∀ i v, #[Value.int .i64 t.a.base, .slice A1 t.a.digits.length c1, .int .i64 t.b.base, .slice A2 t.b.digits.length c2, .int .i64 t.s.base, .slice A3 t.s.digits.length c3, .int .i64 t.carry][i]? = some v → w.cell? ⟨g, i, none⟩ = some v := fun i v hv => by rw [cell_of_row w g i _ T (0, 0) hg]; exact hv
  exact ⟨⟨A1, c1, ⟨hc 0 _ rfl, hc 1 _ rfl⟩, r1⟩, ⟨A2, c2, ⟨hc 2 _ rfl, hc 3 _ rfl⟩, r2⟩, ⟨A3, c3, ⟨hc 4 _ rfl, hc 5 _ rfl⟩, r3⟩, hc 6 _ rfl⟩
theorem RL.one {w : World} {g : Nat} {t : Tri} (h : TriM w ⟨g, 0, none⟩ t) (hl : g < w.heap.size) : RL TriM 7 w (some ⟨g, 0, none⟩) 1 [t] :=
  ⟨rfl, fun _ => ⟨_, rfl, hl, fun k hk => by
    have : k = 0 := by simp at hk; omega
    subst this
    rw [Nat.zero_mul, addr_add_zero]; exact h⟩⟩
theorem RegisterText_reg (r : Reg) (A : Option Addr) (c : Nat) (w : World) (hr : RI w A r.digits.length r.digits) (hm : SmallReg r) (ht : TB w) :
    Calls Tryd.prog 95 #[.agg #[.int .i64 r.base, .slice A r.digits.length c]] w fun e w' => e = .returned (.string ⟨(rtext r).toArray⟩) ∧ Below w.heap.size w w' := RegisterText_any r.base A _ c r.digits w hr hm ht
def ttextL (t : Tri) : ByteArray := ((((((⟨(rtext t.a).toArray⟩ : ByteArray) ++ (⟨#[32, 43, 32]⟩ : ByteArray)) ++ (⟨(rtext t.b).toArray⟩ : ByteArray)) ++ (⟨#[32, 61, 32]⟩ : ByteArray)) ++ (⟨(rtext t.s).toArray⟩ : ByteArray)) ++ (⟨#[32]⟩ : ByteArray)) ++ (⟨(dec t.carry).toArray⟩ : ByteArray)
def ttext (t : Tri) : ByteArray := if vtrials [t] then ttextL t else ⟨#[]⟩
theorem rtext_len (r : Reg) : (rtext r).length ≤ 60 := by
  unfold rtext
  split
  · rename_i h
    obtain ⟨⟨hb1, hb2⟩, ⟨hl1, hl2⟩, -, -⟩ := vreg_iff.1 h
    have := dec_len r.base (by omega) (by omega)
    simp only [rtextL, List.length_append, List.length_map, List.length_reverse, List.length_cons, List.length_nil]; omega
  · simp
theorem vtrials_one {t : Tri} (h : vtrials [t] = true) : t.a.ok = true ∧ t.b.ok = true ∧ t.s.ok = true ∧ 0 ≤ t.carry ∧ t.carry ≤ 1 := by
  simp only [vtrials, List.all_cons, List.all_nil, Bool.and_true, Bool.and_eq_true, List.headD_cons, triGood, vlike] at h
  obtain ⟨⟨⟨⟨h1, h2⟩, h3⟩, h4⟩, -⟩ := h
  obtain ⟨h5, h6⟩ := betB_iff.1 h4
  exact ⟨h1.1.1, h2.1.1, h3.1.1, h5, h6⟩
set_option maxRecDepth 100000 in
set_option maxHeartbeats 1600000 in
theorem TrialText_any (t : Tri) (A1 A2 A3 : Option Addr) (c1 c2 c3 : Nat) (w : World) (r1 : RI w A1 t.a.digits.length t.a.digits) (r2 : RI w A2 t.b.digits.length t.b.digits) (r3 : RI w A3 t.s.digits.length t.s.digits) (hs : SmallTri t) (ht : TB w) :
    Calls Tryd.prog 28 #[.agg #[.int .i64 t.a.base, .slice A1 t.a.digits.length c1, .int .i64 t.b.base, .slice A2 t.b.digits.length c2, .int .i64 t.s.base, .slice A3 t.s.digits.length c3, .int .i64 t.carry]] w
      fun e w' => e = .returned (.string (ttext t)) ∧ Below w.heap.size w w' := by
  have hb0 : Below w.heap.size w ((w.alloc (.cells #[.int .i64 t.a.base, .slice A1 t.a.digits.length c1, .int .i64 t.b.base, .slice A2 t.b.digits.length c2, .int .i64 t.s.base, .slice A3 t.s.digits.length c3, .int .i64 t.carry] 61)).alloc (.cells #[.int .i64 t.a.base, .slice A1 t.a.digits.length c1, .int .i64 t.b.base, .slice A2 t.b.digits.length c2, .int .i64 t.s.base, .slice A3 t.s.digits.length c3, .int .i64 t.carry] 61)) := ((Below.refl _ _).alloc (Nat.le_refl _) _).alloc (by simp) _
  have hT := RL.one (g := w.heap.size + 1) (TriM.of_block (g := w.heap.size + 1) (t := t) (by rw [show w.heap.size + 1 = (w.alloc (.cells #[.int .i64 t.a.base, .slice A1 t.a.digits.length c1, .int .i64 t.b.base, .slice A2 t.b.digits.length c2, .int .i64 t.s.base, .slice A3 t.s.digits.length c3, .int .i64 t.carry] 61)).heap.size by simp]; exact heap_alloc_new _ _) (r1.below hb0) (r2.below hb0) (r3.below hb0)) (by simp)
  rcases hv : vtrials [t] with _ | _
  · have HF : Hid (ttext t = ⟨#[]⟩) := by simp [Hid, ttext, hv]
    go_enter Tryd.func28, Tryd.ntmps28
    go_wp2_with fail
    refine (ValidTrials_any _ _ _ [t] _ hT (by simpa using hs) (by omega)).mono ?_; rintro e w1 ⟨rfl, hw1⟩
    rw [hv]
    go_wp2_with fail
    go_ret
    exact ⟨ret_str HF.out.symm, hb0.trans (hw1.mono (by simp <;> omega))⟩
  · have HF : Hid (ttext t = ttextL t) := by simp [Hid, ttext, hv]
    obtain ⟨o1, o2, o3, y0, y1⟩ := vtrials_one hv
    have l1 := rtext_len t.a
    have l2 := rtext_len t.b
    have l3 := rtext_len t.s
    have l4 := dec_len t.carry (by omega) (by omega)
    go_enter Tryd.func28, Tryd.ntmps28
    go_wp2_with fail
    refine (ValidTrials_any _ _ _ [t] _ hT (by simpa using hs) (by omega)).mono ?_; rintro e w1 ⟨rfl, hw1⟩
    rw [hv]
    have hbw := hb0.trans (hw1.mono (by simp <;> omega))
    obtain ⟨hc, -⟩ := bcellB (B := w.heap.size + 1) (hw1.mono (by simp <;> omega))
    have x0 := cell_regrown (show w1.cell? ⟨w.heap.size, 0, none⟩ = some (.int .i64 t.a.base) by go_simp)
    have x1 := cell_regrown (show w1.cell? ⟨w.heap.size, 1, none⟩ = some (.slice A1 t.a.digits.length c1) by go_simp)
    have x2 := cell_regrown (show w1.cell? ⟨w.heap.size, 2, none⟩ = some (.int .i64 t.b.base) by go_simp)
    have x3 := cell_regrown (show w1.cell? ⟨w.heap.size, 3, none⟩ = some (.slice A2 t.b.digits.length c2) by go_simp)
    have x4 := cell_regrown (show w1.cell? ⟨w.heap.size, 4, none⟩ = some (.int .i64 t.s.base) by go_simp)
    have x5 := cell_regrown (show w1.cell? ⟨w.heap.size, 5, none⟩ = some (.slice A3 t.s.digits.length c3) by go_simp)
    have x6 := cell_regrown (show w1.cell? ⟨w.heap.size, 6, none⟩ = some (.int .i64 t.carry) by go_simp)
    have K1 := Lib.hid (fun (W : World) (hW : Below w1.heap.size w1 W) => RegisterText_reg t.a A1 c1 W ((r1.below hbw).below hW) hs.1 ((ht.below hbw).below hW))
    have K2 := Lib.hid (fun (W : World) (hW : Below w1.heap.size w1 W) => RegisterText_reg t.b A2 c2 W ((r2.below hbw).below hW) hs.2.1 ((ht.below hbw).below hW))
    have K3 := Lib.hid (fun (W : World) (hW : Below w1.heap.size w1 W) => RegisterText_reg t.s A3 c3 W ((r3.below hbw).below hW) hs.2.2 ((ht.below hbw).below hW))
    have K4 := Lib.hid (fun (W : World) (hW : Below w1.heap.size w1 W) => Decimal_any t.carry W (by omega) (by omega) ((ht.below hbw).below hW))
    clear hc hT
    go_wp2_with fail
    refine wp_region_quiet_below (by kernel_rfl) (by kernel_rfl) ?_
    repeat (go_big_quiet_step ((first | (go_at_call 95; first | (with_reducible exact quietB K1.out) | (with_reducible exact quietB K2.out) | (with_reducible exact quietB K3.out)) | (go_at_call 83; exact quietB K4.out))))
    refine wpQuiet_nil ?_
    intro _ hw'
    obtain ⟨⟨dq, osq⟩, hw''⟩ := hw'
    subst hw''
    go_wp2
    go_ret
    exact ⟨ret_str (by rw [HF.out]; rfl), hbw.trans ((below_regrown w1 dq osq).mono hbw.size)⟩
end Go.Proofs.YtlhcilmnfmglfaaDoor

namespace Go.Proofs.YtlhcilmnfmglfaaDoor
open Go.RowKit
end Go.Proofs.YtlhcilmnfmglfaaDoor

namespace Go.Proofs.YtlhcilmnfmglfaaDoor
open Go.RowKit Go.Sort
def mtextL (t : Tri) : ByteArray := (((((((⟨(rtext t.a).toArray⟩ : ByteArray) ++ (⟨#[32]⟩ : ByteArray)) ++ (⟨(rtext t.b).toArray⟩ : ByteArray)) ++ (⟨#[32]⟩ : ByteArray)) ++ (⟨(rtext t.s).toArray⟩ : ByteArray)) ++ (⟨#[32]⟩ : ByteArray)) ++ (⟨(dec t.carry).toArray⟩ : ByteArray))
def mtext (t : Tri) : ByteArray := if vmach t then mtextL t else ⟨#[]⟩
theorem vmach_parts {t : Tri} (h : vmach t = true) : t.a.ok = true ∧ t.b.ok = true ∧ t.s.ok = true ∧ 0 ≤ t.carry ∧ t.carry ≤ 16 := by
  simp only [vmach, Bool.and_eq_true] at h
  obtain ⟨⟨⟨⟨h1, h2⟩, h3⟩, -⟩, -, h4⟩ := h
  obtain ⟨h5, h6⟩ := betB_iff.1 h4
  obtain ⟨-, -, p1⟩ := ok_bd h3
  exact ⟨h1, h2, h3, h5, by unfold vplaces at h6; omega⟩
set_option maxRecDepth 100000 in
set_option maxHeartbeats 1600000 in
theorem MachineText_any (t : Tri) (A1 A2 A3 : Option Addr) (c1 c2 c3 : Nat) (w : World) (r1 : RI w A1 t.a.digits.length t.a.digits) (r2 : RI w A2 t.b.digits.length t.b.digits) (r3 : RI w A3 t.s.digits.length t.s.digits) (hs : SmallTri t) (ht : TB w) :
    Calls Tryd.prog 205 #[.agg #[.int .i64 t.a.base, .slice A1 t.a.digits.length c1, .int .i64 t.b.base, .slice A2 t.b.digits.length c2, .int .i64 t.s.base, .slice A3 t.s.digits.length c3, .int .i64 t.carry]] w
      fun e w' => e = .returned (.string (mtext t)) ∧ Below w.heap.size w w' := by
  have hb0 : Below w.heap.size w (w.alloc (.cells #[.int .i64 t.a.base, .slice A1 t.a.digits.length c1, .int .i64 t.b.base, .slice A2 t.b.digits.length c2, .int .i64 t.s.base, .slice A3 t.s.digits.length c3, .int .i64 t.carry] 35)) := (Below.refl _ _).alloc (Nat.le_refl _) _
  rcases hv : vmach t with _ | _
  · have HF : Hid (mtext t = ⟨#[]⟩) := by simp [Hid, mtext, hv]
    go_enter Tryd.func205, Tryd.ntmps205
    go_wp2_with fail
    refine (ValidMachine_any t A1 A2 A3 c1 c2 c3 _ (r1.below hb0) (r2.below hb0) (r3.below hb0) hs).mono ?_; rintro e w1 ⟨rfl, hw1⟩
    rw [hv]
    go_wp2_with fail
    go_ret
    exact ⟨ret_str HF.out.symm, hb0.trans (hw1.mono (by simp <;> omega))⟩
  · have HF : Hid (mtext t = mtextL t) := by simp [Hid, mtext, hv]
    obtain ⟨o1, o2, o3, y0, y1⟩ := vmach_parts hv
    have l1 := rtext_len t.a
    have l2 := rtext_len t.b
    have l3 := rtext_len t.s
    have l4 := dec_len t.carry (by omega) (by omega)
    have hT0 : TriC (w.alloc (.cells #[.int .i64 t.a.base, .slice A1 t.a.digits.length c1, .int .i64 t.b.base, .slice A2 t.b.digits.length c2, .int .i64 t.s.base, .slice A3 t.s.digits.length c3, .int .i64 t.carry] 35)) ⟨w.heap.size, 0, none⟩ t A1 c1 A2 c2 A3 c3 := TriC.of_block (g := w.heap.size) (heap_alloc_new _ _) (r1.below hb0) (r2.below hb0) (r3.below hb0)
    go_enter Tryd.func205, Tryd.ntmps205
    go_wp2_with fail
    refine (ValidMachine_any t A1 A2 A3 c1 c2 c3 _ (r1.below hb0) (r2.below hb0) (r3.below hb0) hs).mono ?_; rintro e w1 ⟨rfl, hw1⟩
    rw [hv]
    have hbw := hb0.trans (hw1.mono (by simp <;> omega))
    have hT := hT0.below (by simp) hw1
    clear hT0
    obtain ⟨⟨g1, g2, g3, g4, g5, g6, g7⟩, q1, q2, q3⟩ := hT
    simp only [Nat.zero_add] at g1 g2 g3 g4 g5 g6 g7
    have x0 := cell_regrown g1
    have x1 := cell_regrown g2
    have x2 := cell_regrown g3
    have x3 := cell_regrown g4
    have x4 := cell_regrown g5
    have x5 := cell_regrown g6
    have x6 := cell_regrown g7
    have K1 := Lib.hid (fun (W : World) (hW : Below w1.heap.size w1 W) => RegisterText_reg t.a A1 c1 W (q1.below hW) hs.1 ((ht.below hbw).below hW))
    have K2 := Lib.hid (fun (W : World) (hW : Below w1.heap.size w1 W) => RegisterText_reg t.b A2 c2 W (q2.below hW) hs.2.1 ((ht.below hbw).below hW))
    have K3 := Lib.hid (fun (W : World) (hW : Below w1.heap.size w1 W) => RegisterText_reg t.s A3 c3 W (q3.below hW) hs.2.2 ((ht.below hbw).below hW))
    have K4 := Lib.hid (fun (W : World) (hW : Below w1.heap.size w1 W) => Decimal_any t.carry W (by omega) (by omega) ((ht.below hbw).below hW))
    go_wp2_with fail
    refine wp_region_quiet_below (by kernel_rfl) (by kernel_rfl) ?_
    repeat (go_big_quiet_step ((first | (go_at_call 95; first | (with_reducible exact quietB K1.out) | (with_reducible exact quietB K2.out) | (with_reducible exact quietB K3.out)) | (go_at_call 83; exact quietB K4.out))))
    refine wpQuiet_nil ?_
    intro _ hw'
    obtain ⟨⟨dq, osq⟩, hw''⟩ := hw'
    subst hw''
    go_wp2
    go_ret
    exact ⟨ret_str (by rw [HF.out]; rfl), hbw.trans ((below_regrown w1 dq osq).mono hbw.size)⟩
set_option maxRecDepth 100000 in
set_option maxHeartbeats 1600000 in
theorem l10Text_any (p : Addr) (t : Tri) (w : World) (hT : TriM w p t) (hlt : p.block < w.heap.size) (hv : vmach t = true) :
    Calls Tryd.prog 200 #[.pointer (some p)] w fun e w' => e = .returned (.string (mtextL t)) ∧ Below w.heap.size w w' := by
  obtain ⟨o1, o2, o3, y0, y1⟩ := vmach_parts hv
  have l1 := rtext_len t.a
  have l2 := rtext_len t.b
  have l3 := rtext_len t.s
  have l4 := dec_len t.carry (by omega) (by omega)
  have K1 := Lib.hid (fun (W : World) (hW : Below w.heap.size w W) => l02Text_any p t.a W (steady_RegM _ _ _ _ hlt hW hT.1) o1 (Nat.lt_of_lt_of_le hlt hW.size))
  have K2 := Lib.hid (fun (W : World) (hW : Below w.heap.size w W) => l02Text_any ⟨p.block, p.off + 2, none⟩ t.b W (steady_RegM _ _ _ _ hlt hW hT.2.1) o2 (Nat.lt_of_lt_of_le hlt hW.size))
  have K3 := Lib.hid (fun (W : World) (hW : Below w.heap.size w W) => l02Text_any ⟨p.block, p.off + 4, none⟩ t.s W (steady_RegM _ _ _ _ hlt hW hT.2.2.1) o3 (Nat.lt_of_lt_of_le hlt hW.size))
  have K4 := Lib.hid (fun (W : World) (_ : Below w.heap.size w W) => l01Dec_any t.carry W (by omega) (by omega))
  have x6 := cell_regrown hT.2.2.2
  clear hT
  go_enter Tryd.func200, Tryd.ntmps200
  go_wp2_with fail
  refine wp_region_quiet_below (by kernel_rfl) (by kernel_rfl) ?_
  repeat (go_big_quiet_step ((first | (go_at_call 218; first | (with_reducible exact quietB K1.out) | (with_reducible exact quietB K2.out) | (with_reducible exact quietB K3.out)) | (go_at_call 214; exact quietB K4.out))))
  refine wpQuiet_nil ?_
  intro _ hw'
  obtain ⟨⟨dq, osq⟩, hw''⟩ := hw'
  subst hw''
  go_wp2
  go_ret
  exact ⟨ret_str (by rfl), below_regrown w dq osq⟩
end Go.Proofs.YtlhcilmnfmglfaaDoor

namespace Go.Proofs.YtlhcilmnfmglfaaDoor
open Go.RowKit Go.Sort
theorem digs_zero : digs 0 = [] := by simp [digs]
theorem digs_facts : ∀ u : Nat, (digs u).all isD = true ∧ foldD (digs u) = u ∧ (∀ k, u < 10 ^ k → (digs u).length ≤ k) ∧ (u ≠ 0 → 1 ≤ (digs u).length) := by
  intro u
  induction u using Nat.strongRecOn with
  | _ u ih =>
    by_cases h : u = 0
    · subst h; rw [digs_zero]; exact ⟨rfl, rfl, fun _ _ => by simp, fun h => absurd rfl h⟩
    · obtain ⟨h1, h2, h3, -⟩ := ih (u / 10) (by omega)
      have hb : (UInt8.ofNat (48 + u % 10)).toNat = 48 + u % 10 := by rw [UInt8.toNat_ofNat']; omega
      rw [digs_step u h]
      refine ⟨?_, ?_, fun k hk => ?_, fun _ => by simp⟩
      · rw [List.all_append, h1]
        simp only [List.all_cons, List.all_nil, Bool.and_true, Bool.true_and]
        unfold isD; rw [hb]; exact decide_eq_true (by omega)
      · rw [foldD_snoc, h2, hb]; omega
      · cases k with
        | zero => simp at hk; omega
        | succ k =>
          have := h3 k (by rw [Nat.pow_succ] at hk; omega)
          simp; omega
theorem signOff_digs {l : List UInt8} (h : l.all isD = true) : signOff l = l := by
  cases l with
  | nil => rfl
  | cons b t =>
    rw [List.all_cons, Bool.and_eq_true] at h
    have h1 := of_decide_eq_true (show decide (48 ≤ b.toNat ∧ b.toNat ≤ 57) = true from h.1)
    simp only [signOff]; rw [if_neg (by omega)]
/-- a number is read back from its decimal form -/
theorem rdDec_dec (n : Int) (h : n.natAbs < 1000000000000000000) : rdDec (dec n) = some n := by
  obtain ⟨d1, d2, d3, d4⟩ := digs_facts n.natAbs
  have hlen := d3 18 h
  by_cases h0 : n = 0
  · subst h0
    have e : dec 0 = [48] := by rw [dec_of]; rfl
    have : numOf [48] = 0 := by decide
    unfold rdDec
    rw [e, this, e]; rfl
  · have d5 := d4 (by omega)
    by_cases hn : n < 0
    · have e : dec n = 45 :: digs n.natAbs := by rw [dec_of, if_neg h0, if_pos hn]
      have hs : signOff (dec n) = digs n.natAbs := by rw [e]; rfl
      have hv : numOf (dec n) = n := by
        unfold numOf; rw [hs, d2, if_pos (by rw [e]; simp)]; omega
      unfold rdDec
      rw [hv, hs, d1]; simp; omega
    · have e : dec n = digs n.natAbs := by rw [dec_of, if_neg h0, if_neg hn]
      have hs : signOff (dec n) = digs n.natAbs := by rw [e]; exact signOff_digs d1
      have hv : numOf (dec n) = n := by
        unfold numOf; rw [hs, d2, if_neg (by rw [e]; omega)]; omega
      unfold rdDec
      rw [hv, hs, d1]; simp; omega
theorem rdDec_sound {bs : List UInt8} {n : Int} (h : rdDec bs = some n) : dec n = bs := by
  unfold rdDec at h
  split at h
  · rename_i h1
    injection h with h
    simp only [Bool.and_eq_true, decide_eq_true_eq] at h1
    rw [← h]; exact h1.2
  · cases h
theorem dec_bytes (n : Int) : ∀ c ∈ dec n, c.toNat = 45 ∨ (48 ≤ c.toNat ∧ c.toNat ≤ 57) := by
  intro c hc
  rw [dec_of] at hc
  have hd : ∀ c ∈ digs n.natAbs, 48 ≤ c.toNat ∧ c.toNat ≤ 57 := fun c hc => of_decide_eq_true (List.all_eq_true.1 (digs_facts n.natAbs).1 c hc)
  split at hc
  · rw [List.mem_singleton.1 hc]; right; decide
  · split at hc
    · rcases List.mem_cons.1 hc with rfl | hc
      · left; rfl
      · right; exact hd c hc
    · right; exact hd c hc
theorem dec_ne (n : Int) : dec n ≠ [] := by
  rw [dec_of]
  split
  · simp
  · split
    · simp
    · intro h
      have := (digs_facts n.natAbs).2.2.2 (by omega)
      rw [h] at this; simp at this
theorem not_mem_dec {k : UInt8} (n : Int) (h : k.toNat ≠ 45) (h2 : k.toNat < 48 ∨ 57 < k.toNat) : k ∉ dec n := fun hm => by
  rcases dec_bytes n k hm with h3 | h3
  · exact h h3
  · omega
theorem dch_nat (d : Int) (h0 : 0 ≤ d) (h1 : d < 16) : (dch d).toNat = if d < 10 then 48 + d.toNat else 87 + d.toNat := by
  unfold dch; split <;> (rw [UInt8.toNat_ofNat']; omega)
theorem digV_dch (d : Int) (h0 : 0 ≤ d) (h1 : d < 16) : digV (dch d) = d := by
  unfold digV
  rw [dch_nat d h0 h1]
  by_cases h : d < 10
  · rw [if_pos h, if_pos (by omega)]; omega
  · rw [if_neg h, if_neg (by omega), if_pos (by omega)]; omega
theorem dch_digV (c : UInt8) (h : 0 ≤ digV c) : dch (digV c) = c := by
  have hlt := c.toNat_lt
  apply UInt8.toNat_inj.1
  unfold digV at h ⊢
  by_cases h1 : 48 ≤ c.toNat ∧ c.toNat ≤ 57
  · rw [if_pos h1, dch_nat _ (by omega) (by omega), if_pos (by omega)]; omega
  · rw [if_neg h1] at h ⊢
    by_cases h2 : 97 ≤ c.toNat ∧ c.toNat ≤ 102
    · rw [if_pos h2, dch_nat _ (by omega) (by omega), if_neg (by omega)]; omega
    · rw [if_neg h2] at h; omega
theorem rdR_text {b : Int} {ds : List Int} (h : vreg b ds = true) : rdR (rtextL b ds) = some ⟨b, ds⟩ := by
  obtain ⟨⟨b1, b2⟩, -, hd, -⟩ := vreg_iff.1 h
  unfold rdR rtextL
  rw [List.append_assoc, List.singleton_append, cutB_of 58 _ _ (not_mem_dec b (by decide) (by right; decide))]
  simp only [Option.bind_some]
  rw [rdDec_dec b (by omega)]
  simp only [Option.bind_some]
  have e : ((ds.reverse.map dch).reverse.map digV) = ds := by
    rw [← List.map_reverse, List.reverse_reverse, List.map_map]
    conv => rhs; rw [← List.map_id ds]
    refine List.map_congr_left fun d hm => ?_
    have := hd d hm
    exact digV_dch d this.1 (by omega)
  rw [e, h]; rfl
theorem rdR_sound {w : List UInt8} {r : Reg} (h : rdR w = some r) : r.ok = true ∧ rtextL r.base r.digits = w := by
  unfold rdR at h
  obtain ⟨⟨x, y⟩, h1, h2⟩ := Option.bind_eq_some_iff.1 h
  obtain ⟨n, h3, h4⟩ := Option.bind_eq_some_iff.1 h2
  split at h4
  · rename_i hv
    injection h4 with h4
    rw [← h4]
    refine ⟨hv, ?_⟩
    obtain ⟨h5, -⟩ := cutB_mem 58 w x y h1
    unfold rtextL
    simp only []
    rw [rdDec_sound h3, h5, List.append_assoc, List.singleton_append]
    congr 2
    rw [← List.map_reverse, List.reverse_reverse, List.map_map]
    conv => rhs; rw [← List.map_id y]
    refine List.map_congr_left fun c hc => ?_
    exact dch_digV c ((vreg_iff.1 hv).2.2.1 _ (List.mem_map.2 ⟨c, by simpa using hc, rfl⟩)).1
  · cases h4
theorem no32 {b : Int} {ds : List Int} (h : vreg b ds = true) : (32 : UInt8) ∉ rtextL b ds := by
  obtain ⟨⟨b1, b2⟩, -, hd, -⟩ := vreg_iff.1 h
  unfold rtextL
  intro hm
  rcases List.mem_append.1 hm with hm | hm
  · rcases List.mem_append.1 hm with hm | hm
    · exact not_mem_dec b (by decide) (by left; decide) hm
    · simp at hm
  · obtain ⟨d, hd1, hd2⟩ := List.mem_map.1 hm
    have h1 := hd d (by simpa using hd1)
    have h2 := dch_nat d h1.1 (by omega)
    rw [hd2] at h2
    have h3 : (32 : UInt8).toNat = 32 := rfl
    rw [h3] at h2
    split at h2 <;> omega
theorem rtextL_ne (b : Int) (ds : List Int) : rtextL b ds ≠ [] := by unfold rtextL; simp
theorem split_cases (k : UInt8) (bs : List UInt8) : (splitB k.toNat bs = [bs] ∧ k ∉ bs) ∨ ∃ x y, bs = x ++ k :: y ∧ k ∉ x ∧ splitB k.toNat bs = x :: splitB k.toNat y := by
  cases h : cutB [k] bs with
  | none => exact .inl ⟨splitB_none k bs (cutB_none k bs h), cutB_none k bs h⟩
  | some q =>
    obtain ⟨x, y⟩ := q
    obtain ⟨h1, h2⟩ := cutB_mem k bs x y h
    exact .inr ⟨x, y, h1, h2, by rw [h1, splitB_at k y x h2]⟩
theorem split_join {bs x : List UInt8} {t : List (List UInt8)} (h : splitB 32 bs = x :: t) : (t = [] ∧ bs = x) ∨ ∃ y, bs = x ++ 32 :: y ∧ splitB 32 y = t := by
  have e32 : (32 : UInt8).toNat = 32 := rfl
  rcases split_cases 32 bs with ⟨h1, -⟩ | ⟨a, y, h1, -, h3⟩
  · rw [e32, h] at h1; injection h1 with h1 h2; exact .inl ⟨h2, h1.symm⟩
  · rw [e32, h] at h3; injection h3 with h3 h4; exact .inr ⟨y, by rw [h3]; exact h1, h4.symm⟩
theorem strB_cat (a b : ByteArray) : strB (a ++ b) = strB a ++ strB b := by simp [strB]
theorem strB_mtextL {t : Tri} (h : vmach t = true) : strB (mtextL t) = rtextL t.a.base t.a.digits ++ 32 :: (rtextL t.b.base t.b.digits ++ 32 :: (rtextL t.s.base t.s.digits ++ 32 :: dec t.carry)) := by
  obtain ⟨h1, h2, h3, -⟩ := vmach_parts h
  unfold mtextL
  simp only [strB_cat, strB_mk]
  unfold rtext
  rw [if_pos h1, if_pos h2, if_pos h3]
  simp
/-- the machine of a text -/
def rdM (bs : List UInt8) : Option Tri := match wordsB bs with
  | [w0, w1, w2, w3] => if ((rdR w0).isSome && (rdR w1).isSome && (rdR w2).isSome && (rdDec w3).isSome) && decide (strB (mtext ⟨rdReg w0, rdReg w1, rdReg w2, rdN w3⟩) = bs) then some ⟨rdReg w0, rdReg w1, rdReg w2, rdN w3⟩ else none
  | _ => none
theorem isSome_R {w : List UInt8} (h : (rdR w).isSome = true) : (rdReg w).ok = true ∧ rtextL (rdReg w).base (rdReg w).digits = w := by
  obtain ⟨r, hr⟩ := Option.isSome_iff_exists.1 h
  rw [(rdr_some hr).1]; exact rdR_sound hr
theorem isSome_N {w : List UInt8} (h : (rdDec w).isSome = true) : dec (rdN w) = w := by
  obtain ⟨r, hr⟩ := Option.isSome_iff_exists.1 h
  rw [(rd_some hr).1]; exact rdDec_sound hr
theorem rdM_text {t : Tri} (h : vmach t = true) : rdM (strB (mtextL t)) = some t ∧ splitB 32 (strB (mtextL t)) = [rtextL t.a.base t.a.digits, rtextL t.b.base t.b.digits, rtextL t.s.base t.s.digits, dec t.carry] := by
  obtain ⟨h1, h2, h3, h4, h5⟩ := vmach_parts h
  have e32 : (32 : UInt8).toNat = 32 := rfl
  have hsp : splitB 32 (strB (mtextL t)) = [rtextL t.a.base t.a.digits, rtextL t.b.base t.b.digits, rtextL t.s.base t.s.digits, dec t.carry] := by
    rw [strB_mtextL h, ← e32, splitB_at 32 _ _ (no32 h1), splitB_at 32 _ _ (no32 h2), splitB_at 32 _ _ (no32 h3), splitB_none 32 _ (not_mem_dec _ (by decide) (by left; decide))]
  have hw : wordsB (strB (mtextL t)) = [rtextL t.a.base t.a.digits, rtextL t.b.base t.b.digits, rtextL t.s.base t.s.digits, dec t.carry] := by
    unfold wordsB
    rw [hsp, List.filter_eq_self]
    intro x hx
    simp only [List.mem_cons, List.not_mem_nil, or_false] at hx
    rcases hx with rfl | rfl | rfl | rfl
    · simpa using rtextL_ne _ _
    · simpa using rtextL_ne _ _
    · simpa using rtextL_ne _ _
    · simpa using dec_ne _
  have q1 := rdr_some (rdR_text h1)
  have q2 := rdr_some (rdR_text h2)
  have q3 := rdr_some (rdR_text h3)
  have q4 := rd_some (rdDec_dec t.carry (by omega))
  refine ⟨?_, hsp⟩
  unfold rdM
  rw [hw]
  simp only []
  rw [q1.1, q1.2, q2.1, q2.2, q3.1, q3.2, q4.1, q4.2]
  have e : (⟨⟨t.a.base, t.a.digits⟩, ⟨t.b.base, t.b.digits⟩, ⟨t.s.base, t.s.digits⟩, t.carry⟩ : Tri) = t := rfl
  have e2 : mtext t = mtextL t := by unfold mtext; rw [if_pos h]
  rw [e, e2]; simp
theorem rdM_sound {bs : List UInt8} {t : Tri} (h : rdM bs = some t) : vmach t = true ∧ strB (mtextL t) = bs := by
  unfold rdM at h
  split at h
  · rename_i w0 w1 w2 w3 hw
    split at h
    · rename_i hc
      injection h with h
      simp only [Bool.and_eq_true, decide_eq_true_eq] at hc
      obtain ⟨-, hm⟩ := hc
      rw [h] at hm
      rcases hv : vmach t with _ | _
      · unfold mtext at hm; rw [hv] at hm
        have : bs = [] := by rw [← hm]; rfl
        subst this
        simp [wordsB, splitB] at hw
      · unfold mtext at hm; rw [hv] at hm; exact ⟨rfl, hm⟩
    · cases h
  · cases h
theorem rdM_spec (bs : List UInt8) : rdM bs = match splitB 32 bs with
    | [w0, w1, w2, w3] => if ((rdR w0).isSome && (rdR w1).isSome && (rdR w2).isSome && (rdDec w3).isSome) && vmach ⟨rdReg w0, rdReg w1, rdReg w2, rdN w3⟩ then some ⟨rdReg w0, rdReg w1, rdReg w2, rdN w3⟩ else none
    | _ => none := by
  cases h : rdM bs with
  | some t =>
    obtain ⟨hv, hm⟩ := rdM_sound h
    obtain ⟨-, hsp⟩ := rdM_text hv
    rw [hm] at hsp
    rw [hsp]
    simp only []
    obtain ⟨h1, h2, h3, h4, h5⟩ := vmach_parts hv
    have q1 := rdr_some (rdR_text h1)
    have q2 := rdr_some (rdR_text h2)
    have q3 := rdr_some (rdR_text h3)
    have q4 := rd_some (rdDec_dec t.carry (by omega))
    rw [q1.1, q1.2, q2.1, q2.2, q3.1, q3.2, q4.1, q4.2]
    have e : (⟨⟨t.a.base, t.a.digits⟩, ⟨t.b.base, t.b.digits⟩, ⟨t.s.base, t.s.digits⟩, t.carry⟩ : Tri) = t := rfl
    rw [e, hv]; simp
  | none =>
    split
    · rename_i w0 w1 w2 w3 hsp
      split
      · rename_i hc
        exfalso
        simp only [Bool.and_eq_true] at hc
        obtain ⟨⟨⟨⟨c0, c1⟩, c2⟩, c3⟩, hv⟩ := hc
        have t0 := (isSome_R c0).2
        have t1 := (isSome_R c1).2
        have t2 := (isSome_R c2).2
        have t3 := isSome_N c3
        rcases split_join hsp with ⟨h1, -⟩ | ⟨y1, e1, hs1⟩
        · cases h1
        rcases split_join hs1 with ⟨h1, -⟩ | ⟨y2, e2, hs2⟩
        · cases h1
        rcases split_join hs2 with ⟨h1, -⟩ | ⟨y3, e3, hs3⟩
        · cases h1
        rcases split_join hs3 with ⟨-, e4⟩ | ⟨y4, e4, hs4⟩
        · have hm := strB_mtextL hv
          simp only [] at hm
          rw [t0, t1, t2, t3] at hm
          have : strB (mtextL ⟨rdReg w0, rdReg w1, rdReg w2, rdN w3⟩) = bs := by rw [hm, e1, e2, e3, e4]
          have h2 := (rdM_text hv).1
          rw [this, h] at h2; cases h2
        · exact splitB_ne 32 y4 hs4
      · rfl
    · rfl
end Go.Proofs.YtlhcilmnfmglfaaDoor

namespace Go.Proofs.YtlhcilmnfmglfaaDoor
open Go.RowKit Go.Sort
def rdMach (bs : List UInt8) : Tri := (rdM bs).getD zTri
theorem rdm_none {bs : List UInt8} (h : rdM bs = none) : rdMach bs = zTri ∧ (rdM bs).isSome = false := by simp [rdMach, h]
theorem rdm_some {bs : List UInt8} {r : Tri} (h : rdM bs = some r) : rdMach bs = r ∧ (rdM bs).isSome = true := by simp [rdMach, h]
theorem rdReg_len (bs : List UInt8) : (rdReg bs).digits.length ≤ 16 := by
  cases h : rdR bs with
  | none => rw [(rdr_none h).1]; simp
  | some r => rw [(rdr_some h).1]; exact (ok_bd (rdR_sound h).1).2.2
theorem readB (s : ByteArray) (hs : s.size ≤ 1048576) (R : Reg) (hR : rdReg (strB s) = R) (ok : Bool) (hok : (rdR (strB s)).isSome = ok) (w : World) (ht : TB w) :
    Calls Tryd.prog 203 #[.string s] w fun e w' => ∃ A c, e = .returned (.tuple #[.agg #[.int .i64 R.base, .slice A R.digits.length c], .bool ok]) ∧ Kn w [rowI A c R.digits] w' := by
  subst hR; subst hok; exact ReadRegister_any s w hs ht
theorem readS (s : ByteArray) (hs : s.size ≤ 1048576) (R : Reg) (hR : rdReg (strB s) = R) (ok : Bool) (hok : (rdR (strB s)).isSome = ok) (w : World) :
    Calls Tryd.prog 197 #[.string s] w fun e w' => ∃ A c, e = .returned (.tuple #[.agg #[.int .i64 R.base, .slice A R.digits.length c], .bool ok]) ∧ Kn w [rowI A c R.digits] w' := by
  subst hR; subst hok; exact specReadRegister_any s w hs
theorem words_each (bs : List UInt8) : ∀ x ∈ wordsB bs, x.length ≤ bs.length := fun x hx => splitB_each 32 bs x (List.mem_filter.1 hx).1
theorem Kn.sw6 {w0 w : World} {m : List Ent} {a b c d e f g : Ent} (h : Kn w0 (a :: b :: c :: d :: e :: f :: g :: m) w) : Kn w0 (g :: a :: b :: c :: d :: e :: f :: m) w := h.perm (by
  have := (List.perm_middle (a := g) (l₁ := [a, b, c, d, e, f]) (l₂ := m)); simpa using this)
theorem eq4B (a b c d : Bool) (w : World) : (Op.equalIn 10000 240 (.agg #[.bool a, .bool b, .bool c, .bool d]) (.agg #[.bool true, .bool true, .bool true, .bool true])).run Tryd.prog w = .ok (a && b && c && d) w := by
  cases a <;> cases b <;> cases c <;> cases d <;> kernel_rfl
set_option maxRecDepth 100000 in
set_option maxHeartbeats 800000 in
theorem ReadMachine_any (s : ByteArray) (w : World) (hs : s.size ≤ 1048576) (htb0 : TB w) :
    Calls Tryd.prog 185 #[.string s] w fun e w' => ∃ A1 c1 A2 c2 A3 c3, e = .returned (.tuple #[.agg #[.int .i64 (rdMach (strB s)).a.base, .slice A1 (rdMach (strB s)).a.digits.length c1, .int .i64 (rdMach (strB s)).b.base, .slice A2 (rdMach (strB s)).b.digits.length c2, .int .i64 (rdMach (strB s)).s.base, .slice A3 (rdMach (strB s)).s.digits.length c3, .int .i64 (rdMach (strB s)).carry], .bool (rdM (strB s)).isSome]) ∧
      Kn w [rowI A3 c3 (rdMach (strB s)).s.digits, rowI A2 c2 (rdMach (strB s)).b.digits, rowI A1 c1 (rdMach (strB s)).a.digits] w' := by
  have HRD := Lib.hid (show rdM (strB s) = _ from rfl)
  have KS := Lib.hid (fun W => SplitWords_any s W hs)
  have hjoin : ∀ x ∈ wordsB (strB s), x.length ≤ 1048576 := by
    intro x hx
    have := words_each (strB s) x hx; rw [strB_len] at this; omega
  have HT := Lib.hid (fun W (hW : Below w.heap.size w W) => TB.below htb0 hW)
  clear htb0
  go_enter Tryd.func185, Tryd.ntmps185
  go_wp2_with fail
  refine Calls.kn ((Kn.nil w).al [.int .i64 0, .slice none 0 0, .int .i64 0, .slice none 0 0, .int .i64 0, .slice none 0 0, .int .i64 0] 35) ?_; intro w1 hK1
  refine (KS.out w1).mono ?_; rintro e w2 ⟨A, c, ss, rfl, hss, hK⟩
  have hK2 := hK1.join hK
  have HSS := Lib.hid hss
  have HJ := Lib.hid hjoin
  clear hK hK1 hss hjoin
  obtain ⟨d1, d2, d3, -⟩ := hK2.cells
  have HNO : Hid (ss.length ≠ 4 → rdM (strB s) = none) := by
    intro h
    unfold rdM
    rw [← HSS.out]
    match ss, h with
    | [], _ => rfl
    | [_], _ => rfl
    | [_, _], _ => rfl
    | [_, _, _], _ => rfl
    | [_, _, _, _], h => exact absurd rfl h
    | _ :: _ :: _ :: _ :: _ :: _, _ => rfl
  by_cases hl4 : ss.length = 4
  · have HYES : Hid (∃ x0 x1 x2 x3, ss = [x0, x1, x2, x3]) := by
      match ss, hl4 with
      | [x0, x1, x2, x3], _ => exact ⟨x0, x1, x2, x3, rfl⟩
    obtain ⟨x0, x1, x2, x3, rfl⟩ := HYES.out
    obtain ⟨-, g, rfl, -, hg0, hg1⟩ := hK2.rowS_at (k := 0) (by simp)
    have b0 : x0.size ≤ 1048576 := by rw [← strB_len]; exact HJ.out _ (by rw [← HSS.out]; simp)
    have b1 : x1.size ≤ 1048576 := by rw [← strB_len]; exact HJ.out _ (by rw [← HSS.out]; simp)
    have b2 : x2.size ≤ 1048576 := by rw [← strB_len]; exact HJ.out _ (by rw [← HSS.out]; simp)
    have b3 : x3.size ≤ 1048576 := by rw [← strB_len]; exact HJ.out _ (by rw [← HSS.out]; simp)
    obtain ⟨t, ht⟩ : ∃ t : Tri, (⟨rdReg (strB x0), rdReg (strB x1), rdReg (strB x2), rdN (strB x3)⟩ : Tri) = t := ⟨_, rfl⟩
    have hta : rdReg (strB x0) = t.a := by rw [← ht]
    have htb : rdReg (strB x1) = t.b := by rw [← ht]
    have hts : rdReg (strB x2) = t.s := by rw [← ht]
    have htc : rdN (strB x3) = t.carry := by rw [← ht]
    have n1 := rdReg_len (strB x0); rw [hta] at n1
    have n2 := rdReg_len (strB x1); rw [htb] at n2
    have n3 := rdReg_len (strB x2); rw [hts] at n3
    obtain ⟨ok1, hok1⟩ : ∃ b, (rdR (strB x0)).isSome = b := ⟨_, rfl⟩
    obtain ⟨ok2, hok2⟩ : ∃ b, (rdR (strB x1)).isSome = b := ⟨_, rfl⟩
    obtain ⟨ok3, hok3⟩ : ∃ b, (rdR (strB x2)).isSome = b := ⟨_, rfl⟩
    obtain ⟨ok4, hok4⟩ : ∃ b, (rdDec (strB x3)).isSome = b := ⟨_, rfl⟩
    have HRR : Hid (rdM (strB s) = if (ok1 && ok2 && ok3 && ok4) && decide (strB (mtext t) = strB s) then some t else none) := by
      simp only [Hid, rdM]
      rw [← HSS.out]
      simp only [List.map_cons, List.map_nil]
      rw [hok1, hok2, hok3, hok4, ht]
    have K1 := Lib.hid (fun W hW => readB x0 b0 t.a hta ok1 hok1 W hW)
    have K2 := Lib.hid (fun W hW => readB x1 b1 t.b htb ok2 hok2 W hW)
    have K3 := Lib.hid (fun W hW => readB x2 b2 t.s hts ok3 hok3 W hW)
    have K4 := (fun W hW => ReadDecimal_any x3 W (by omega) hW)
    rw [htc, hok4] at K4
    have K4 := Lib.hid K4
    clear hl4 ht hta htb hts htc hok1 hok2 hok3 hok4
    have s0 := hK2.rowS_get (k := 0) (by simp)
    have s1 := hK2.rowS_get (k := 1) (by simp)
    have s2 := hK2.rowS_get (k := 2) (by simp)
    have s3 := hK2.rowS_get (k := 3) (by simp)
    simp only [List.getElem_cons_zero, List.getElem_cons_succ] at s0 s1 s2 s3
    have hK4 := ((hK2.al [.int .i64 0, .slice none 0 0, .int .i64 0, .slice none 0 0, .int .i64 0, .slice none 0 0, .int .i64 0] 35).al [.bool false, .bool false, .bool false, .bool false] 240).sw1
    simp only [World.size_alloc] at hK4
    have hap := hK4.apart
    simp [Ent.fp] at hap
    go_wp2_with fail
    refine Calls.kn hK4 ?_; intro w3 hK5
    clear s0 s1 s2 s3 hK4
    refine (K1.out _ (HT.out _ hK5.below)).mono ?_; rintro e w4 ⟨A1, c1, rfl, hK⟩
    have hK6 := hK5.join hK
    clear hK hK5
    obtain ⟨a1, a2, a3, f1, f2, f3, -⟩ := hK6.cells
    have s1 := hK6.drop.drop.drop.rowS_get (k := 1) (by simp)
    simp only [List.getElem_cons_succ, List.getElem_cons_zero] at s1
    go_wp2_with fail
    refine Calls.kn (m := [.blk (w2.heap.size + 1) [.bool ok1, .bool false, .bool false, .bool false] 240, .blk w2.heap.size [.int .i64 t.a.base, .slice A1 t.a.digits.length c1, .int .i64 0, .slice none 0 0, .int .i64 0, .slice none 0 0, .int .i64 0] 35, rowI A1 c1 t.a.digits, rowS (.slice (some ⟨g, 0, none⟩) 4 c) [x0, x1, x2, x3], .blk w.heap.size [.int .i64 0, .slice none 0 0, .int .i64 0, .slice none 0 0, .int .i64 0, .slice none 0 0, .int .i64 0] 35]) (((hK6.sw1.st 0 _).st 1 _).sw2.st 0 _) ?_; intro w5 hK7
    clear a1 a2 a3 f1 f2 f3 s1 hK6
    refine (K2.out _ (HT.out _ hK7.below)).mono ?_; rintro e w6 ⟨A2, c2, rfl, hK⟩
    have hK8 := hK7.join hK
    clear hK hK7
    obtain ⟨f1, f2, f3, a1, a2, a3, -⟩ := hK8.cells
    have s2 := hK8.drop.drop.drop.drop.rowS_get (k := 2) (by simp)
    simp only [List.getElem_cons_succ, List.getElem_cons_zero] at s2
    go_wp2_with fail
    refine Calls.kn (m := [.blk (w2.heap.size + 1) [.bool ok1, .bool ok2, .bool false, .bool false] 240, .blk w2.heap.size [.int .i64 t.a.base, .slice A1 t.a.digits.length c1, .int .i64 t.b.base, .slice A2 t.b.digits.length c2, .int .i64 0, .slice none 0 0, .int .i64 0] 35, rowI A2 c2 t.b.digits, rowI A1 c1 t.a.digits, rowS (.slice (some ⟨g, 0, none⟩) 4 c) [x0, x1, x2, x3], .blk w.heap.size [.int .i64 0, .slice none 0 0, .int .i64 0, .slice none 0 0, .int .i64 0, .slice none 0 0, .int .i64 0] 35]) (((hK8.sw2.st 2 _).st 3 _).sw2.st 1 _) ?_; intro w7 hK9
    clear a1 a2 a3 f1 f2 f3 s2 hK8
    refine (K3.out _ (HT.out _ hK9.below)).mono ?_; rintro e w8 ⟨A3, c3, rfl, hK⟩
    have hK10 := hK9.join hK
    clear hK hK9
    obtain ⟨f1, f2, f3, a1, a2, a3, -⟩ := hK10.cells
    have s3 := hK10.drop.drop.drop.drop.drop.rowS_get (k := 3) (by simp)
    simp only [List.getElem_cons_succ, List.getElem_cons_zero] at s3
    go_wp2_with fail
    refine Calls.kn (m := [.blk (w2.heap.size + 1) [.bool ok1, .bool ok2, .bool ok3, .bool false] 240, .blk w2.heap.size [.int .i64 t.a.base, .slice A1 t.a.digits.length c1, .int .i64 t.b.base, .slice A2 t.b.digits.length c2, .int .i64 t.s.base, .slice A3 t.s.digits.length c3, .int .i64 0] 35, rowI A3 c3 t.s.digits, rowI A2 c2 t.b.digits, rowI A1 c1 t.a.digits, rowS (.slice (some ⟨g, 0, none⟩) 4 c) [x0, x1, x2, x3], .blk w.heap.size [.int .i64 0, .slice none 0 0, .int .i64 0, .slice none 0 0, .int .i64 0, .slice none 0 0, .int .i64 0] 35]) (((hK10.sw2.st 4 _).st 5 _).sw2.st 2 _) ?_; intro w9 hK11
    clear a1 a2 a3 f1 f2 f3 s3 hK10
    refine (K4.out _ (HT.out _ hK11.below)).mono ?_; rintro e w10 ⟨rfl, hw⟩
    have hK12 := hK11.keep hw
    clear hw hK11
    obtain ⟨f1, f2, f3, a1, a2, a3, d1, d2, d3, -⟩ := hK12.cells
    have hKG : Kn w [.blk (w2.heap.size + 1) [.bool ok1, .bool ok2, .bool ok3, .bool ok4] 240, .blk w2.heap.size [.int .i64 t.a.base, .slice A1 t.a.digits.length c1, .int .i64 t.b.base, .slice A2 t.b.digits.length c2, .int .i64 t.s.base, .slice A3 t.s.digits.length c3, .int .i64 t.carry] 35, rowI A3 c3 t.s.digits, rowI A2 c2 t.b.digits, rowI A1 c1 t.a.digits, rowS (.slice (some ⟨g, 0, none⟩) 4 c) [x0, x1, x2, x3], .blk w.heap.size [.int .i64 0, .slice none 0 0, .int .i64 0, .slice none 0 0, .int .i64 0, .slice none 0 0, .int .i64 0] 35] _ := ((hK12.sw1.st 6 (.int .i64 t.carry)).sw1.st 3 (.bool ok4))
    rcases hall : (ok1 && ok2 && ok3 && ok4) with _ | _
    · have HU := Lib.hid (rdm_none (bs := strB s) (by rw [HRR.out, hall]; rfl))
      have HE4 := fun W => eq4B ok1 ok2 ok3 ok4 W
      simp only [hall] at HE4
      clear hall
      go_wp2_with (refine wpList.kn hKG ?_; intro w11 hK13; clear d1 d2 d3 f1 f2 f3 a1 a2 a3; obtain ⟨f1, f2, f3, a1, a2, a3, d1, d2, d3, -⟩ := hK13.cells)
      refine bodyPost_ret (v := .tuple #[.agg #[.int .i64 0, .slice none 0 0, .int .i64 0, .slice none 0 0, .int .i64 0, .slice none 0 0, .int .i64 0], .bool false]) (by simp [results, Tryd.results185, go_sem, d1]) rfl ⟨none, 0, none, 0, none, 0, by rw [HU.out.1, HU.out.2]; rfl, ?_⟩
      rw [HU.out.1]
      exact ((((((((((hK13.sw6.st 0 (.int .i64 0)).st 1 (.slice none 0 0)).st 2 (.int .i64 0)).st 3 (.slice none 0 0)).st 4 (.int .i64 0)).st 5 (.slice none 0 0)).st 6 (.int .i64 0))).bare.nilRow _ _).nilRow _ _).nilRow _ _
    · have HE4 := fun W => eq4B ok1 ok2 ok3 ok4 W
      simp only [hall] at HE4
      have HRR := Lib.hid (show rdM (strB s) = if decide (strB (mtext t) = strB s) then some t else none by rw [HRR.out, hall]; simp)
      clear hall
      have KM := Lib.hid (fun W (r1 : RI W A1 t.a.digits.length t.a.digits) (r2 : RI W A2 t.b.digits.length t.b.digits) (r3 : RI W A3 t.s.digits.length t.s.digits) hW => MachineText_any t A1 A2 A3 c1 c2 c3 W r1 r2 r3 ⟨by unfold SmallReg; omega, by unfold SmallReg; omega, by unfold SmallReg; omega⟩ hW)
      go_wp2_with (refine wpList.kn hKG ?_; intro w11 hK13; clear d1 d2 d3 f1 f2 f3 a1 a2 a3; obtain ⟨f1, f2, f3, a1, a2, a3, d1, d2, d3, -⟩ := hK13.cells)
      refine (KM.out w11 hK13.drop.drop.drop.drop.ownI.ri hK13.drop.drop.drop.ownI.ri hK13.drop.drop.ownI.ri (HT.out _ hK13.below)).mono ?_; rintro e w12 ⟨rfl, hw⟩
      have hK14 := hK13.keep hw
      clear hw d1 d2 d3 f1 f2 f3 a1 a2 a3 hKG
      obtain ⟨f1, f2, f3, a1, a2, a3, d1, d2, d3, -⟩ := hK14.cells
      rcases hq : ((mtext t).toList == s.toList) with _ | _
      · have HU := Lib.hid (rdm_none (bs := strB s) (by rw [HRR.out]; rw [strB_toList, strB_toList, beq_eq_false_iff_ne] at hq; simp [hq]))
        go_wp2_with fail
        refine bodyPost_ret (v := .tuple #[.agg #[.int .i64 0, .slice none 0 0, .int .i64 0, .slice none 0 0, .int .i64 0, .slice none 0 0, .int .i64 0], .bool false]) (by simp [results, Tryd.results185, go_sem, d1]) rfl ⟨none, 0, none, 0, none, 0, by rw [HU.out.1, HU.out.2]; rfl, ?_⟩
        rw [HU.out.1]
        exact ((((((((((hK14.sw6.st 0 (.int .i64 0)).st 1 (.slice none 0 0)).st 2 (.int .i64 0)).st 3 (.slice none 0 0)).st 4 (.int .i64 0)).st 5 (.slice none 0 0)).st 6 (.int .i64 0))).bare.nilRow _ _).nilRow _ _).nilRow _ _
      · have HU := Lib.hid (rdm_some (bs := strB s) (r := t) (by rw [HRR.out]; rw [strB_toList, strB_toList, beq_iff_eq] at hq; simp [hq]))
        go_wp2_with fail
        have hKT := hK14
        have hK15 := (((((((hKT.sw6.st 0 (.int .i64 t.a.base)).st 1 (.slice A1 t.a.digits.length c1)).st 2 (.int .i64 t.b.base)).st 3 (.slice A2 t.b.digits.length c2)).st 4 (.int .i64 t.s.base)).st 5 (.slice A3 t.s.digits.length c3)).st 6 (.int .i64 t.carry))
        refine bodyPost_ret (v := .tuple #[.agg #[.int .i64 t.a.base, .slice A1 t.a.digits.length c1, .int .i64 t.b.base, .slice A2 t.b.digits.length c2, .int .i64 t.s.base, .slice A3 t.s.digits.length c3, .int .i64 t.carry], .bool true]) (by simp [results, Tryd.results185, go_sem, d1]) rfl ⟨A1, c1, A2, c2, A3, c3, by rw [HU.out.1, HU.out.2], ?_⟩
        rw [HU.out.1]
        exact hK15.drop.drop.drop.drop3
  · have HU := Lib.hid (rdm_none (bs := strB s) (HNO.out hl4))
    have k1 : ((ss.length : Int) != 4) = true := by rw [bne_iff_ne]; omega
    clear hl4
    go_wp2_with fail
    refine bodyPost_ret (v := .tuple #[.agg #[.int .i64 0, .slice none 0 0, .int .i64 0, .slice none 0 0, .int .i64 0, .slice none 0 0, .int .i64 0], .bool false]) (by simp [results, Tryd.results185, go_sem, d1]) rfl ⟨none, 0, none, 0, none, 0, by rw [HU.out.1, HU.out.2]; rfl, ?_⟩
    rw [HU.out.1]
    exact ((((((((((hK2.sw1.st 0 (.int .i64 0)).st 1 (.slice none 0 0)).st 2 (.int .i64 0)).st 3 (.slice none 0 0)).st 4 (.int .i64 0)).st 5 (.slice none 0 0)).st 6 (.int .i64 0))).bare.nilRow _ _).nilRow _ _).nilRow _ _
end Go.Proofs.YtlhcilmnfmglfaaDoor
