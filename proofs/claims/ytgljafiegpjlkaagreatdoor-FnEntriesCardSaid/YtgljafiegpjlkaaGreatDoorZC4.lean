/- Part 4: lemmas and contracts of the claim's functions. -/
import Derived.Test.YtgljafiegpjlkaaGreatDoorZC1
import Derived.Test.YtgljafiegpjlkaaGreatDoorZC2
import Derived.Test.YtgljafiegpjlkaaGreatDoorZC3
import Derived.WalkLawsBesides
import Derived.Lib.QuietBelow
import Derived.Deep.DeepCutAuto
import Derived.Deep.RegionHeld3
import Derived.WalkSmall
import Derived.Laws.Bits64b
namespace Go.Proofs.YtgljafiegpjlkaaGreatDoor
open Go.RowKit Go.Sort
/-! entries, plainly -/
def ltB (a b : ByteArray) : Bool := Op.bytesLess a.toList b.toList
theorem leL : ∀ (a b : List UInt8), (Op.bytesLess b a || (b == a)) = !(Op.bytesLess a b)
  | [], [] => by simp [Op.bytesLess]
  | [], y :: ys => by simp [Op.bytesLess]
  | x :: xs, [] => by simp [Op.bytesLess]
  | x :: xs, y :: ys => by
    have h := leL xs ys
    by_cases h1 : x < y
    · have h2 : ¬ y < x := fun h2 => absurd (UInt8.lt_trans h1 h2) (UInt8.lt_irrefl x)
      have h3 : ¬ y = x := fun h3 => by rw [h3] at h1; exact absurd h1 (UInt8.lt_irrefl x)
      simp [Op.bytesLess, h1, h2, h3]
    · by_cases h3 : y = x
      · subst h3
        simp only [Op.bytesLess, UInt8.lt_irrefl, decide_false, Bool.false_or, beq_self_eq_true, Bool.true_and]
        rw [← h]
        simp
      · have h2 : y < x := by
          rcases UInt8.lt_or_lt_of_ne h3 with h4 | h4
          · exact h4
          · exact absurd h4 h1
        have h4 : ¬ x = y := fun e => h3 e.symm
        simp [Op.bytesLess, h1, h2, h3, h4]
theorem leB (a b : ByteArray) : (Op.bytesLess b.toList a.toList || (b.toList == a.toList)) = !(ltB a b) := leL a.toList b.toList
def wordAt (ws : List ByteArray) (k : Nat) : Bool := nameOk (strB (ws.getD k ⟨#[]⟩)) && (decide (k = 0) || ltB (ws.getD (k - 1) ⟨#[]⟩) (ws.getD k ⟨#[]⟩))
def wordsP (ws : List ByteArray) (k : Nat) : Bool := (List.range k).all (wordAt ws)
theorem wordsP_succ (ws : List ByteArray) (k : Nat) : wordsP ws (k + 1) = (wordsP ws k && wordAt ws k) := by
  unfold wordsP
  rw [List.range_succ, List.all_append]; simp
theorem wordsP_not {ws : List ByteArray} {k n : Nat} (h : k < n) (h0 : wordAt ws k = false) : wordsP ws n = false := by
  unfold wordsP
  rw [List.all_eq_false]
  exact ⟨k, List.mem_range.2 h, by simpa using h0⟩
def etrHead (x : Etr) : Bool := (((betB x.num 1 1000000 && nameOk (strB x.name)) && nameOk (strB x.maker)) && betB x.year 1000 3000) && decide (x.words.length ≤ 8)
def etrOk (x : Etr) : Bool := etrHead x && wordsP x.words x.words.length
structure SmE (x : Etr) : Prop where
  name : x.name.size ≤ 9223372036854775807
  maker : x.maker.size ≤ 9223372036854775807
  words : ∀ s ∈ x.words, s.size ≤ 9223372036854775807
  len : x.words.length ≤ 9223372036854775807
set_option maxRecDepth 100000 in
set_option maxHeartbeats 3200000 in
theorem validEntry_any (x : Etr) (A : Option Addr) (c : Nat) (w : World) (hr : RL StrM 1 w A x.words.length x.words) (hz : SmE x) :
    Calls Tryz.prog 62 #[.agg #[.int .i64 x.num, .string x.name, .string x.maker, .int .i64 x.year, .slice A x.words.length c]] w fun e w' => e = .returned (.bool (etrOk x)) ∧ Below w.heap.size w w' := by
  have K1 := (fun W => between_any x.num 1 1000000 W)
  have K2 := (fun W => IsName_any x.name W hz.name)
  have K3 := (fun W => IsName_any x.maker W hz.maker)
  have K4 := (fun W => between_any x.year 1000 3000 W)
  have HE := Lib.hid (show etrOk x = ((((((betB x.num 1 1000000 && nameOk (strB x.name)) && nameOk (strB x.maker)) && betB x.year 1000 3000) && decide (x.words.length ≤ 8))) && wordsP x.words x.words.length) from rfl)
  have HR := Lib.hid (fun W (hW : Below w.heap.size w W) => hr.below steady_StrM hW)
  have HW := Lib.hid hz.words
  have hlen := hz.len
  obtain ⟨R, hR⟩ : ∃ R, etrOk x = R := ⟨_, rfl⟩
  rw [hR] at HE ⊢
  obtain ⟨b1, hb1⟩ : ∃ b, betB x.num 1 1000000 = b := ⟨_, rfl⟩
  obtain ⟨b2, hb2⟩ : ∃ b, nameOk (strB x.name) = b := ⟨_, rfl⟩
  obtain ⟨b3, hb3⟩ : ∃ b, nameOk (strB x.maker) = b := ⟨_, rfl⟩
  obtain ⟨b4, hb4⟩ : ∃ b, betB x.year 1000 3000 = b := ⟨_, rfl⟩
  simp only [hb1, hb2, hb3, hb4] at K1 K2 K3 K4 HE
  clear hR hb1 hb2 hb3 hb4 hr hz
  replace K1 := Lib.hid K1
  replace K2 := Lib.hid K2
  replace K3 := Lib.hid K3
  replace K4 := Lib.hid K4
  have hK := (Kn.nil w).al [.int .i64 x.num, .string x.name, .string x.maker, .int .i64 x.year, .slice A x.words.length c] 27
  obtain ⟨g, hg⟩ : ∃ g, w.heap.size = g := ⟨_, rfl⟩
  rw [hg] at hK
  go_enter Tryz.func62, Tryz.ntmps62
  go_upto_region 1 with fail
  try rw [hg]
  refine Code.wp.kn hK ?_; clear hK hg; intro w1 hK
  obtain ⟨a1, a2, a3⟩ := hK.blkAt
  have HB := Lib.hid hK.below
  rcases b1 with _ | _
  · go_wp2_with (first | (go_at_call 130; first | ((with_reducible refine (K1.out _).mono ?_); rintro e w' ⟨rfl, hww⟩; obtain rfl := hww) | ((with_reducible refine (K4.out _).mono ?_); rintro e w' ⟨rfl, hww⟩; obtain rfl := hww)) | (go_at_call 131; first | ((with_reducible refine (K2.out _).mono ?_); rintro e w' ⟨rfl, hww⟩; obtain rfl := hww) | ((with_reducible refine (K3.out _).mono ?_); rintro e w' ⟨rfl, hww⟩; obtain rfl := hww)))
    go_ret
    exact ⟨ret_bool (by rw [HE.out]; rfl), HB.out⟩
  rcases b2 with _ | _
  · go_wp2_with (first | (go_at_call 130; first | ((with_reducible refine (K1.out _).mono ?_); rintro e w' ⟨rfl, hww⟩; obtain rfl := hww) | ((with_reducible refine (K4.out _).mono ?_); rintro e w' ⟨rfl, hww⟩; obtain rfl := hww)) | (go_at_call 131; first | ((with_reducible refine (K2.out _).mono ?_); rintro e w' ⟨rfl, hww⟩; obtain rfl := hww) | ((with_reducible refine (K3.out _).mono ?_); rintro e w' ⟨rfl, hww⟩; obtain rfl := hww)))
    go_ret
    exact ⟨ret_bool (by rw [HE.out]; rfl), HB.out⟩
  rcases b3 with _ | _
  · go_wp2_with (first | (go_at_call 130; first | ((with_reducible refine (K1.out _).mono ?_); rintro e w' ⟨rfl, hww⟩; obtain rfl := hww) | ((with_reducible refine (K4.out _).mono ?_); rintro e w' ⟨rfl, hww⟩; obtain rfl := hww)) | (go_at_call 131; first | ((with_reducible refine (K2.out _).mono ?_); rintro e w' ⟨rfl, hww⟩; obtain rfl := hww) | ((with_reducible refine (K3.out _).mono ?_); rintro e w' ⟨rfl, hww⟩; obtain rfl := hww)))
    go_ret
    exact ⟨ret_bool (by rw [HE.out]; rfl), HB.out⟩
  rcases b4 with _ | _
  · go_wp2_with (first | (go_at_call 130; first | ((with_reducible refine (K1.out _).mono ?_); rintro e w' ⟨rfl, hww⟩; obtain rfl := hww) | ((with_reducible refine (K4.out _).mono ?_); rintro e w' ⟨rfl, hww⟩; obtain rfl := hww)) | (go_at_call 131; first | ((with_reducible refine (K2.out _).mono ?_); rintro e w' ⟨rfl, hww⟩; obtain rfl := hww) | ((with_reducible refine (K3.out _).mono ?_); rintro e w' ⟨rfl, hww⟩; obtain rfl := hww)))
    go_ret
    exact ⟨ret_bool (by rw [HE.out]; rfl), HB.out⟩
  by_cases h8 : x.words.length ≤ 8
  rotate_left
  · have i8 : (8 : Int) < (x.words.length : Int) := by omega
    go_wp2_with (first | (go_at_call 130; first | ((with_reducible refine (K1.out _).mono ?_); rintro e w' ⟨rfl, hww⟩; obtain rfl := hww) | ((with_reducible refine (K4.out _).mono ?_); rintro e w' ⟨rfl, hww⟩; obtain rfl := hww)) | (go_at_call 131; first | ((with_reducible refine (K2.out _).mono ?_); rintro e w' ⟨rfl, hww⟩; obtain rfl := hww) | ((with_reducible refine (K3.out _).mono ?_); rintro e w' ⟨rfl, hww⟩; obtain rfl := hww)))
    go_ret
    exact ⟨ret_bool (by rw [HE.out, decide_eq_false h8]; rfl), HB.out⟩
  have i8 : ¬ (8 : Int) < (x.words.length : Int) := by omega
  have HE2 := Lib.hid (show R = wordsP x.words x.words.length by rw [HE.out, decide_eq_true h8]; simp)
  clear HE
  go_wp2_with (first | (go_at_call 130; first | ((with_reducible refine (K1.out _).mono ?_); rintro e w' ⟨rfl, hww⟩; obtain rfl := hww) | ((with_reducible refine (K4.out _).mono ?_); rintro e w' ⟨rfl, hww⟩; obtain rfl := hww)) | (go_at_call 131; first | ((with_reducible refine (K2.out _).mono ?_); rintro e w' ⟨rfl, hww⟩; obtain rfl := hww) | ((with_reducible refine (K3.out _).mono ?_); rintro e w' ⟨rfl, hww⟩; obtain rfl := hww)))
  clear K1 K2 K3 K4
  go_loopw [36] (fun ii wr => ∃ k : Nat, k ≤ x.words.length ∧ ii = .int .i64 k ∧ Hid (wordsP x.words k = true) ∧ w1 = wr) (fun ii _ => x.words.length - (intOf ii).toNat)
  case atStart => exact ⟨0, Nat.zero_le _, rfl, Lib.hid rfl, rfl⟩
  case round =>
    obtain ⟨k, hk, rfl, HA, rfl⟩ := hrel
    by_cases hkn : k < x.words.length
    · obtain ⟨ad, hA, hlt, hkl, hx⟩ := (HR.out _ HB.out).at_ hkn
      unfold StrM at hx
      rw [Nat.mul_one] at hx
      have hzx := HW.out _ (List.getElem_mem hkl)
      have hgd : x.words.getD k ⟨#[]⟩ = x.words[k] := by simp [List.getD, List.getElem?_eq_getElem hkl]
      obtain ⟨y, hy⟩ : ∃ y, x.words[k] = y := ⟨_, rfl⟩
      rw [hy] at hx hzx hgd
      have KN := (fun W => IsName_any y W hzx)
      have HNX := Lib.hid (show wordsP x.words (k + 1) = wordAt x.words k by rw [wordsP_succ, HA.out]; rfl)
      have HNO := Lib.hid (fun (h : wordAt x.words k = false) => show wordsP x.words x.words.length = false from wordsP_not hkn h)
      have i0 : (0 : Int) ≤ (k : Int) := by omega
      have i1 : (k : Int) < (x.words.length : Int) := by omega
      obtain ⟨b, hb⟩ : ∃ b, nameOk (strB y) = b := ⟨_, rfl⟩
      simp only [hb] at KN
      rcases Nat.eq_zero_or_pos k with hk0 | hk0
      · subst hk0
        rw [addr_add_zero] at hx
        have HWA := Lib.hid (show wordAt x.words 0 = b by unfold wordAt; rw [hgd, hb]; simp)
        replace KN := Lib.hid KN
        subst hA
        clear hgd hy hb
        rcases b with _ | _
        · go_wp2_with (go_at_call 131; refine (KN.out _).mono ?_; rintro e w' ⟨rfl, hww⟩; obtain rfl := hww)
          go_ret
          exact ⟨ret_bool (by rw [HE2.out, HNO.out HWA.out]), HB.out⟩
        · go_wp2_with (go_at_call 131; refine (KN.out _).mono ?_; rintro e w' ⟨rfl, hww⟩; obtain rfl := hww)
          go_roundw
          case rel => exact ⟨1, by omega, by go_num, Lib.hid (by rw [HNX.out, HWA.out]), by first | rfl | trivial⟩
          case measure => simp [intOf]; omega
      · obtain ⟨ad', hA', -, hkl', hx'⟩ := (HR.out _ HB.out).at_ (show k - 1 < x.words.length by omega)
        obtain rfl : ad = ad' := by rw [hA] at hA'; injection hA'
        unfold StrM at hx'
        rw [Nat.mul_one] at hx'
        have hgd2 : x.words.getD (k - 1) ⟨#[]⟩ = x.words[k - 1] := by simp [List.getD, List.getElem?_eq_getElem hkl']
        obtain ⟨j, hj⟩ : ∃ j, k - 1 = j := ⟨_, rfl⟩
        obtain ⟨z, hz⟩ : ∃ y, x.words[k - 1] = y := ⟨_, rfl⟩
        rw [hz] at hx' hgd2
        rw [hj] at hx'
        have hle := leB z y
        have HWA := Lib.hid (show wordAt x.words k = (b && ltB z y) by unfold wordAt; rw [hgd, hb, hgd2, decide_eq_false (by omega), Bool.false_or])
        obtain ⟨b1, hb1⟩ : ∃ b, Op.bytesLess y.toList z.toList = b := ⟨_, rfl⟩
        obtain ⟨b2, hb2⟩ : ∃ b, (y.toList == z.toList) = b := ⟨_, rfl⟩
        obtain ⟨b3, hb3⟩ : ∃ b, ltB z y = b := ⟨_, rfl⟩
        rw [hb1, hb2, hb3] at hle
        rw [hb3] at HWA
        have hwj : IntKind.i64.wrap ((k : Int) - 1) = (j : Int) := by rw [wrapI64 (by omega)]; omega
        have j0 : (0 : Int) ≤ (j : Int) := by omega
        have j1 : (j : Int) < (x.words.length : Int) := by omega
        have j2 : (0 : Int) < (k : Int) := by omega
        replace KN := Lib.hid KN
        subst hA
        have HLE := Lib.hid hle
        clear hgd hgd2 hy hz hb hb3 hj hA' hkl' hle
        rcases b with _ | _
        · go_wp2_with (go_at_call 131; refine (KN.out _).mono ?_; rintro e w' ⟨rfl, hww⟩; obtain rfl := hww)
          go_ret
          exact ⟨ret_bool (by rw [HE2.out, HNO.out (by rw [HWA.out]; rfl)]), HB.out⟩
        · rcases b1 with _ | _
          · rcases b2 with _ | _
            · have hb3 : Hid (b3 = true) := by have := HLE.out; cases b3 <;> first | rfl | cases this
              go_wp2_with (go_at_call 131; refine (KN.out _).mono ?_; rintro e w' ⟨rfl, hww⟩; obtain rfl := hww)
              go_roundw
              case rel => exact ⟨k + 1, by omega, by go_num, Lib.hid (by rw [HNX.out, HWA.out, hb3.out]; rfl), by first | rfl | trivial⟩
              case measure => simp [intOf]; omega
            · have hb3 : Hid (b3 = false) := by have := HLE.out; cases b3 <;> first | rfl | cases this
              go_wp2_with (go_at_call 131; refine (KN.out _).mono ?_; rintro e w' ⟨rfl, hww⟩; obtain rfl := hww)
              go_ret
              exact ⟨ret_bool (by rw [HE2.out, HNO.out (by rw [HWA.out, hb3.out]; rfl)]), HB.out⟩
          · have hb3 : Hid (b3 = false) := by have := HLE.out; cases b3 <;> first | rfl | cases this
            go_wp2_with (go_at_call 131; refine (KN.out _).mono ?_; rintro e w' ⟨rfl, hww⟩; obtain rfl := hww)
            go_ret
            exact ⟨ret_bool (by rw [HE2.out, HNO.out (by rw [HWA.out, hb3.out]; rfl)]), HB.out⟩
    · obtain rfl : k = x.words.length := by omega
      have i1 : ¬ (x.words.length : Int) < (x.words.length : Int) := by omega
      go_wp2_with fail
      go_ret
      exact ⟨ret_bool (by rw [HE2.out, HA.out]), HB.out⟩
end Go.Proofs.YtgljafiegpjlkaaGreatDoor

namespace Go.Proofs.YtgljafiegpjlkaaGreatDoor
open Go.RowKit Go.Sort
set_option maxRecDepth 100000 in
set_option maxHeartbeats 3200000 in
theorem l25One_any (p : Addr) (x : Etr) (w : World) (hp : EtrM w p x) (hz : SmE x) :
    Calls Tryz.prog 69 #[.pointer (some p)] w fun e w' => e = .returned (.bool (etrOk x)) ∧ ∃ q, w' = w.drewN q := by
  obtain ⟨A, c, -, ⟨c0, c1, c2, c3, c4⟩, hr⟩ := hp
  have K1 := (fun W => l00In_any x.num 1 1000000 W)
  have K2 := (fun W => specIsName_any x.name W hz.name)
  have K3 := (fun W => specIsName_any x.maker W hz.maker)
  have K4 := (fun W => l00In_any x.year 1000 3000 W)
  have HE := Lib.hid (show etrOk x = ((((((betB x.num 1 1000000 && nameOk (strB x.name)) && nameOk (strB x.maker)) && betB x.year 1000 3000) && decide (x.words.length ≤ 8))) && wordsP x.words x.words.length) from rfl)
  have HW := Lib.hid hz.words
  have hlen := hz.len
  obtain ⟨R, hR⟩ : ∃ R, etrOk x = R := ⟨_, rfl⟩
  rw [hR] at HE ⊢
  obtain ⟨b1, hb1⟩ : ∃ b, betB x.num 1 1000000 = b := ⟨_, rfl⟩
  obtain ⟨b2, hb2⟩ : ∃ b, nameOk (strB x.name) = b := ⟨_, rfl⟩
  obtain ⟨b3, hb3⟩ : ∃ b, nameOk (strB x.maker) = b := ⟨_, rfl⟩
  obtain ⟨b4, hb4⟩ : ∃ b, betB x.year 1000 3000 = b := ⟨_, rfl⟩
  simp only [hb1, hb2, hb3, hb4] at K1 K2 K3 K4 HE
  clear hR hb1 hb2 hb3 hb4 hz
  replace K1 := Lib.hid K1
  replace K2 := Lib.hid K2
  replace K3 := Lib.hid K3
  replace K4 := Lib.hid K4
  have HR := Lib.hid hr
  clear hr
  go_enter Tryz.func69, Tryz.ntmps69
  rcases b1 with _ | _
  · go_wp2_with (first | (go_at_call 137; first | ((with_reducible refine (K1.out _).mono ?_); rintro e w' ⟨rfl, hww⟩; obtain rfl := hww) | ((with_reducible refine (K4.out _).mono ?_); rintro e w' ⟨rfl, hww⟩; obtain rfl := hww)) | (go_at_call 138; first | ((with_reducible refine (K2.out _).mono ?_); rintro e w' ⟨rfl, hww⟩; obtain rfl := hww) | ((with_reducible refine (K3.out _).mono ?_); rintro e w' ⟨rfl, hww⟩; obtain rfl := hww)))
    go_ret
    exact ⟨ret_bool (by rw [HE.out]; rfl), 0, rfl⟩
  rcases b2 with _ | _
  · go_wp2_with (first | (go_at_call 137; first | ((with_reducible refine (K1.out _).mono ?_); rintro e w' ⟨rfl, hww⟩; obtain rfl := hww) | ((with_reducible refine (K4.out _).mono ?_); rintro e w' ⟨rfl, hww⟩; obtain rfl := hww)) | (go_at_call 138; first | ((with_reducible refine (K2.out _).mono ?_); rintro e w' ⟨rfl, hww⟩; obtain rfl := hww) | ((with_reducible refine (K3.out _).mono ?_); rintro e w' ⟨rfl, hww⟩; obtain rfl := hww)))
    go_ret
    exact ⟨ret_bool (by rw [HE.out]; rfl), 0, rfl⟩
  rcases b3 with _ | _
  · go_wp2_with (first | (go_at_call 137; first | ((with_reducible refine (K1.out _).mono ?_); rintro e w' ⟨rfl, hww⟩; obtain rfl := hww) | ((with_reducible refine (K4.out _).mono ?_); rintro e w' ⟨rfl, hww⟩; obtain rfl := hww)) | (go_at_call 138; first | ((with_reducible refine (K2.out _).mono ?_); rintro e w' ⟨rfl, hww⟩; obtain rfl := hww) | ((with_reducible refine (K3.out _).mono ?_); rintro e w' ⟨rfl, hww⟩; obtain rfl := hww)))
    go_ret
    exact ⟨ret_bool (by rw [HE.out]; rfl), 0, rfl⟩
  rcases b4 with _ | _
  · go_wp2_with (first | (go_at_call 137; first | ((with_reducible refine (K1.out _).mono ?_); rintro e w' ⟨rfl, hww⟩; obtain rfl := hww) | ((with_reducible refine (K4.out _).mono ?_); rintro e w' ⟨rfl, hww⟩; obtain rfl := hww)) | (go_at_call 138; first | ((with_reducible refine (K2.out _).mono ?_); rintro e w' ⟨rfl, hww⟩; obtain rfl := hww) | ((with_reducible refine (K3.out _).mono ?_); rintro e w' ⟨rfl, hww⟩; obtain rfl := hww)))
    go_ret
    exact ⟨ret_bool (by rw [HE.out]; rfl), 0, rfl⟩
  by_cases h8 : x.words.length ≤ 8
  rotate_left
  · have i8 : (8 : Int) < (x.words.length : Int) := by omega
    go_wp2_with (first | (go_at_call 137; first | ((with_reducible refine (K1.out _).mono ?_); rintro e w' ⟨rfl, hww⟩; obtain rfl := hww) | ((with_reducible refine (K4.out _).mono ?_); rintro e w' ⟨rfl, hww⟩; obtain rfl := hww)) | (go_at_call 138; first | ((with_reducible refine (K2.out _).mono ?_); rintro e w' ⟨rfl, hww⟩; obtain rfl := hww) | ((with_reducible refine (K3.out _).mono ?_); rintro e w' ⟨rfl, hww⟩; obtain rfl := hww)))
    go_ret
    exact ⟨ret_bool (by rw [HE.out, decide_eq_false h8]; rfl), 0, rfl⟩
  have i8 : ¬ (8 : Int) < (x.words.length : Int) := by omega
  have HE2 := Lib.hid (show R = wordsP x.words x.words.length by rw [HE.out, decide_eq_true h8]; simp)
  clear HE
  go_wp2_with (first | (go_at_call 137; first | ((with_reducible refine (K1.out _).mono ?_); rintro e w' ⟨rfl, hww⟩; obtain rfl := hww) | ((with_reducible refine (K4.out _).mono ?_); rintro e w' ⟨rfl, hww⟩; obtain rfl := hww)) | (go_at_call 138; first | ((with_reducible refine (K2.out _).mono ?_); rintro e w' ⟨rfl, hww⟩; obtain rfl := hww) | ((with_reducible refine (K3.out _).mono ?_); rintro e w' ⟨rfl, hww⟩; obtain rfl := hww)))
  clear K1 K2 K3 K4
  go_loopw [3] (fun ii wr => ∃ k : Nat, k ≤ x.words.length ∧ ii = .int .i64 k ∧ Hid (wordsP x.words k = true) ∧ ∃ q, wr = w.drewN q) (fun ii _ => x.words.length - (intOf ii).toNat)
  case atStart => exact ⟨0, Nat.zero_le _, rfl, Lib.hid rfl, 0, rfl⟩
  case round =>
    obtain ⟨k, hk, rfl, HA, q, rfl⟩ := hrel
    by_cases hkn : k < x.words.length
    · obtain ⟨ad, hA, hlt, hkl, hx⟩ := HR.out.at_ hkn
      unfold StrM at hx
      rw [Nat.mul_one] at hx
      have hzx := HW.out _ (List.getElem_mem hkl)
      have hgd : x.words.getD k ⟨#[]⟩ = x.words[k] := by simp [List.getD, List.getElem?_eq_getElem hkl]
      obtain ⟨y, hy⟩ : ∃ y, x.words[k] = y := ⟨_, rfl⟩
      rw [hy] at hx hzx hgd
      have KN := (fun W => specIsName_any y W hzx)
      have HNX := Lib.hid (show wordsP x.words (k + 1) = wordAt x.words k by rw [wordsP_succ, HA.out]; rfl)
      have HNO := Lib.hid (fun (h : wordAt x.words k = false) => show wordsP x.words x.words.length = false from wordsP_not hkn h)
      have i0 : (0 : Int) ≤ (k : Int) := by omega
      have i1 : (k : Int) < (x.words.length : Int) := by omega
      obtain ⟨b, hb⟩ : ∃ b, nameOk (strB y) = b := ⟨_, rfl⟩
      simp only [hb] at KN
      rcases Nat.eq_zero_or_pos k with hk0 | hk0
      · subst hk0
        rw [addr_add_zero] at hx
        have HWA := Lib.hid (show wordAt x.words 0 = b by unfold wordAt; rw [hgd, hb]; simp)
        replace KN := Lib.hid KN
        subst hA
        clear hgd hy hb
        rcases b with _ | _
        · go_wp2_with fail
          go_quiet ((go_at_call 138; first | exact quiet_left (KN.out _) | exact quiet_add_left (KN.out _)))
          go_wp2
          go_ret
          exact ⟨ret_bool (by rw [HE2.out, HNO.out (HWA.out)]), by first | exact ⟨_, rfl⟩ | exact ⟨_, World.drewN_drewN _ _ _⟩⟩
        · obtain ⟨k, hk0⟩ : ∃ k : Nat, k = 0 := ⟨0, rfl⟩
          go_wp2_with fail
          go_quiet ((go_at_call 138; first | exact quiet_left (KN.out _) | exact quiet_add_left (KN.out _)))
          go_wp2
          go_roundw
          case rel => exact ⟨1, by omega, by go_num, Lib.hid (by rw [HNX.out, HWA.out]), by first | exact ⟨_, rfl⟩ | exact ⟨_, World.drewN_drewN _ _ _⟩⟩
          case measure => simp [intOf]; omega
      · obtain ⟨ad', hA', -, hkl', hx'⟩ := HR.out.at_ (show k - 1 < x.words.length by omega)
        obtain rfl : ad = ad' := by rw [hA] at hA'; injection hA'
        unfold StrM at hx'
        rw [Nat.mul_one] at hx'
        have hgd2 : x.words.getD (k - 1) ⟨#[]⟩ = x.words[k - 1] := by simp [List.getD, List.getElem?_eq_getElem hkl']
        obtain ⟨j, hj⟩ : ∃ j, k - 1 = j := ⟨_, rfl⟩
        obtain ⟨z, hz⟩ : ∃ y, x.words[k - 1] = y := ⟨_, rfl⟩
        rw [hz] at hx' hgd2
        rw [hj] at hx'
        have HWA := Lib.hid (show wordAt x.words k = (b && ltB z y) by unfold wordAt; rw [hgd, hb, hgd2, decide_eq_false (by omega), Bool.false_or])
        obtain ⟨b3, hb3⟩ : ∃ b, ltB z y = b := ⟨_, rfl⟩
        rw [hb3] at HWA
        have hb1 : Op.bytesLess z.toList y.toList = b3 := hb3
        have hwj : IntKind.i64.wrap ((k : Int) - 1) = (j : Int) := by rw [wrapI64 (by omega)]; omega
        have j0 : (0 : Int) ≤ (j : Int) := by omega
        have j1 : (j : Int) < (x.words.length : Int) := by omega
        have j2 : (0 : Int) < (k : Int) := by omega
        have j3 : decide ((0 : Int) < (k : Int)) = true := decide_eq_true j2
        replace KN := Lib.hid KN
        subst hA
        clear hgd hgd2 hy hz hb hb3 hj hA' hkl'
        rcases b with _ | _
        · go_wp2_with fail
          go_quiet ((go_at_call 138; first | exact quiet_left (KN.out _) | exact quiet_add_left (KN.out _)))
          go_wp2
          go_ret
          exact ⟨ret_bool (by rw [HE2.out, HNO.out (by rw [HWA.out]; rfl)]), by first | exact ⟨_, rfl⟩ | exact ⟨_, World.drewN_drewN _ _ _⟩⟩
        · rcases b3 with _ | _
          · go_wp2_with fail
            go_quiet ((go_at_call 138; first | exact quiet_left (KN.out _) | exact quiet_add_left (KN.out _)))
            go_wp2
            go_ret
            exact ⟨ret_bool (by rw [HE2.out, HNO.out (by rw [HWA.out]; rfl)]), by first | exact ⟨_, rfl⟩ | exact ⟨_, World.drewN_drewN _ _ _⟩⟩
          · go_wp2_with fail
            go_quiet ((go_at_call 138; first | exact quiet_left (KN.out _) | exact quiet_add_left (KN.out _)))
            go_wp2
            go_roundw
            case rel => exact ⟨k + 1, by omega, by go_num, Lib.hid (by rw [HNX.out]; rw [HWA.out]; rfl), by first | exact ⟨_, rfl⟩ | exact ⟨_, World.drewN_drewN _ _ _⟩⟩
            case measure => simp [intOf]; omega
    · obtain rfl : k = x.words.length := by omega
      have i1 : ¬ (x.words.length : Int) < (x.words.length : Int) := by omega
      go_wp2_with fail
      go_ret
      exact ⟨ret_bool (by rw [HE2.out, HA.out]), q, rfl⟩
end Go.Proofs.YtgljafiegpjlkaaGreatDoor

namespace Go.Proofs.YtgljafiegpjlkaaGreatDoor
open Go.RowKit Go.Sort
def entAt (L : List Etr) (k : Nat) : Bool := etrOk (L.getD k default) && (decide (k = 0) || decide ((L.getD (k - 1) default).num < (L.getD k default).num))
def entsP (L : List Etr) (k : Nat) : Bool := (List.range k).all (entAt L)
def entsOk (L : List Etr) : Bool := entsP L L.length && decide (L.length ≤ 50)
theorem entsP_succ (L : List Etr) (k : Nat) : entsP L (k + 1) = (entsP L k && entAt L k) := by
  unfold entsP
  rw [List.range_succ, List.all_append]; simp
theorem entsP_not {L : List Etr} {k n : Nat} (h : k < n) (h0 : entAt L k = false) : entsP L n = false := by
  unfold entsP
  rw [List.all_eq_false]
  exact ⟨k, List.mem_range.2 h, by simpa using h0⟩
set_option maxRecDepth 100000 in
set_option maxHeartbeats 3200000 in
theorem ValidEntries_any (A : Option Addr) (n c : Nat) (L : List Etr) (w : World) (hr : RL EtrM 5 w A n L) (hn : n ≤ 9223372036854775807) (hz : ∀ x ∈ L, SmE x) :
    Calls Tryz.prog 26 #[.slice A n c] w fun e w' => e = .returned (.bool (entsOk L)) ∧ Below w.heap.size w w' := by
  have HL := Lib.hid hr.1
  have HR := Lib.hid (fun W (hW : Below w.heap.size w W) => hr.below steady_EtrM hW)
  have HZ := Lib.hid hz
  have HE := Lib.hid (show entsOk L = (entsP L L.length && decide (L.length ≤ 50)) from rfl)
  obtain ⟨R, hR⟩ : ∃ R, entsOk L = R := ⟨_, rfl⟩
  rw [hR] at HE ⊢
  clear hR hr hz
  go_enter Tryz.func26, Tryz.ntmps26
  go_wp2_with fail
  go_loopw [7] (fun ii wr => ∃ k : Nat, k ≤ n ∧ ii = .int .i64 k ∧ Hid (entsP L k = true) ∧ Below w.heap.size w wr) (fun ii _ => n - (intOf ii).toNat)
  case atStart => exact ⟨0, Nat.zero_le _, rfl, Lib.hid rfl, Below.refl _ _⟩
  case round =>
    obtain ⟨k, hk, rfl, HA, hbw⟩ := hrel
    by_cases hkn : k < n
    · obtain ⟨ad, hA, hlt, hkl, hx⟩ := (HR.out _ hbw).at_ hkn
      have hgd : L.getD k default = L[k] := by simp [List.getD, List.getElem?_eq_getElem hkl]
      have hzx := HZ.out _ (List.getElem_mem hkl)
      obtain ⟨x, hxe⟩ : ∃ x, L[k] = x := ⟨_, rfl⟩
      rw [hxe] at hx hgd hzx
      have HNX := Lib.hid (show entsP L (k + 1) = entAt L k by rw [entsP_succ, HA.out]; rfl)
      have HNO := Lib.hid (fun (h : entAt L k = false) => show entsP L L.length = false from entsP_not hkl h)
      obtain ⟨b, hb⟩ : ∃ b, etrOk x = b := ⟨_, rfl⟩
      have i0 : (0 : Int) ≤ (k : Int) := by omega
      have i1 : (k : Int) < (n : Int) := by omega
      clear hxe
      skip
      rcases Nat.eq_zero_or_pos k with hk0 | hk0
      · subst hk0
        have HWA := Lib.hid (show entAt L 0 = b by unfold entAt; rw [hgd, hb]; simp)
        rw [Nat.zero_mul, addr_add_zero] at hx
        obtain ⟨XA, xc, -, ⟨c0, c1, c2, c3, c4⟩, hxr⟩ := hx
        have hK := (Kn.nil wr).al [.int .i64 x.num, .string x.name, .string x.maker, .int .i64 x.year, .slice XA x.words.length xc] 27
        obtain ⟨g, hg⟩ : ∃ g, wr.heap.size = g := ⟨_, rfl⟩
        rw [hg] at hK
        subst hA
        go_upto_region 4 with fail
        try rw [hg]
        refine Code.wp.kn hK ?_; clear hK hg; intro w3 hK
        have KV := (fun W (hW : Below w3.heap.size w3 W) => validEntry_any x XA xc W (hxr.below steady_StrM (hK.below.trans (hW.mono hK.size))) hzx)
        rw [hb] at KV
        have KV1 := Lib.hid KV
        have x0 := cell_regrown (show w3.cell? ⟨g, 0, none⟩ = some (.int .i64 x.num) from hK.blkAt.1 0)
        have x1 := cell_regrown (show w3.cell? ⟨g, 1, none⟩ = some (.string x.name) from hK.blkAt.1 1)
        have x2 := cell_regrown (show w3.cell? ⟨g, 2, none⟩ = some (.string x.maker) from hK.blkAt.1 2)
        have x3 := cell_regrown (show w3.cell? ⟨g, 3, none⟩ = some (.int .i64 x.year) from hK.blkAt.1 3)
        have x4 := cell_regrown (show w3.cell? ⟨g, 4, none⟩ = some (.slice XA x.words.length xc) from hK.blkAt.1 4)
        clear KV c0 c1 c2 c3 c4 hxr
        clear hgd hb
        rcases b with _ | _
        · have HNX2 := Lib.hid HWA.out
          refine wp_region_quiet_below (by kernel_rfl) (by kernel_rfl) ?_
          repeat (go_big_quiet_step ((go_at_call 62; with_reducible exact quietB KV1.out)))
          refine wpQuiet_nil ?_
          intro _ hw'
          obtain ⟨⟨dq, osq⟩, hw''⟩ := hw'
          subst hw''
          obtain ⟨w4, hw3⟩ : ∃ W, grow (redrawn w3 dq) osq = W := ⟨_, rfl⟩
          have hK2 := hK.keep (below_regrown w3 dq osq)
          dsimp only
          rw [hw3] at hK2 ⊢
          clear hw3
          have HB4 := Lib.hid (hbw.trans (hK2.below.mono hbw.size))
          go_wp2_with fail
          go_ret
          exact ⟨ret_bool (by rw [HE.out, HNO.out HNX2.out]; rfl), HB4.out⟩
        · have HNX2 := Lib.hid (HNX.out.trans HWA.out)
          refine wp_region_quiet_below (by kernel_rfl) (by kernel_rfl) ?_
          repeat (go_big_quiet_step ((go_at_call 62; with_reducible exact quietB KV1.out)))
          refine wpQuiet_nil ?_
          intro _ hw'
          obtain ⟨⟨dq, osq⟩, hw''⟩ := hw'
          subst hw''
          obtain ⟨w4, hw3⟩ : ∃ W, grow (redrawn w3 dq) osq = W := ⟨_, rfl⟩
          have hK2 := hK.keep (below_regrown w3 dq osq)
          dsimp only
          rw [hw3] at hK2 ⊢
          clear hw3
          have HB4 := Lib.hid (hbw.trans (hK2.below.mono hbw.size))
          go_wp2_with fail
          go_roundw
          case rel => exact ⟨1, by omega, by go_num, Lib.hid HNX2.out, HB4.out⟩
          case measure => simp [intOf] <;> omega
      · obtain ⟨XA, xc, -, ⟨c0, c1, c2, c3, c4⟩, hxr⟩ := hx
        have hK := (Kn.nil wr).al [.int .i64 x.num, .string x.name, .string x.maker, .int .i64 x.year, .slice XA x.words.length xc] 27
        obtain ⟨g, hg⟩ : ∃ g, wr.heap.size = g := ⟨_, rfl⟩
        rw [hg] at hK
        subst hA
        go_upto_region 4 with fail
        try rw [hg]
        refine Code.wp.kn hK ?_; clear hK hg; intro w3 hK
        have KV := (fun W (hW : Below w3.heap.size w3 W) => validEntry_any x XA xc W (hxr.below steady_StrM (hK.below.trans (hW.mono hK.size))) hzx)
        rw [hb] at KV
        have KV1 := Lib.hid KV
        have x0 := cell_regrown (show w3.cell? ⟨g, 0, none⟩ = some (.int .i64 x.num) from hK.blkAt.1 0)
        have x1 := cell_regrown (show w3.cell? ⟨g, 1, none⟩ = some (.string x.name) from hK.blkAt.1 1)
        have x2 := cell_regrown (show w3.cell? ⟨g, 2, none⟩ = some (.string x.maker) from hK.blkAt.1 2)
        have x3 := cell_regrown (show w3.cell? ⟨g, 3, none⟩ = some (.int .i64 x.year) from hK.blkAt.1 3)
        have x4 := cell_regrown (show w3.cell? ⟨g, 4, none⟩ = some (.slice XA x.words.length xc) from hK.blkAt.1 4)
        clear KV c0 c1 c2 c3 c4 hxr
        obtain ⟨ad', hA', hlt', hkl', hy⟩ := (HR.out _ (hbw.trans (hK.below.mono hbw.size))).at_ (show k - 1 < n by omega)
        obtain rfl : ad = ad' := by injection hA'
        have hgd2 : L.getD (k - 1) default = L[k - 1] := by simp [List.getD, List.getElem?_eq_getElem hkl']
        obtain ⟨j, hj⟩ : ∃ j, k - 1 = j := ⟨_, rfl⟩
        obtain ⟨y, hye⟩ : ∃ y, L[k - 1] = y := ⟨_, rfl⟩
        rw [hye] at hy hgd2
        rw [hj] at hy
        obtain ⟨YA, yc, -, ⟨d0, -⟩, -⟩ := hy
        have y0 := cell_regrown d0
        obtain ⟨yn, hyn⟩ : ∃ v, y.num = v := ⟨_, rfl⟩
        obtain ⟨xn, hxn⟩ : ∃ v, x.num = v := ⟨_, rfl⟩
        have HWA := Lib.hid (show entAt L k = (b && decide (yn < xn)) by unfold entAt; rw [hgd, hb, hgd2, hyn, hxn, decide_eq_false (by omega : ¬ k = 0), Bool.false_or])
        have hwj : IntKind.i64.wrap ((k : Int) - 1) = (j : Int) := by rw [wrapI64 (by omega)]; omega
        have j0 : (0 : Int) ≤ (j : Int) := by omega
        have j1 : (j : Int) < (n : Int) := by omega
        have j2 : (0 : Int) < (k : Int) := by omega
        have j3 : decide ((0 : Int) < (k : Int)) = true := decide_eq_true j2
        rw [hyn] at y0
        rw [hxn] at x0 hK KV1
        clear hgd hgd2 hye hb hj hA' hkl' hyn d0 hlt'
        rcases b with _ | _
        · have HNX2 := Lib.hid (show entAt L k = false by rw [HWA.out]; rfl)
          clear hxn
          refine wp_region_quiet_below (by kernel_rfl) (by kernel_rfl) ?_
          repeat (go_big_quiet_step ((go_at_call 62; with_reducible exact quietB KV1.out)))
          refine wpQuiet_nil ?_
          intro _ hw'
          obtain ⟨⟨dq, osq⟩, hw''⟩ := hw'
          subst hw''
          obtain ⟨w4, hw3⟩ : ∃ W, grow (redrawn w3 dq) osq = W := ⟨_, rfl⟩
          have hK2 := hK.keep (below_regrown w3 dq osq)
          dsimp only
          rw [hw3] at hK2 ⊢
          clear hw3
          have HB4 := Lib.hid (hbw.trans (hK2.below.mono hbw.size))
          go_wp2_with fail
          go_ret
          exact ⟨ret_bool (by rw [HE.out, HNO.out HNX2.out]; rfl), HB4.out⟩
        · by_cases hcmp : yn < xn
          · have HNX2 := Lib.hid (show entsP L (k + 1) = true by rw [HNX.out, HWA.out, decide_eq_true hcmp]; rfl)
            have hc2 : decide (xn ≤ yn) = false := decide_eq_false (by omega)
            have hc3 : ¬ xn ≤ yn := by omega
            clear hxn
            refine wp_region_quiet_below (by kernel_rfl) (by kernel_rfl) ?_
            repeat (go_big_quiet_step ((go_at_call 62; with_reducible exact quietB KV1.out)))
            refine wpQuiet_nil ?_
            intro _ hw'
            obtain ⟨⟨dq, osq⟩, hw''⟩ := hw'
            subst hw''
            obtain ⟨w4, hw3⟩ : ∃ W, grow (redrawn w3 dq) osq = W := ⟨_, rfl⟩
            have hK2 := hK.keep (below_regrown w3 dq osq)
            dsimp only
            rw [hw3] at hK2 ⊢
            clear hw3
            have HB4 := Lib.hid (hbw.trans (hK2.below.mono hbw.size))
            go_wp2_with fail
            go_roundw
            case rel => exact ⟨k + 1, by omega, by go_num, Lib.hid HNX2.out, HB4.out⟩
            case measure => simp [intOf] <;> omega
          · have HNX2 := Lib.hid (show entAt L k = false by rw [HWA.out, decide_eq_false hcmp]; rfl)
            have hc2 : decide (xn ≤ yn) = true := decide_eq_true (by omega)
            have hc3 : xn ≤ yn := by omega
            clear hxn
            refine wp_region_quiet_below (by kernel_rfl) (by kernel_rfl) ?_
            repeat (go_big_quiet_step ((go_at_call 62; with_reducible exact quietB KV1.out)))
            refine wpQuiet_nil ?_
            intro _ hw'
            obtain ⟨⟨dq, osq⟩, hw''⟩ := hw'
            subst hw''
            obtain ⟨w4, hw3⟩ : ∃ W, grow (redrawn w3 dq) osq = W := ⟨_, rfl⟩
            have hK2 := hK.keep (below_regrown w3 dq osq)
            dsimp only
            rw [hw3] at hK2 ⊢
            clear hw3
            have HB4 := Lib.hid (hbw.trans (hK2.below.mono hbw.size))
            go_wp2_with fail
            go_ret
            exact ⟨ret_bool (by rw [HE.out, HNO.out HNX2.out]; rfl), HB4.out⟩
    · have i1 : ¬ (k : Int) < (n : Int) := by omega
      obtain rfl : n = k := by omega
      have hall := HA.out
      rw [← HL.out] at hall
      by_cases h50 : n ≤ 50
      · have i2 : (n : Int) ≤ 50 := by omega
        have HQ := Lib.hid (show R = true by rw [HE.out, hall, decide_eq_true (by rw [HL.out]; exact h50)]; rfl)
        clear hall
        go_wp2_with fail
        go_ret
        exact ⟨ret_bool HQ.out.symm, hbw⟩
      · have i2 : ¬ (n : Int) ≤ 50 := by omega
        have HQ := Lib.hid (show R = false by rw [HE.out, hall, decide_eq_false (by rw [HL.out]; exact h50)]; rfl)
        clear hall
        go_wp2_with fail
        go_ret
        exact ⟨ret_bool HQ.out.symm, hbw⟩
theorem drewN_Bw {w w' : World} (h : ∃ m, w' = w.drewN m) : Below w.heap.size w w' := by
  obtain ⟨m, rfl⟩ := h; exact drewN_below m
set_option maxRecDepth 100000 in
set_option maxHeartbeats 3200000 in
theorem l25Ok_any (A : Option Addr) (n c : Nat) (L : List Etr) (w : World) (hr : RL EtrM 5 w A n L) (hn : n ≤ 9223372036854775807) (hz : ∀ x ∈ L, SmE x) :
    Calls Tryz.prog 68 #[.slice A n c] w fun e w' => e = .returned (.bool (entsOk L)) ∧ Below w.heap.size w w' := by
  have HL := Lib.hid hr.1
  have HR := Lib.hid (fun W (hW : Below w.heap.size w W) => hr.below steady_EtrM hW)
  have HZ := Lib.hid hz
  have HE := Lib.hid (show entsOk L = (entsP L L.length && decide (L.length ≤ 50)) from rfl)
  obtain ⟨R, hR⟩ : ∃ R, entsOk L = R := ⟨_, rfl⟩
  rw [hR] at HE ⊢
  clear hR hr hz
  go_enter Tryz.func68, Tryz.ntmps68
  go_wp2_with fail
  go_loopw [3] (fun ii wr => ∃ k : Nat, k ≤ n ∧ ii = .int .i64 k ∧ Hid (entsP L k = true) ∧ Below w.heap.size w wr) (fun ii _ => n - (intOf ii).toNat)
  case atStart => exact ⟨0, Nat.zero_le _, rfl, Lib.hid rfl, Below.refl _ _⟩
  case round =>
    obtain ⟨k, hk, rfl, HA, hbw⟩ := hrel
    by_cases hkn : k < n
    · obtain ⟨ad, hA, hlt, hkl, hx⟩ := (HR.out _ hbw).at_ hkn
      have hgd : L.getD k default = L[k] := by simp [List.getD, List.getElem?_eq_getElem hkl]
      have hzx := HZ.out _ (List.getElem_mem hkl)
      obtain ⟨x, hxe⟩ : ∃ x, L[k] = x := ⟨_, rfl⟩
      rw [hxe] at hx hgd hzx
      have HNX := Lib.hid (show entsP L (k + 1) = entAt L k by rw [entsP_succ, HA.out]; rfl)
      have HNO := Lib.hid (fun (h : entAt L k = false) => show entsP L L.length = false from entsP_not hkl h)
      obtain ⟨b, hb⟩ : ∃ b, etrOk x = b := ⟨_, rfl⟩
      have i0 : (0 : Int) ≤ (k : Int) := by omega
      have i1 : (k : Int) < (n : Int) := by omega
      clear hxe
      skip
      have KV := (fun W (hW : Below wr.heap.size wr W) => (l25One_any (ad.add (k * 5)) x W (steady_EtrM _ _ _ _ (by rw [block_of_add]; exact hlt) hW hx) hzx).mono fun e w' h => (⟨h.1, drewN_Bw h.2⟩ : _ ∧ Below W.heap.size W w'))
      rw [hb] at KV
      have hK := Kn.nil wr
      obtain ⟨w3, hw30⟩ : ∃ W, W = wr := ⟨_, rfl⟩
      subst hw30
      rcases Nat.eq_zero_or_pos k with hk0 | hk0
      · subst hk0
        have HWA := Lib.hid (show entAt L 0 = b by unfold entAt; rw [hgd, hb]; simp)
        rw [Nat.zero_mul, addr_add_zero] at hx KV
        have KV1 := Lib.hid KV
        subst hA
        clear hgd hb KV hx
        go_upto_region 4 with fail
        rcases b with _ | _
        · have HNX2 := Lib.hid HWA.out
          refine wp_region_quiet_below (by kernel_rfl) (by kernel_rfl) ?_
          repeat (go_big_quiet_step ((go_at_call 69; with_reducible exact quietB KV1.out)))
          refine wpQuiet_nil ?_
          intro _ hw'
          obtain ⟨⟨dq, osq⟩, hw''⟩ := hw'
          subst hw''
          obtain ⟨w4, hw3⟩ : ∃ W, grow (redrawn w3 dq) osq = W := ⟨_, rfl⟩
          have hK2 := hK.keep (below_regrown w3 dq osq)
          dsimp only
          rw [hw3] at hK2 ⊢
          clear hw3
          have HB4 := Lib.hid (hbw.trans (hK2.below.mono hbw.size))
          go_wp2_with fail
          go_ret
          exact ⟨ret_bool (by rw [HE.out, HNO.out HNX2.out]; rfl), HB4.out⟩
        · have HNX2 := Lib.hid (HNX.out.trans HWA.out)
          refine wp_region_quiet_below (by kernel_rfl) (by kernel_rfl) ?_
          repeat (go_big_quiet_step ((go_at_call 69; with_reducible exact quietB KV1.out)))
          refine wpQuiet_nil ?_
          intro _ hw'
          obtain ⟨⟨dq, osq⟩, hw''⟩ := hw'
          subst hw''
          obtain ⟨w4, hw3⟩ : ∃ W, grow (redrawn w3 dq) osq = W := ⟨_, rfl⟩
          have hK2 := hK.keep (below_regrown w3 dq osq)
          dsimp only
          rw [hw3] at hK2 ⊢
          clear hw3
          have HB4 := Lib.hid (hbw.trans (hK2.below.mono hbw.size))
          go_wp2_with fail
          go_roundw
          case rel => exact ⟨1, by omega, by go_num, Lib.hid HNX2.out, HB4.out⟩
          case measure => simp [intOf] <;> omega
      · have KV1 := Lib.hid KV
        obtain ⟨ad', hA', hlt', hkl', hy⟩ := (HR.out _ hbw).at_ (show k - 1 < n by omega)
        obtain rfl : ad = ad' := by rw [hA] at hA'; injection hA'
        have hgd2 : L.getD (k - 1) default = L[k - 1] := by simp [List.getD, List.getElem?_eq_getElem hkl']
        obtain ⟨j, hj⟩ : ∃ j, k - 1 = j := ⟨_, rfl⟩
        obtain ⟨y, hye⟩ : ∃ y, L[k - 1] = y := ⟨_, rfl⟩
        rw [hye] at hy hgd2
        rw [hj] at hy
        obtain ⟨YA, yc, -, ⟨d0, -⟩, -⟩ := hy
        obtain ⟨XA, xc, -, ⟨c0, -⟩, -⟩ := hx
        have y0 := cell_regrown d0
        have x0 := cell_regrown c0
        obtain ⟨yn, hyn⟩ : ∃ v, y.num = v := ⟨_, rfl⟩
        obtain ⟨xn, hxn⟩ : ∃ v, x.num = v := ⟨_, rfl⟩
        have HWA := Lib.hid (show entAt L k = (b && decide (yn < xn)) by unfold entAt; rw [hgd, hb, hgd2, hyn, hxn, decide_eq_false (by omega : ¬ k = 0), Bool.false_or])
        have hwj : IntKind.i64.wrap ((k : Int) - 1) = (j : Int) := by rw [wrapI64 (by omega)]; omega
        have j0 : (0 : Int) ≤ (j : Int) := by omega
        have j1 : (j : Int) < (n : Int) := by omega
        have j2 : (0 : Int) < (k : Int) := by omega
        have j3 : decide ((0 : Int) < (k : Int)) = true := decide_eq_true j2
        rw [hyn] at y0
        rw [hxn] at x0
        subst hA
        clear hgd hgd2 hye hb hj hA' hkl' hyn d0 c0 hlt' KV hxn
        go_upto_region 4 with fail
        rcases b with _ | _
        · have HNX2 := Lib.hid (show entAt L k = false by rw [HWA.out]; rfl)
          refine wp_region_quiet_below (by kernel_rfl) (by kernel_rfl) ?_
          repeat (go_big_quiet_step ((go_at_call 69; with_reducible exact quietB KV1.out)))
          refine wpQuiet_nil ?_
          intro _ hw'
          obtain ⟨⟨dq, osq⟩, hw''⟩ := hw'
          subst hw''
          obtain ⟨w4, hw3⟩ : ∃ W, grow (redrawn w3 dq) osq = W := ⟨_, rfl⟩
          have hK2 := hK.keep (below_regrown w3 dq osq)
          dsimp only
          rw [hw3] at hK2 ⊢
          clear hw3
          have HB4 := Lib.hid (hbw.trans (hK2.below.mono hbw.size))
          go_wp2_with fail
          go_ret
          exact ⟨ret_bool (by rw [HE.out, HNO.out HNX2.out]; rfl), HB4.out⟩
        · by_cases hcmp : yn < xn
          · have HNX2 := Lib.hid (show entsP L (k + 1) = true by rw [HNX.out, HWA.out, decide_eq_true hcmp]; rfl)
            have hc2 : decide (xn ≤ yn) = false := decide_eq_false (by omega)
            have hc3 : ¬ xn ≤ yn := by omega
            refine wp_region_quiet_below (by kernel_rfl) (by kernel_rfl) ?_
            repeat (go_big_quiet_step ((go_at_call 69; with_reducible exact quietB KV1.out)))
            refine wpQuiet_nil ?_
            intro _ hw'
            obtain ⟨⟨dq, osq⟩, hw''⟩ := hw'
            subst hw''
            obtain ⟨w4, hw3⟩ : ∃ W, grow (redrawn w3 dq) osq = W := ⟨_, rfl⟩
            have hK2 := hK.keep (below_regrown w3 dq osq)
            dsimp only
            rw [hw3] at hK2 ⊢
            clear hw3
            have HB4 := Lib.hid (hbw.trans (hK2.below.mono hbw.size))
            go_wp2_with fail
            go_roundw
            case rel => exact ⟨k + 1, by omega, by go_num, Lib.hid HNX2.out, HB4.out⟩
            case measure => simp [intOf] <;> omega
          · have HNX2 := Lib.hid (show entAt L k = false by rw [HWA.out, decide_eq_false hcmp]; rfl)
            have hc2 : decide (xn ≤ yn) = true := decide_eq_true (by omega)
            have hc3 : xn ≤ yn := by omega
            refine wp_region_quiet_below (by kernel_rfl) (by kernel_rfl) ?_
            repeat (go_big_quiet_step ((go_at_call 69; with_reducible exact quietB KV1.out)))
            refine wpQuiet_nil ?_
            intro _ hw'
            obtain ⟨⟨dq, osq⟩, hw''⟩ := hw'
            subst hw''
            obtain ⟨w4, hw3⟩ : ∃ W, grow (redrawn w3 dq) osq = W := ⟨_, rfl⟩
            have hK2 := hK.keep (below_regrown w3 dq osq)
            dsimp only
            rw [hw3] at hK2 ⊢
            clear hw3
            have HB4 := Lib.hid (hbw.trans (hK2.below.mono hbw.size))
            go_wp2_with fail
            go_ret
            exact ⟨ret_bool (by rw [HE.out, HNO.out HNX2.out]; rfl), HB4.out⟩
    · have i1 : ¬ (k : Int) < (n : Int) := by omega
      obtain rfl : n = k := by omega
      have hall := HA.out
      rw [← HL.out] at hall
      by_cases h50 : n ≤ 50
      · have i2 : (n : Int) ≤ 50 := by omega
        have HQ := Lib.hid (show R = true by rw [HE.out, hall, decide_eq_true (by rw [HL.out]; exact h50)]; rfl)
        clear hall
        go_wp2_with fail
        go_ret
        exact ⟨ret_bool HQ.out.symm, hbw⟩
      · have i2 : ¬ (n : Int) ≤ 50 := by omega
        have HQ := Lib.hid (show R = false by rw [HE.out, hall, decide_eq_false (by rw [HL.out]; exact h50)]; rfl)
        clear hall
        go_wp2_with fail
        go_ret
        exact ⟨ret_bool HQ.out.symm, hbw⟩
end Go.Proofs.YtgljafiegpjlkaaGreatDoor

namespace Go.Proofs.YtgljafiegpjlkaaGreatDoor
open Go.RowKit Go.Sort
/-! the text of a catalogue, plainly -/
def lnE (x : Etr) : List UInt8 := dec x.num ++ 32 :: (strB x.name ++ 32 :: (strB x.maker ++ 32 :: dec x.year))
def wdE (ws : List ByteArray) : List UInt8 := ws.flatMap fun s => 32 :: strB s
def lineE (x : Etr) : List UInt8 := lnE x ++ wdE x.words
def txtE (L : List Etr) : List UInt8 := L.flatMap fun x => lineE x ++ [10]
def entT (L : List Etr) : List UInt8 := if entsOk L then txtE L else []
theorem wdE_app (a b : List ByteArray) : wdE (a ++ b) = wdE a ++ wdE b := by unfold wdE; rw [List.flatMap_append]
theorem wdE_take {ws : List ByteArray} {k : Nat} (h : k < ws.length) : wdE (ws.take (k + 1)) = wdE (ws.take k) ++ 32 :: strB ws[k] := by
  rw [List.take_succ_eq_append_getElem h, wdE_app]; simp [wdE]
theorem txtE_app (a b : List Etr) : txtE (a ++ b) = txtE a ++ txtE b := by unfold txtE; rw [List.flatMap_append]
theorem txtE_take {L : List Etr} {k : Nat} (h : k < L.length) : txtE (L.take (k + 1)) = txtE (L.take k) ++ (lineE L[k] ++ [10]) := by
  rw [List.take_succ_eq_append_getElem h, txtE_app]; simp [txtE]
theorem nameOk_len {bs : List UInt8} (h : nameOk bs = true) : 1 ≤ bs.length ∧ bs.length ≤ 12 := by
  unfold nameOk at h
  simp only [Bool.and_eq_true, decide_eq_true_eq] at h
  exact h.1
theorem nameOk_no {bs : List UInt8} (h : nameOk bs = true) : (10 : UInt8) ∉ bs ∧ (32 : UInt8) ∉ bs := by
  unfold nameOk nameP at h
  rw [Bool.and_eq_true] at h
  have h2 := List.all_eq_true.1 h.2
  have key : ∀ b ∈ bs, b.toNat = 45 ∨ 48 ≤ b.toNat := fun b hb => by
    obtain ⟨k, hk, rfl⟩ := List.getElem_of_mem hb
    have h3 := h2 k (List.mem_range.2 hk)
    rw [List.getD_eq_getElem?_getD, List.getElem?_eq_getElem hk, Option.getD_some] at h3
    unfold nmB smallB isD at h3
    simp only [Bool.or_eq_true, Bool.and_eq_true, decide_eq_true_eq] at h3
    omega
  constructor
  · intro hm
    have := key _ hm
    have e : (10 : UInt8).toNat = 10 := rfl
    omega
  · intro hm
    have := key _ hm
    have e : (32 : UInt8).toNat = 32 := rfl
    omega
/-- what a valid entry is made of -/
structure EtrP (x : Etr) : Prop where
  n0 : 1 ≤ x.num
  n1 : x.num ≤ 1000000
  nm : nameOk (strB x.name) = true
  mkr : nameOk (strB x.maker) = true
  y0 : 1000 ≤ x.year
  y1 : x.year ≤ 3000
  wl : x.words.length ≤ 8
  ws : ∀ s ∈ x.words, nameOk (strB s) = true
theorem etr_parts {x : Etr} (h : etrOk x = true) : EtrP x := by
  unfold etrOk etrHead betB at h
  simp only [Bool.and_eq_true, decide_eq_true_eq] at h
  obtain ⟨⟨⟨⟨⟨⟨h1, h2⟩, h3⟩, h4⟩, h5, h6⟩, h7⟩, h8⟩ := h
  refine ⟨h1, h2, h3, h4, h5, h6, h7, fun s hs => ?_⟩
  obtain ⟨k, hk, rfl⟩ := List.getElem_of_mem hs
  unfold wordsP at h8
  have h9 := List.all_eq_true.1 h8 k (List.mem_range.2 hk)
  unfold wordAt at h9
  rw [Bool.and_eq_true, List.getD_eq_getElem?_getD, List.getElem?_eq_getElem hk, Option.getD_some] at h9
  exact h9.1
theorem ents_parts {L : List Etr} (h : entsOk L = true) : L.length ≤ 50 ∧ ∀ x ∈ L, etrOk x = true := by
  unfold entsOk at h
  rw [Bool.and_eq_true, decide_eq_true_eq] at h
  refine ⟨h.2, fun x hx => ?_⟩
  obtain ⟨k, hk, rfl⟩ := List.getElem_of_mem hx
  have h9 := List.all_eq_true.1 h.1 k (List.mem_range.2 hk)
  unfold entAt at h9
  rw [Bool.and_eq_true, List.getD_eq_getElem?_getD, List.getElem?_eq_getElem hk, Option.getD_some] at h9
  exact h9.1
theorem wdE_len : ∀ {ws : List ByteArray}, (∀ s ∈ ws, nameOk (strB s) = true) → (wdE ws).length ≤ 13 * ws.length
  | [], _ => by simp [wdE]
  | s :: ws, h => by
    have h1 := wdE_len (fun t ht => h t (List.mem_cons_of_mem _ ht))
    have h2 := (nameOk_len (h s (List.mem_cons_self ..))).2
    have h3 : wdE (s :: ws) = 32 :: strB s ++ wdE ws := by simp [wdE]
    rw [h3, List.length_append, List.length_cons, List.length_cons]
    omega
theorem lnE_len {x : Etr} (h : etrOk x = true) : (lnE x).length ≤ 69 := by
  have p := etr_parts h
  have d1 := dec_len x.num (by have := p.n0; omega) (by have := p.n1; omega)
  have d2 := dec_len x.year (by have := p.y0; omega) (by have := p.y1; omega)
  have d3 := (nameOk_len p.nm).2
  have d4 := (nameOk_len p.mkr).2
  unfold lnE
  simp only [List.length_append, List.length_cons]
  omega
theorem lineE_len {x : Etr} (h : etrOk x = true) : (lineE x).length ≤ 173 := by
  have h1 := lnE_len h
  have p := etr_parts h
  have h2 := wdE_len p.ws
  have h3 := p.wl
  unfold lineE
  rw [List.length_append]
  omega
theorem txtE_len : ∀ {L : List Etr}, (∀ x ∈ L, etrOk x = true) → (txtE L).length ≤ 174 * L.length
  | [], _ => by simp [txtE]
  | x :: L, h => by
    have h1 := txtE_len (fun t ht => h t (List.mem_cons_of_mem _ ht))
    have h2 := lineE_len (h x (List.mem_cons_self ..))
    have h3 : txtE (x :: L) = lineE x ++ [10] ++ txtE L := by simp [txtE]
    rw [h3, List.length_append, List.length_append, List.length_cons, List.length_cons]
    simp only [List.length_nil]
    omega
theorem entT_len (L : List Etr) : (entT L).length ≤ 8700 := by
  unfold entT
  rcases h : entsOk L with _ | _
  · simp
  · obtain ⟨h1, h2⟩ := ents_parts h
    have := txtE_len h2
    simp; omega
theorem strB_inj {a b : ByteArray} (h : strB a = strB b) : a = b := by
  have h1 : (⟨(strB a).toArray⟩ : ByteArray) = b := str_eq.2 h
  have h2 : (⟨(strB a).toArray⟩ : ByteArray) = a := str_eq.2 rfl
  rw [← h2]; exact h1
theorem mk_strB (a : ByteArray) : (⟨(strB a).toArray⟩ : ByteArray) = a := str_eq.2 rfl
/-! reading it -/
def mkS (l : List UInt8) : ByteArray := ⟨l.toArray⟩
theorem mkS_strB (a : ByteArray) : mkS (strB a) = a := str_eq.2 rfl
theorem strB_mkS (l : List UInt8) : strB (mkS l) = l := strB_mk l
def lineR (bs : List UInt8) : Option Etr := match splitB 32 bs with
  | a :: b :: c :: d :: ws => if (rdDec a).isSome && (rdDec d).isSome then some ⟨rdN a, mkS b, mkS c, rdN d, ws.map mkS⟩ else none
  | _ => none
def endsB (bs : List UInt8) : Bool := decide ((splitB 10 bs).getLast? = some [])
def linesR (bs : List UInt8) : List (List UInt8) := (splitB 10 bs).dropLast
def readsB (bs : List UInt8) : Bool := endsB bs && ((linesR bs).all (fun l => (lineR l).isSome) && entsOk ((linesR bs).filterMap lineR))
def readE (bs : List UInt8) : List Etr := if readsB bs then (linesR bs).filterMap lineR else []
theorem split_words {p : List UInt8} {ws : List ByteArray} : (32 : UInt8) ∉ p → (∀ s ∈ ws, (32 : UInt8) ∉ strB s) → splitB 32 (p ++ wdE ws) = p :: ws.map strB := by
  have e32 : (32 : UInt8).toNat = 32 := rfl
  induction ws generalizing p with
  | nil =>
    intro hp _
    have h := splitB_none 32 p hp
    rw [e32] at h
    simpa [wdE] using h
  | cons s ws ih =>
    intro hp h
    have h1 : p ++ wdE (s :: ws) = p ++ 32 :: (strB s ++ wdE ws) := by simp [wdE]
    have h2 := splitB_at 32 (strB s ++ wdE ws) p hp
    rw [e32] at h2
    rw [h1, h2, ih (h s (List.mem_cons_self ..)) (fun t ht => h t (List.mem_cons_of_mem _ ht)), List.map_cons]
theorem split_line {x : Etr} (h : etrOk x = true) : splitB 32 (lineE x) = dec x.num :: strB x.name :: strB x.maker :: dec x.year :: x.words.map strB := by
  have e32 : (32 : UInt8).toNat = 32 := rfl
  have p := etr_parts h
  have n1 := not_mem_dec (k := 32) x.num (by decide) (by left; decide)
  have n2 := not_mem_dec (k := 32) x.year (by decide) (by left; decide)
  have h1 : lineE x = dec x.num ++ 32 :: (strB x.name ++ 32 :: (strB x.maker ++ 32 :: (dec x.year ++ wdE x.words))) := by simp [lineE, lnE]
  have a1 := splitB_at 32 (strB x.name ++ 32 :: (strB x.maker ++ 32 :: (dec x.year ++ wdE x.words))) _ n1
  have a2 := splitB_at 32 (strB x.maker ++ 32 :: (dec x.year ++ wdE x.words)) _ (nameOk_no p.nm).2
  have a3 := splitB_at 32 (dec x.year ++ wdE x.words) _ (nameOk_no p.mkr).2
  rw [e32] at a1 a2 a3
  rw [h1, a1, a2, a3, split_words n2 (fun s hs => (nameOk_no (p.ws s hs)).2)]
theorem lineR_line {x : Etr} (h : etrOk x = true) : lineR (lineE x) = some x := by
  have p := etr_parts h
  have r1 := rdDec_dec x.num (by have := p.n0; have := p.n1; omega)
  have r2 := rdDec_dec x.year (by have := p.y0; have := p.y1; omega)
  unfold lineR
  rw [split_line h]
  simp only [r1, r2, (rd_some r1).1, (rd_some r2).1, mkS_strB, List.map_map]
  have h3 : x.words.map (mkS ∘ strB) = x.words := by
    rw [show (mkS ∘ strB) = id from funext mkS_strB]; simp
  rw [h3]
  simp
theorem mem_wdE {b : UInt8} {ws : List ByteArray} (h : b ∈ wdE ws) : b = 32 ∨ ∃ s ∈ ws, b ∈ strB s := by
  unfold wdE at h
  obtain ⟨s, hs, hb⟩ := List.mem_flatMap.1 h
  rcases List.mem_cons.1 hb with h1 | h1
  · exact Or.inl h1
  · exact Or.inr ⟨s, hs, h1⟩
theorem line_no10 {x : Etr} (h : etrOk x = true) : (10 : UInt8) ∉ lineE x := by
  have p := etr_parts h
  have n1 := not_mem_dec (k := 10) x.num (by decide) (by left; decide)
  have n2 := not_mem_dec (k := 10) x.year (by decide) (by left; decide)
  have n3 := (nameOk_no p.nm).1
  have n4 := (nameOk_no p.mkr).1
  have e : ¬ (10 : UInt8) = 32 := by decide
  intro hm
  unfold lineE lnE at hm
  simp only [List.mem_append, List.mem_cons] at hm
  have hw : (10 : UInt8) ∉ wdE x.words := fun hm2 => by
    rcases mem_wdE hm2 with h1 | ⟨s, hs, h1⟩
    · exact e h1
    · exact (nameOk_no (p.ws s hs)).1 h1
  rcases hm with (hm | hm | hm | hm | hm | hm | hm) | hm
  · exact n1 hm
  · exact e hm
  · exact n3 hm
  · exact e hm
  · exact n4 hm
  · exact e hm
  · exact n2 hm
  · exact hw hm
theorem split_txt : ∀ {L : List Etr}, (∀ x ∈ L, etrOk x = true) → splitB 10 (txtE L) = L.map lineE ++ [[]]
  | [], _ => rfl
  | x :: L, h => by
    have e10 : (10 : UInt8).toNat = 10 := rfl
    have h1 := split_txt (fun t ht => h t (List.mem_cons_of_mem _ ht))
    have h2 : txtE (x :: L) = lineE x ++ 10 :: txtE L := by simp [txtE]
    have h3 := splitB_at 10 (txtE L) _ (line_no10 (h x (List.mem_cons_self ..)))
    rw [e10] at h3
    rw [h2, h3, h1]; rfl
theorem ends_last {bs : List UInt8} {ls : List (List UInt8)} (h : splitB 10 bs = ls ++ [[]]) : endsB bs = true ∧ linesR bs = ls := by
  unfold endsB linesR
  rw [h]
  exact ⟨by simp, by simp⟩
theorem fm_lines {ls : List (List UInt8)} {L : List Etr} (h : ls.map lineR = L.map some) : ls.filterMap lineR = L ∧ ls.all (fun l => (lineR l).isSome) = true := by
  induction ls generalizing L with
  | nil =>
    cases L with
    | nil => exact ⟨rfl, rfl⟩
    | cons x L => cases h
  | cons l ls ih =>
    cases L with
    | nil => cases h
    | cons x L =>
      rw [List.map_cons, List.map_cons] at h
      injection h with h1 h2
      obtain ⟨e1, e2⟩ := ih h2
      rw [List.filterMap_cons, h1, List.all_cons, h1, e2]
      exact ⟨by rw [e1], rfl⟩
theorem read_txt {L : List Etr} (h : entsOk L = true) : readsB (txtE L) = true ∧ readE (txtE L) = L := by
  obtain ⟨-, h2⟩ := ents_parts h
  obtain ⟨e1, e2⟩ := ends_last (split_txt h2)
  have h3 : (L.map lineE).map lineR = L.map some := by
    rw [List.map_map]
    exact List.map_congr_left fun x hx => lineR_line (h2 x hx)
  obtain ⟨e3, e4⟩ := fm_lines h3
  have e5 : readsB (txtE L) = true := by
    unfold readsB; rw [e1, e2, e4, e3, h]; rfl
  refine ⟨e5, ?_⟩
  unfold readE; rw [if_pos e5, e2, e3]
/-! back -/
def joinB (k : UInt8) : List (List UInt8) → List UInt8
  | [] => []
  | x :: l => x ++ l.flatMap (k :: ·)
theorem joinB_glue (k : UInt8) (p : List UInt8) (l : List (List UInt8)) (h : l ≠ []) : joinB k (glue p l) = p ++ joinB k l := by
  cases l with
  | nil => exact absurd rfl h
  | cons a t => simp [glue, joinB]
theorem joinB_cons (k : UInt8) (x : List UInt8) (l : List (List UInt8)) (h : l ≠ []) : joinB k (x :: l) = x ++ k :: joinB k l := by
  cases l with
  | nil => exact absurd rfl h
  | cons a t => simp [joinB]
theorem join_split (k : UInt8) : ∀ bs : List UInt8, joinB k (splitB k.toNat bs) = bs
  | [] => rfl
  | b :: tl => by
    have ih := join_split k tl
    rw [splitB_cons]
    split
    · rename_i h
      rw [joinB_cons _ _ _ (splitB_ne _ _), ih, UInt8.toNat_inj.1 h]; rfl
    · rw [joinB_glue _ _ _ (splitB_ne _ _), ih]; rfl
theorem dec_rdN {w : List UInt8} (h : (rdDec w).isSome = true) : dec (rdN w) = w := by
  obtain ⟨r, hr⟩ := Option.isSome_iff_exists.1 h
  rw [(rd_some hr).1]; exact rdDec_sound hr
theorem lineR_back {bs : List UInt8} {x : Etr} (h : lineR bs = some x) : lineE x = bs := by
  have e32 : (32 : UInt8).toNat = 32 := rfl
  have h2 := join_split 32 bs
  rw [e32] at h2
  unfold lineR at h
  split at h
  · rename_i a b c d ws heq
    rw [heq] at h2
    split at h
    · rename_i hc
      rw [Bool.and_eq_true] at hc
      injection h with h
      rw [← h, ← h2]
      unfold lineE lnE wdE joinB
      simp only [strB_mkS, dec_rdN hc.1, dec_rdN hc.2, List.flatMap_map, List.flatMap_cons, List.cons_append, List.append_assoc]
    · cases h
  · cases h
theorem txt_back {bs : List UInt8} {ls : List (List UInt8)} {L : List Etr} (h : splitB 10 bs = ls ++ [[]]) (hl : ls.map lineR = L.map some) : txtE L = bs := by
  have e10 : (10 : UInt8).toNat = 10 := rfl
  have h2 := join_split 10 bs
  rw [e10, h] at h2
  rw [← h2]
  clear h h2
  induction ls generalizing L with
  | nil =>
    cases L with
    | nil => rfl
    | cons x L => cases hl
  | cons l ls ih =>
    cases L with
    | nil => cases hl
    | cons x L =>
      rw [List.map_cons, List.map_cons] at hl
      injection hl with h1 h2
      rw [List.cons_append, joinB_cons _ _ _ (by simp), ← ih h2, ← lineR_back h1]
      simp [txtE]
/-- cutting and splitting -/
theorem split_cut_none {k : UInt8} {bs : List UInt8} (h : cutB [k] bs = none) : splitB k.toNat bs = [bs] := splitB_none k bs (cutB_none k bs h)
theorem split_cut {k : UInt8} {bs x y : List UInt8} (h : cutB [k] bs = some (x, y)) : splitB k.toNat bs = x :: splitB k.toNat y := by
  obtain ⟨h1, h2⟩ := cutB_mem k bs x y h
  rw [h1, splitB_at k y x h2]
end Go.Proofs.YtgljafiegpjlkaaGreatDoor

namespace Go.Proofs.YtgljafiegpjlkaaGreatDoor
open Go.RowKit Go.Sort
/-- what is left of v when k digits are taken -/
def restD (b : Int) : Nat → Int → Int
  | 0, v => v
  | k + 1, v => (restD b k v).tdiv b
/-- the k lowest digits of v -/
def digD (b : Int) : Nat → Int → List Int
  | 0, _ => []
  | k + 1, v => digD b k v ++ [(restD b k v).tmod b]
theorem digD_len (b : Int) (k : Nat) (v : Int) : (digD b k v).length = k := by
  induction k with
  | zero => rfl
  | succ k ih => simp [digD, ih]
theorem restD_bd (b : Int) (hb : 2 ≤ b) (k : Nat) (v : Int) (h0 : 0 ≤ v) (_h1 : v ≤ 9223372036854775807) : 0 ≤ restD b k v ∧ restD b k v ≤ v := by
  induction k with
  | zero => exact ⟨h0, Int.le_refl _⟩
  | succ k ih =>
    simp only [restD]
    rw [Int.tdiv_eq_ediv_of_nonneg ih.1]
    have := Int.ediv_le_self b ih.1
    exact ⟨Int.ediv_nonneg ih.1 (by omega), by omega⟩
section
variable {ops : Array Oper} {rest : List Oper} {o : Oper} {a : Act} {Q : Exit → Act → World → Prop} {w0 w : World} {m : List Ent}
/-- append(s, x..), x a row that is only read -/
theorem kn_appC {t e : TypeId} {z : Value} {size bytes : Nat} (T : TP t e z size bytes) (hgd : o.guard = none) (s x : Operand) (ho : o.op = .call { callee := .builtin .append, args := #[s, x], argTypes := #[t, t] })
    (v : Value) (n : Nat) (xs : List Value) (hs : a.eval s = v) {ad : Addr} {c k : Nat} {l : List Value} (hx : a.eval x = .slice (some ad) k c) (hc : ∀ j u, l[j]? = some u → w.cell? (ad.add j) = some u)
    (hK : Kn w0 (.row v e size n xs :: m) w) (hl : l.length = k * size) (h1 : ∀ u ∈ l, u.oneCell' = true)
    (h63 : n + k ≤ 1000000000000000) (hb : (n + k) * bytes ≤ 140737488355328)
    (h : ∀ v' w', Kn w0 (.row v' e size (n + k) (xs ++ l) :: m) w' → wpList Tryz.prog ops Q rest (a.put o.dst v') w') : wpList Tryz.prog ops Q (o :: rest) a w :=
  appG T hgd s x ho 0 v n xs hs hK.at0 ad k c l hx hl hc h1 h63 hb (Nat.zero_le _) (fun v' w' ho' hg hv => h v' w' (hK.grow hg ho' hv))
end
set_option maxRecDepth 100000 in
theorem copyNumbers_any (A : Option Addr) (n c : Nat) (ds : List Int) (w : World) (hr : RI w A n ds) (h0 : 0 < n) (hm : n ≤ 1000000) :
    Calls Tryz.prog 286 #[.slice A n c] w fun e w' => ∃ A' c', e = .returned (.slice A' n c') ∧ Kn w [rowI A' c' ds] w' := by
  obtain ⟨hl, hc⟩ := hr
  obtain ⟨ad, rfl, hlt, hcell⟩ := hc h0
  have hcell := Lib.hid hcell
  subst hl
  go_enter Tryz.func286, Tryz.ntmps286
  go_wp2_with (first
    | (refine wpList.kn ((Kn.nil w).al [] 2) ?_; intro w1 hK1)
    | (at_builtin; refine kn_appC tpI rfl _ _ rfl _ 0 [] rfl (l := ds.map (Value.int .i64)) rfl (fun j u hu => by
        rw [List.getElem?_map] at hu
        obtain ⟨x, hx, rfl⟩ := Option.map_eq_some_iff.1 hu
        rw [hK1.below.cell (by rw [block_of_add]; exact hlt)]
        exact hcell.out j x hx) (hK1.litRow (size := 1) (n := 0) rfl (by decide)) (by simp) (by simp [Value.oneCell']) (by omega) (by omega) ?_; intro v2 w2 hK2; rw [Nat.zero_add] at hK2; obtain ⟨A2, c2, rfl⟩ := row_form hK2.at0))
  go_ret
  rw [List.nil_append] at hK2
  exact ⟨A2, c2, rfl, hK2⟩
set_option maxRecDepth 100000 in
theorem l00Own_any (A : Option Addr) (n c : Nat) (ds : List Int) (w : World) (hr : RI w A n ds) (h0 : 0 < n) (hm : n ≤ 1000000) :
    Calls Tryz.prog 98 #[.slice A n c] w fun e w' => ∃ A' c', e = .returned (.slice A' n c') ∧ Kn w [rowI A' c' ds] w' := by
  obtain ⟨hl, hc⟩ := hr
  obtain ⟨ad, rfl, hlt, hcell⟩ := hc h0
  have hcell := Lib.hid hcell
  subst hl
  go_enter Tryz.func98, Tryz.ntmps98
  go_wp2_with (first
    | (refine wpList.kn ((Kn.nil w).al [] 2) ?_; intro w1 hK1)
    | (at_builtin; refine kn_appC tpI rfl _ _ rfl _ 0 [] rfl (l := ds.map (Value.int .i64)) rfl (fun j u hu => by
        rw [List.getElem?_map] at hu
        obtain ⟨x, hx, rfl⟩ := Option.map_eq_some_iff.1 hu
        rw [hK1.below.cell (by rw [block_of_add]; exact hlt)]
        exact hcell.out j x hx) (hK1.litRow (size := 1) (n := 0) rfl (by decide)) (by simp) (by simp [Value.oneCell']) (by omega) (by omega) ?_; intro v2 w2 hK2; rw [Nat.zero_add] at hK2; obtain ⟨A2, c2, rfl⟩ := row_form hK2.at0))
  go_ret
  rw [List.nil_append] at hK2
  exact ⟨A2, c2, rfl, hK2⟩
end Go.Proofs.YtgljafiegpjlkaaGreatDoor

namespace Go.Proofs.YtgljafiegpjlkaaGreatDoor
open Go.RowKit Go.Sort
theorem restD_step (b : Int) (hb : 2 ≤ b) (hb2 : b ≤ 16) (k : Nat) (v : Int) (h0 : 0 ≤ v) (h1 : v ≤ 9223372036854775807) : 0 ≤ (restD b k v).tmod b ∧ (restD b k v).tmod b < b := by
  have := restD_bd b hb k v h0 h1
  have h2 := Int.tmod_nonneg b this.1
  have h3 : (restD b k v).tmod b < b := by rw [Int.tmod_eq_emod_of_nonneg this.1]; exact Int.emod_lt_of_pos _ (by omega)
  omega
set_option maxRecDepth 100000 in
set_option maxHeartbeats 1600000 in
theorem registerOf_any (b : Int) (k : Nat) (v : Int) (w : World) (hb : 2 ≤ b) (hb2 : b ≤ 16) (hk : k ≤ 1000000) (h0 : 0 ≤ v) (h1 : v ≤ 9223372036854775807) :
    Calls Tryz.prog 152 #[.int .i64 b, .int .i64 k, .int .i64 v] w fun e w' => ∃ A c, e = .returned (.tuple #[.agg #[.int .i64 b, .slice A (digD b k v).length c], .bool (restD b k v == 0)]) ∧ Kn w [rowI A c (digD b k v)] w' := by
  have HBD := Lib.hid (fun i => restD_bd b hb i v h0 h1)
  have HST := Lib.hid (fun i => restD_step b hb hb2 i v h0 h1)
  have nz1 : b ≠ 0 := by omega
  have nz2 : (b == 0) = false := by simp; omega
  have nz3 : ¬ b = 0 := by omega
  go_enter Tryz.func152, Tryz.ntmps152
  go_wp2_with (first | (refine wpList.kn ((Kn.nil w).al [.int .i64 0, .slice none 0 0] 59) ?_; intro w1 hK1) | (refine wpList.kn (hK1.al [.int .i64 0, .slice none 0 0] 59) ?_; intro w2 hK2; obtain ⟨a1, a2, a3, -⟩ := hK2.cells))
  have hK4 := ((hK2.st 0 (.int .i64 b)).st 1 (.slice none 0 0)).nilRow 2 1
  clear a1 a2 a3 hK1 hK2
  go_loopw [12, 2] (fun ii vv wr => ∃ (i : Nat) (x : Value), i ≤ k ∧ ii = .int .i64 i ∧ vv = .int .i64 (restD b i v) ∧
    Kn w [.row x 2 1 (digD b i v).length ((digD b i v).map (Value.int .i64)), .blk w1.heap.size [.int .i64 b, x] 59, .blk w.heap.size [.int .i64 0, .slice none 0 0] 59] wr) (fun i _ _ => k - (intOf i).toNat)
  case atStart => exact ⟨0, .slice none 0 0, Nat.zero_le _, rfl, rfl, hK4⟩
  case round =>
    obtain ⟨i, x, hi, rfl, rfl, hK⟩ := hrel
    clear hK4
    have hdl := digD_len b i v
    have HS := Lib.hid (show digD b (i + 1) v = digD b i v ++ [(restD b i v).tmod b] from rfl)
    have HR := Lib.hid (show restD b (i + 1) v = (restD b i v).tdiv b from rfl)
    have hbd := HBD.out i
    have hst := HST.out i
    have HLN := Lib.hid (digD_len b k v)
    obtain ⟨ds, hds⟩ : ∃ ds, digD b i v = ds := ⟨_, rfl⟩
    have HDS := Lib.hid hds
    rw [hds] at hK HS hdl
    obtain ⟨z, hz⟩ : ∃ z, restD b i v = z := ⟨_, rfl⟩
    rw [hz] at HS hbd hst HR ⊢
    have HZ := Lib.hid hz
    have HZ1 : Hid (-9223372036854775808 ≤ z.tmod b ∧ z.tmod b ≤ 9223372036854775807) := by simp only [Hid]; omega
    have hdm : ds.length ≤ 1000000 := by omega
    have HDL := Lib.hid hdl
    clear hds hz hdl
    obtain ⟨a1, a2, a3, d1, d2, d3, -⟩ := hK.cells
    by_cases hik : i < k
    · have hi1 : (i : Int) < (k : Int) := by omega
      go_wp2_with fail
      go_region_law (refine kn_stepI rfl _ _ rfl _ ds rfl rfl ((hK.al [.int .i64 (z.tmod b)] 2).drew) (by omega) ?_; intro v5 w6 hK9; obtain ⟨A5, c5, rfl⟩ := row_form hK9.at0; rw [show (ds ++ [z.tmod b]).length = ds.length + 1 by simp] at hK9; clear a1 a2 a3 d1 d2 d3; obtain ⟨a1, a2, a3, d1, d2, d3, -⟩ := hK9.cells)
      all_goals
        go_wp2_with fail
        go_roundw
        case rel => exact ⟨i + 1, _, by omega, by go_num, by rw [HR.out, Int.tdiv_eq_ediv_of_nonneg hbd.1], by rw [HS.out, show (ds ++ [z.tmod b]).length = ds.length + 1 by simp]; exact (hK9.sw1.st 1 _).sw1⟩
        case measure => simp [intOf]; omega
    · have hi1 : ¬ (i : Int) < (k : Int) := by omega
      obtain rfl : i = k := by omega
      obtain ⟨A, c, rfl⟩ := row_form hK.at0
      go_wp2_with fail
      refine bodyPost_ret (v := .tuple #[.agg #[.int .i64 b, .slice A ds.length c], .bool (z == 0)]) (by simp [results, Tryz.results152, go_sem, d1]) rfl ⟨A, c, by rw [HDS.out, HZ.out], ?_⟩
      rw [HDS.out]
      exact ((hK.sw2.st 0 (.int .i64 b)).st 1 (.slice A ds.length c)).drop.drop1
set_option maxRecDepth 100000 in
set_option maxHeartbeats 1600000 in
theorem l02NewV_any (b : Int) (k : Nat) (v : Int) (w : World) (hb : 2 ≤ b) (hb2 : b ≤ 16) (hk : k ≤ 1000000) (h0 : 0 ≤ v) (h1 : v ≤ 9223372036854775807) :
    Calls Tryz.prog 235 #[.int .i64 b, .int .i64 k, .int .i64 v] w fun e w' => ∃ A c, e = .returned (.tuple #[.agg #[.int .i64 b, .slice A (digD b k v).length c], .int .i64 (restD b k v)]) ∧ Kn w [rowI A c (digD b k v)] w' := by
  have HBD := Lib.hid (fun i => restD_bd b hb i v h0 h1)
  have HST := Lib.hid (fun i => restD_step b hb hb2 i v h0 h1)
  have nz1 : b ≠ 0 := by omega
  have nz2 : (b == 0) = false := by simp; omega
  have nz3 : ¬ b = 0 := by omega
  go_enter Tryz.func235, Tryz.ntmps235
  go_wp2_with (first | (refine wpList.kn ((Kn.nil w).al [.int .i64 0, .slice none 0 0] 59) ?_; intro w1 hK1) | (refine wpList.kn (hK1.al [.int .i64 0, .slice none 0 0] 59) ?_; intro w2 hK2; obtain ⟨a1, a2, a3, -⟩ := hK2.cells))
  have hK4 := ((hK2.st 0 (.int .i64 b)).st 1 (.slice none 0 0)).nilRow 2 1
  clear a1 a2 a3 hK1 hK2
  go_loopw [9, 2] (fun ii vv wr => ∃ (i : Nat) (x : Value), i ≤ k ∧ ii = .int .i64 i ∧ vv = .int .i64 (restD b i v) ∧
    Kn w [.row x 2 1 (digD b i v).length ((digD b i v).map (Value.int .i64)), .blk w1.heap.size [.int .i64 b, x] 59, .blk w.heap.size [.int .i64 0, .slice none 0 0] 59] wr) (fun i _ _ => k - (intOf i).toNat)
  case atStart => exact ⟨0, .slice none 0 0, Nat.zero_le _, rfl, rfl, hK4⟩
  case round =>
    obtain ⟨i, x, hi, rfl, rfl, hK⟩ := hrel
    clear hK4
    have hdl := digD_len b i v
    have HS := Lib.hid (show digD b (i + 1) v = digD b i v ++ [(restD b i v).tmod b] from rfl)
    have HR := Lib.hid (show restD b (i + 1) v = (restD b i v).tdiv b from rfl)
    have hbd := HBD.out i
    have hst := HST.out i
    have HLN := Lib.hid (digD_len b k v)
    obtain ⟨ds, hds⟩ : ∃ ds, digD b i v = ds := ⟨_, rfl⟩
    have HDS := Lib.hid hds
    rw [hds] at hK HS hdl
    obtain ⟨z, hz⟩ : ∃ z, restD b i v = z := ⟨_, rfl⟩
    rw [hz] at HS hbd hst HR ⊢
    have HZ := Lib.hid hz
    have HZ1 : Hid (-9223372036854775808 ≤ z.tmod b ∧ z.tmod b ≤ 9223372036854775807) := by simp only [Hid]; omega
    have hdm : ds.length ≤ 1000000 := by omega
    have HDL := Lib.hid hdl
    clear hds hz hdl
    obtain ⟨a1, a2, a3, d1, d2, d3, -⟩ := hK.cells
    by_cases hik : i < k
    · have hi1 : (i : Int) < (k : Int) := by omega
      go_wp2_with fail
      go_region_law (refine kn_stepI rfl _ _ rfl _ ds rfl rfl ((hK.al [.int .i64 (z.tmod b)] 2).drew) (by omega) ?_; intro v5 w6 hK9; obtain ⟨A5, c5, rfl⟩ := row_form hK9.at0; rw [show (ds ++ [z.tmod b]).length = ds.length + 1 by simp] at hK9; clear a1 a2 a3 d1 d2 d3; obtain ⟨a1, a2, a3, d1, d2, d3, -⟩ := hK9.cells)
      all_goals
        go_wp2_with fail
        go_roundw
        case rel => exact ⟨i + 1, _, by omega, by go_num, by rw [HR.out, Int.tdiv_eq_ediv_of_nonneg hbd.1], by rw [HS.out, show (ds ++ [z.tmod b]).length = ds.length + 1 by simp]; exact (hK9.sw1.st 1 _).sw1⟩
        case measure => simp [intOf]; omega
    · have hi1 : ¬ (i : Int) < (k : Int) := by omega
      obtain rfl : i = k := by omega
      obtain ⟨A, c, rfl⟩ := row_form hK.at0
      go_wp2_with fail
      refine bodyPost_ret (v := .tuple #[.agg #[.int .i64 b, .slice A ds.length c], .int .i64 z]) (by simp [results, Tryz.results235, go_sem, d1]) rfl ⟨A, c, by rw [HDS.out, HZ.out], ?_⟩
      rw [HDS.out]
      exact ((hK.sw2.st 0 (.int .i64 b)).st 1 (.slice A ds.length c)).drop.drop1
end Go.Proofs.YtgljafiegpjlkaaGreatDoor

namespace Go.Proofs.YtgljafiegpjlkaaGreatDoor
open Go.RowKit Go.Sort
set_option maxRecDepth 100000 in
set_option maxHeartbeats 1600000 in
theorem withValue_any (b : Int) (A : Option Addr) (n c : Nat) (v : Int) (w : World) (hb : 2 ≤ b) (hb2 : b ≤ 16) (hk : n ≤ 1000000) (h0 : 0 ≤ v) (h1 : v ≤ 9223372036854775807) :
    Calls Tryz.prog 349 #[.agg #[.int .i64 b, .slice A n c], .int .i64 v] w fun e w' => ∃ A' c', e = .returned (.agg #[.int .i64 b, .slice A' (digD b n v).length c']) ∧ Kn w [rowI A' c' (digD b n v)] w' := by
  have KR := Lib.hid (fun W => registerOf_any b n v W hb hb2 hk h0 h1)
  obtain ⟨ds, hds⟩ : ∃ ds, digD b n v = ds := ⟨_, rfl⟩
  obtain ⟨ok, hok⟩ : ∃ ok, (restD b n v == 0) = ok := ⟨_, rfl⟩
  have KR := KR.out
  rw [hds, hok] at KR
  have KR := Lib.hid KR
  rw [hds]
  clear hds hok
  go_enter Tryz.func349, Tryz.ntmps349
  go_wp2_with (first | (refine wpList.kn ((Kn.nil w).al [.int .i64 b, .slice A n c] 59) ?_; intro w1 hK1) | (refine wpList.kn (hK1.al [.int .i64 0, .slice none 0 0] 59) ?_; intro w2 hK2; obtain ⟨a1, a2, a3, d1, d2, d3, -⟩ := hK2.cells))
  have hK2 := hK1.al [.int .i64 0, .slice none 0 0] 59
  generalize w1.alloc (.cells #[.int .i64 0, .slice none 0 0] 59) = w2 at hK2 ⊢
  obtain ⟨a1, a2, a3, d1, d2, d3, -⟩ := hK2.cells
  have KW := Lib.hid (fun W => width_any b A n c W)
  go_cut [5] (fun pp wx => ∃ (g : Nat) (A' : Option Addr) (c' : Nat), pp = .pointer (some ⟨g, 0, none⟩) ∧ Kn w [.blk g [.int .i64 b, .slice A' ds.length c'] 59, rowI A' c' ds, .blk w1.heap.size [.int .i64 0, .slice none 0 0] 59, .blk w.heap.size [.int .i64 b, .slice A n c] 59] wx)
  case first =>
    go_region_law (first
      | (go_simp; go_at_call 155; refine (KW.out _).mono ?_; rintro e w3 ⟨rfl, hw3⟩; first | (have hK3 := hK2.drew.keep hw3; obtain ⟨p1, q1, s1, p2, q2, s2, -⟩ := hK3.cells) | (have hK3 := (hK2.al [.int .i64 0, .slice none 0 0] 59).drew.keep hw3; obtain ⟨p1, q1, s1, p2, q2, s2, p3, q3, s3, -⟩ := hK3.cells))
      | (go_simp; go_at_call 152; refine (KR.out _).mono ?_; rintro e w4 ⟨A', c', rfl, hK⟩; first | (have hK4 := hK3.join hK; obtain ⟨g1, f1, l1, g2, f2, l2, g3, f3, l3, -⟩ := hK4.cells) | (have hK4 := hK3.join hK; obtain ⟨g1, f1, l1, g2, f2, l2, -⟩ := hK4.cells) | (have hK4 := (hK3.al [.int .i64 0, .slice none 0 0] 59).join hK; obtain ⟨g1, f1, l1, g2, f2, l2, g3, f3, l3, -⟩ := hK4.cells)))
    all_goals
      go_wp2_with fail
      go_meet
      first
        | exact ⟨_, _, _, rfl, (hK4.sw1.st 0 _).st 1 _⟩
        | exact ⟨_, _, _, rfl, hK4.al _ _⟩
  case rest =>
    obtain ⟨g, A', c', rfl, hK⟩ := hcut
    clear a1 a2 a3 d1 d2 d3 hK1 hK2
    obtain ⟨a1, a2, a3, d1, d2, d3, -⟩ := hK.cells
    go_wp2_with fail
    refine bodyPost_ret (v := .agg #[.int .i64 b, .slice A' ds.length c']) (by simp [results, Tryz.results349, go_sem, d1]) rfl ⟨A', c', rfl, ?_⟩
    exact ((hK.sw2.st 0 _).st 1 _).drop.drop.drop1
set_option maxRecDepth 100000 in
set_option maxHeartbeats 1600000 in
theorem copiedR_any (b : Int) (A : Option Addr) (n c : Nat) (ds : List Int) (w : World) (hr : RI w A n ds) (h0 : 0 < n) (hm : n ≤ 1000000) :
    Calls Tryz.prog 212 #[.agg #[.int .i64 b, .slice A n c]] w fun e w' => ∃ A' c', e = .returned (.agg #[.int .i64 b, .slice A' ds.length c']) ∧ Kn w [rowI A' c' ds] w' := by
  have KC := Lib.hid (fun W (hW : Below w.heap.size w W) => copyNumbers_any A n c ds W (hr.below hW) h0 hm)
  have hl := hr.1
  subst hl
  clear hr
  go_enter Tryz.func212, Tryz.ntmps212
  go_wp2_with (first | (refine wpList.kn ((Kn.nil w).al [.int .i64 b, .slice A ds.length c] 59) ?_; intro w1 hK1) | (refine wpList.kn (hK1.al [.int .i64 0, .slice none 0 0] 59) ?_; intro w2 hK2; obtain ⟨a1, a2, a3, d1, d2, d3, -⟩ := hK2.cells))
  have hK2 := hK1.al [.int .i64 0, .slice none 0 0] 59
  generalize w1.alloc (.cells #[.int .i64 0, .slice none 0 0] 59) = w2 at hK2 ⊢
  obtain ⟨a1, a2, a3, d1, d2, d3, -⟩ := hK2.cells
  go_region_law (go_simp; go_at_call 286; refine (KC.out _ hK2.drew.below).mono ?_; rintro e w4 ⟨A', c', rfl, hK⟩; have hK4 := hK2.drew.join hK; obtain ⟨g1, f1, l1, g2, f2, l2, -⟩ := hK4.cells)
  all_goals
    go_wp2_with fail
    refine bodyPost_ret (v := .agg #[.int .i64 b, .slice A' ds.length c']) (by simp [results, Tryz.results212, go_sem, g1]) rfl ⟨A', c', rfl, ?_⟩
    exact ((hK4.sw1.st 0 _).st 1 _).drop.drop1
end Go.Proofs.YtgljafiegpjlkaaGreatDoor

namespace Go.Proofs.YtgljafiegpjlkaaGreatDoor
open Go.RowKit Go.Sort
theorem box7 {w0 w : World} {m : List Ent} {g : Nat} {v0 v1 v2 v3 v4 v5 v6 : Value} {T : TypeId} (h : Kn w0 (.blk g [v0, v1, v2, v3, v4, v5, v6] T :: m) w) :
    w.cell? ⟨g, 0, none⟩ = some v0 ∧ w.cell? ⟨g, 1, none⟩ = some v1 ∧ w.cell? ⟨g, 2, none⟩ = some v2 ∧ w.cell? ⟨g, 3, none⟩ = some v3 ∧ w.cell? ⟨g, 4, none⟩ = some v4 ∧ w.cell? ⟨g, 5, none⟩ = some v5 ∧ w.cell? ⟨g, 6, none⟩ = some v6 :=
  ⟨h.blkAt.1 0, h.blkAt.1 1, h.blkAt.1 2, h.blkAt.1 3, h.blkAt.1 4, h.blkAt.1 5, h.blkAt.1 6⟩
/-- the machine's own numbers -/
def MRows (t : Tri) (A1 : Option Addr) (c1 : Nat) (A2 : Option Addr) (c2 : Nat) (A3 : Option Addr) (c3 : Nat) : List Ent := [rowI A3 c3 t.s.digits, rowI A2 c2 t.b.digits, rowI A1 c1 t.a.digits]
structure Sized (t : Tri) : Prop where
  a0 : 0 < t.a.digits.length
  b0 : 0 < t.b.digits.length
  s0 : 0 < t.s.digits.length
  a : t.a.digits.length ≤ 16
  b : t.b.digits.length ≤ 16
  s : t.s.digits.length ≤ 16
set_option maxRecDepth 100000 in
set_option maxHeartbeats 1600000 in
theorem copiedM_any (t : Tri) (A1 A2 A3 : Option Addr) (c1 c2 c3 : Nat) (w : World) (r1 : RI w A1 t.a.digits.length t.a.digits) (r2 : RI w A2 t.b.digits.length t.b.digits) (r3 : RI w A3 t.s.digits.length t.s.digits) (hz : Sized t) :
    Calls Tryz.prog 157 #[.agg #[.int .i64 t.a.base, .slice A1 t.a.digits.length c1, .int .i64 t.b.base, .slice A2 t.b.digits.length c2, .int .i64 t.s.base, .slice A3 t.s.digits.length c3, .int .i64 t.carry]] w fun e w' => ∃ A1 c1 A2 c2 A3 c3, e = .returned (.agg #[.int .i64 t.a.base, .slice A1 t.a.digits.length c1, .int .i64 t.b.base, .slice A2 t.b.digits.length c2, .int .i64 t.s.base, .slice A3 t.s.digits.length c3, .int .i64 t.carry]) ∧ Kn w [rowI A3 c3 t.s.digits, rowI A2 c2 t.b.digits, rowI A1 c1 t.a.digits] w' := by
  have K1 := Lib.hid (fun W (hW : Below w.heap.size w W) => copiedR_any t.a.base A1 t.a.digits.length c1 t.a.digits W (r1.below hW) hz.a0 (by have := hz.a; omega))
  have K2 := Lib.hid (fun W (hW : Below w.heap.size w W) => copiedR_any t.b.base A2 t.b.digits.length c2 t.b.digits W (r2.below hW) hz.b0 (by have := hz.b; omega))
  have K3 := Lib.hid (fun W (hW : Below w.heap.size w W) => copiedR_any t.s.base A3 t.s.digits.length c3 t.s.digits W (r3.below hW) hz.s0 (by have := hz.s; omega))
  clear r1 r2 r3 hz
  go_enter Tryz.func157, Tryz.ntmps157
  go_wp2_with (first | (refine wpList.kn ((Kn.nil w).al [.int .i64 t.a.base, .slice A1 t.a.digits.length c1, .int .i64 t.b.base, .slice A2 t.b.digits.length c2, .int .i64 t.s.base, .slice A3 t.s.digits.length c3, .int .i64 t.carry] 61) ?_; intro w1 hK1))
  have hK2 := hK1.al [.int .i64 0, .slice none 0 0, .int .i64 0, .slice none 0 0, .int .i64 0, .slice none 0 0, .int .i64 0] 61
  generalize w1.alloc (.cells #[.int .i64 0, .slice none 0 0, .int .i64 0, .slice none 0 0, .int .i64 0, .slice none 0 0, .int .i64 0] 61) = w2 at hK2 ⊢
  have HG := Lib.hid (box7 hK2.drew.drop)
  go_region_held3 (fun W => W.cell? ⟨w.heap.size, 0, none⟩ = some (.int .i64 t.a.base) ∧ W.cell? ⟨w.heap.size, 1, none⟩ = some (.slice A1 t.a.digits.length c1) ∧ W.cell? ⟨w.heap.size, 2, none⟩ = some (.int .i64 t.b.base) ∧ W.cell? ⟨w.heap.size, 3, none⟩ = some (.slice A2 t.b.digits.length c2) ∧ W.cell? ⟨w.heap.size, 4, none⟩ = some (.int .i64 t.s.base) ∧ W.cell? ⟨w.heap.size, 5, none⟩ = some (.slice A3 t.s.digits.length c3) ∧ W.cell? ⟨w.heap.size, 6, none⟩ = some (.int .i64 t.carry))
    (first | with_reducible exact HG.out | with_reducible exact HG2.out | exact HG.out) (first
    | (go_at_call 212; with_reducible refine (K1.out _ hK2.drew.below).mono ?_; rintro e w4 ⟨B1, e1, rfl, hK⟩; have hK4 := hK2.drew.join hK; clear HG; have HG := Lib.hid (box7 hK4.drop.drop))
    | (go_at_call 212; with_reducible refine (K2.out _ hK4.below).mono ?_; rintro e w5 ⟨B2, e2, rfl, hK⟩; have hK5 := hK4.join hK; clear HG; have HG := Lib.hid (box7 hK5.drop.drop.drop))
    | (go_at_call 212; with_reducible refine (K3.out _ hK5.below).mono ?_; rintro e w6 ⟨B3, e3, rfl, hK⟩; have hK6 := hK5.join hK; clear HG; have HG := Lib.hid (box7 hK6.drop.drop.drop.drop); have hK7 := ((((((hK6.sw3.st 0 (.int .i64 t.a.base)).st 1 (.slice B1 (t.a.digits).length e1)).st 2 (.int .i64 t.b.base)).st 3 (.slice B2 (t.b.digits).length e2)).st 4 (.int .i64 t.s.base)).st 5 (.slice B3 (t.s.digits).length e3)).st 6 (.int .i64 t.carry); have HG2 := Lib.hid (box7 hK7.drop.drop.drop.drop); obtain ⟨g1, f1, l1⟩ := hK6.drop.drop.drop.blkAt))
  all_goals
    go_wp2_with fail
    refine bodyPost_ret (v := .agg #[.int .i64 t.a.base, .slice B1 (t.a.digits).length e1, .int .i64 t.b.base, .slice B2 (t.b.digits).length e2, .int .i64 t.s.base, .slice B3 (t.s.digits).length e3, .int .i64 t.carry]) (by simp [results, Tryz.results157, go_sem, g1]) rfl ⟨B1, e1, B2, e2, B3, e3, rfl, ?_⟩
    exact hK7.drop.drop3
/-- a machine on which everything is 0 -/
def clrT (t : Tri) : Tri := ⟨⟨t.a.base, digD t.a.base t.a.digits.length 0⟩, ⟨t.b.base, digD t.b.base t.b.digits.length 0⟩, ⟨t.s.base, digD t.s.base t.s.digits.length 0⟩, 0⟩
set_option maxRecDepth 100000 in
set_option maxHeartbeats 1600000 in
theorem clearedM_any (t : Tri) (A1 A2 A3 : Option Addr) (c1 c2 c3 : Nat) (w : World) (h1 : 2 ≤ t.a.base ∧ t.a.base ≤ 16) (h2 : 2 ≤ t.b.base ∧ t.b.base ≤ 16) (h3 : 2 ≤ t.s.base ∧ t.s.base ≤ 16) (hz : Sized t) :
    Calls Tryz.prog 294 #[.agg #[.int .i64 t.a.base, .slice A1 t.a.digits.length c1, .int .i64 t.b.base, .slice A2 t.b.digits.length c2, .int .i64 t.s.base, .slice A3 t.s.digits.length c3, .int .i64 t.carry]] w fun e w' => ∃ A1 c1 A2 c2 A3 c3, e = .returned (.agg #[.int .i64 t.a.base, .slice A1 (digD t.a.base t.a.digits.length 0).length c1, .int .i64 t.b.base, .slice A2 (digD t.b.base t.b.digits.length 0).length c2, .int .i64 t.s.base, .slice A3 (digD t.s.base t.s.digits.length 0).length c3, .int .i64 0]) ∧ Kn w [rowI A3 c3 (digD t.s.base t.s.digits.length 0), rowI A2 c2 (digD t.b.base t.b.digits.length 0), rowI A1 c1 (digD t.a.base t.a.digits.length 0)] w' := by
  have K1 := (fun W (_ : Below w.heap.size w W) => withValue_any t.a.base A1 t.a.digits.length c1 0 W h1.1 h1.2 (by have := hz.a; omega) (by decide) (by decide))
  have K2 := (fun W (_ : Below w.heap.size w W) => withValue_any t.b.base A2 t.b.digits.length c2 0 W h2.1 h2.2 (by have := hz.b; omega) (by decide) (by decide))
  have K3 := (fun W (_ : Below w.heap.size w W) => withValue_any t.s.base A3 t.s.digits.length c3 0 W h3.1 h3.2 (by have := hz.s; omega) (by decide) (by decide))
  obtain ⟨x1, hx1⟩ : ∃ x, digD t.a.base t.a.digits.length 0 = x := ⟨_, rfl⟩
  obtain ⟨x2, hx2⟩ : ∃ x, digD t.b.base t.b.digits.length 0 = x := ⟨_, rfl⟩
  obtain ⟨x3, hx3⟩ : ∃ x, digD t.s.base t.s.digits.length 0 = x := ⟨_, rfl⟩
  rw [hx1] at K1 ⊢
  rw [hx2] at K2 ⊢
  rw [hx3] at K3 ⊢
  have K1 := Lib.hid K1
  have K2 := Lib.hid K2
  have K3 := Lib.hid K3
  clear hx1 hx2 hx3 h1 h2 h3 hz
  go_enter Tryz.func294, Tryz.ntmps294
  go_wp2_with (first | (refine wpList.kn ((Kn.nil w).al [.int .i64 t.a.base, .slice A1 t.a.digits.length c1, .int .i64 t.b.base, .slice A2 t.b.digits.length c2, .int .i64 t.s.base, .slice A3 t.s.digits.length c3, .int .i64 t.carry] 61) ?_; intro w1 hK1))
  have hK2 := hK1.al [.int .i64 0, .slice none 0 0, .int .i64 0, .slice none 0 0, .int .i64 0, .slice none 0 0, .int .i64 0] 61
  generalize w1.alloc (.cells #[.int .i64 0, .slice none 0 0, .int .i64 0, .slice none 0 0, .int .i64 0, .slice none 0 0, .int .i64 0] 61) = w2 at hK2 ⊢
  have HG := Lib.hid (box7 hK2.drew.drop)
  go_region_held3 (fun W => W.cell? ⟨w.heap.size, 0, none⟩ = some (.int .i64 t.a.base) ∧ W.cell? ⟨w.heap.size, 1, none⟩ = some (.slice A1 t.a.digits.length c1) ∧ W.cell? ⟨w.heap.size, 2, none⟩ = some (.int .i64 t.b.base) ∧ W.cell? ⟨w.heap.size, 3, none⟩ = some (.slice A2 t.b.digits.length c2) ∧ W.cell? ⟨w.heap.size, 4, none⟩ = some (.int .i64 t.s.base) ∧ W.cell? ⟨w.heap.size, 5, none⟩ = some (.slice A3 t.s.digits.length c3) ∧ W.cell? ⟨w.heap.size, 6, none⟩ = some (.int .i64 t.carry))
    (first | with_reducible exact HG.out | with_reducible exact HG2.out | exact HG.out) (first
    | (go_at_call 349; with_reducible refine (K1.out _ hK2.drew.below).mono ?_; rintro e w4 ⟨B1, e1, rfl, hK⟩; have hK4 := hK2.drew.join hK; clear HG; have HG := Lib.hid (box7 hK4.drop.drop))
    | (go_at_call 349; with_reducible refine (K2.out _ hK4.below).mono ?_; rintro e w5 ⟨B2, e2, rfl, hK⟩; have hK5 := hK4.join hK; clear HG; have HG := Lib.hid (box7 hK5.drop.drop.drop))
    | (go_at_call 349; with_reducible refine (K3.out _ hK5.below).mono ?_; rintro e w6 ⟨B3, e3, rfl, hK⟩; have hK6 := hK5.join hK; clear HG; have HG := Lib.hid (box7 hK6.drop.drop.drop.drop); have hK7 := ((((((hK6.sw3.st 0 (.int .i64 t.a.base)).st 1 (.slice B1 (x1).length e1)).st 2 (.int .i64 t.b.base)).st 3 (.slice B2 (x2).length e2)).st 4 (.int .i64 t.s.base)).st 5 (.slice B3 (x3).length e3)).st 6 (.int .i64 0); have HG2 := Lib.hid (box7 hK7.drop.drop.drop.drop); obtain ⟨g1, f1, l1⟩ := hK6.drop.drop.drop.blkAt))
  all_goals
    go_wp2_with fail
    refine bodyPost_ret (v := .agg #[.int .i64 t.a.base, .slice B1 (x1).length e1, .int .i64 t.b.base, .slice B2 (x2).length e2, .int .i64 t.s.base, .slice B3 (x3).length e3, .int .i64 0]) (by simp [results, Tryz.results294, go_sem, g1]) rfl ⟨B1, e1, B2, e2, B3, e3, rfl, ?_⟩
    exact hK7.drop.drop3
end Go.Proofs.YtgljafiegpjlkaaGreatDoor

namespace Go.Proofs.YtgljafiegpjlkaaGreatDoor
open Go.RowKit Go.Sort
theorem box2 {w0 w : World} {m : List Ent} {g : Nat} {v0 v1 : Value} {l : List Value} {T : TypeId} (h : Kn w0 (.blk g (v0 :: v1 :: l) T :: m) w) : w.cell? ⟨g, 0, none⟩ = some v0 ∧ w.cell? ⟨g, 1, none⟩ = some v1 :=
  ⟨h.blkAt.1 0, h.blkAt.1 1⟩
set_option maxRecDepth 100000 in
set_option maxHeartbeats 1600000 in
theorem withSetting_any (t : Tri) (A1 A2 A3 : Option Addr) (c1 c2 c3 : Nat) (v : Int) (w : World) (r1 : RI w A1 t.a.digits.length t.a.digits) (r2 : RI w A2 t.b.digits.length t.b.digits) (r3 : RI w A3 t.s.digits.length t.s.digits) (hz : Sized t)
    (hb : 2 ≤ t.a.base) (hb2 : t.a.base ≤ 16) (h0 : 0 ≤ v) (h1 : v ≤ 9223372036854775807) :
    Calls Tryz.prog 298 #[.agg #[.int .i64 t.a.base, .slice A1 t.a.digits.length c1, .int .i64 t.b.base, .slice A2 t.b.digits.length c2, .int .i64 t.s.base, .slice A3 t.s.digits.length c3, .int .i64 t.carry], .int .i64 v] w fun e w' => ∃ A1 c1 A2 c2 A3 c3, e = .returned (.tuple #[.agg #[.int .i64 t.a.base, .slice A1 (digD t.a.base t.a.digits.length v).length c1, .int .i64 t.b.base, .slice A2 t.b.digits.length c2, .int .i64 t.s.base, .slice A3 t.s.digits.length c3, .int .i64 t.carry], .bool (restD t.a.base t.a.digits.length v == 0)]) ∧
      Kn w [rowI A3 c3 t.s.digits, rowI A2 c2 t.b.digits, rowI A1 c1 (digD t.a.base t.a.digits.length v)] w' := by
  have KR := (fun W => registerOf_any t.a.base t.a.digits.length v W hb hb2 (by have := hz.a; omega) h0 h1)
  have KC := Lib.hid (fun W (hW : Below w.heap.size w W) => copiedM_any t A1 A2 A3 c1 c2 c3 W (r1.below hW) (r2.below hW) (r3.below hW) hz)
  have KW := Lib.hid (fun W => width_any t.a.base A1 t.a.digits.length c1 W)
  obtain ⟨ds, hds⟩ : ∃ ds, digD t.a.base t.a.digits.length v = ds := ⟨_, rfl⟩
  obtain ⟨ok, hok⟩ : ∃ ok, (restD t.a.base t.a.digits.length v == 0) = ok := ⟨_, rfl⟩
  rw [hds, hok] at KR
  rw [hds, hok]
  have KR := Lib.hid KR
  clear hds hok r1 r2 r3 hz hb hb2 h0 h1
  go_enter Tryz.func298, Tryz.ntmps298
  go_wp2_with (first | (refine wpList.kn ((Kn.nil w).al [.int .i64 t.a.base, .slice A1 t.a.digits.length c1, .int .i64 t.b.base, .slice A2 t.b.digits.length c2, .int .i64 t.s.base, .slice A3 t.s.digits.length c3, .int .i64 t.carry] 61) ?_; intro w1 hK1))
  have hK2 := hK1.al [.int .i64 0, .slice none 0 0, .int .i64 0, .slice none 0 0, .int .i64 0, .slice none 0 0, .int .i64 0] 61
  generalize w1.alloc (.cells #[.int .i64 0, .slice none 0 0, .int .i64 0, .slice none 0 0, .int .i64 0, .slice none 0 0, .int .i64 0] 61) = w2 at hK2 ⊢
  have HG := Lib.hid (box2 hK2.drew.drop)
  have HA := Lib.hid (box2 (hK2.drew.al [.int .i64 0, .slice none 0 0] 59).drop.drop)
  have HS := HG
  go_cut [6, 7] (fun pp oo wx => ∃ (g : Nat) (A' : Option Addr) (c' : Nat), pp = .pointer (some ⟨g, 0, none⟩) ∧ oo = .bool ok ∧ Kn w [.blk g [.int .i64 t.a.base, .slice A' ds.length c'] 59, rowI A' c' ds, .blk w1.heap.size [.int .i64 0, .slice none 0 0, .int .i64 0, .slice none 0 0, .int .i64 0, .slice none 0 0, .int .i64 0] 61, .blk w.heap.size [.int .i64 t.a.base, .slice A1 t.a.digits.length c1, .int .i64 t.b.base, .slice A2 t.b.digits.length c2, .int .i64 t.s.base, .slice A3 t.s.digits.length c3, .int .i64 t.carry] 61] wx)
  case first =>
    go_region_held3 (fun W => W.cell? ⟨w.heap.size, 0, none⟩ = some (.int .i64 t.a.base) ∧ W.cell? ⟨w.heap.size, 1, none⟩ = some (.slice A1 t.a.digits.length c1))
      (first | with_reducible exact HG.out | with_reducible exact HA.out | with_reducible exact HS.out | exact HG.out | exact HA.out | exact HS.out) (first
      | (go_at_call 155; with_reducible refine (KW.out _).mono ?_; rintro e w3 ⟨rfl, hw3⟩; first | (have hK3 := hK2.drew.keep hw3; clear HG HA; have HG := Lib.hid (box2 hK3.drop); have HA := Lib.hid (box2 (hK3.al [.int .i64 0, .slice none 0 0] 59).drop.drop)) | (have hK3 := (hK2.al [.int .i64 0, .slice none 0 0] 59).drew.keep hw3; clear HG; have HG := Lib.hid (box2 hK3.drop.drop)))
      | (go_at_call 152; with_reducible refine (KR.out _).mono ?_; rintro e w4 ⟨A', c', rfl, hK⟩; clear HG HA; first
        | (have hK4 := hK3.join hK; have HG := Lib.hid (box2 (v0 := .int .i64 t.a.base) hK4.drop.drop.drop); obtain ⟨g1, f1, l1⟩ := hK4.drop.blkAt; have hK5 := (hK4.sw1.st 0 (.int .i64 t.a.base)).st 1 (.slice A' ds.length c'); have HS := Lib.hid (box2 hK5.drop.drop.drop); have HA := HG)
        | (have hK4 := (hK3.al [.int .i64 0, .slice none 0 0] 59).join hK; have HG := Lib.hid (box2 (v0 := .int .i64 t.a.base) hK4.drop.drop.drop); obtain ⟨g1, f1, l1⟩ := hK4.drop.blkAt; have hK5 := (hK4.sw1.st 0 (.int .i64 t.a.base)).st 1 (.slice A' ds.length c'); have HS := Lib.hid (box2 hK5.drop.drop.drop); have HA := HG)
        | (have hK4 := hK3.join hK; have HG := Lib.hid (box2 hK4.drop.drop); have HA := Lib.hid (box2 (hK4.al [.int .i64 0, .slice none 0 0] 59).drop.drop.drop); have hK5 := hK4.al [.int .i64 t.a.base, .slice A' ds.length c'] 59; have HS := Lib.hid (box2 hK5.drop.drop.drop))))
    all_goals
      go_wp2_with fail
      go_meet
      exact ⟨_, _, _, rfl, rfl, hK5⟩
  case rest =>
    obtain ⟨g, B1, e1, rfl, rfl, hK⟩ := hcut
    clear HG HA HS hK1 hK2 KR KW
    obtain ⟨a1, a2, a3, d1, d2, d3, g1, f1, l1, -⟩ := hK.cells
    go_wp2_with fail
    with_reducible refine (KC.out _ hK.below).mono ?_; rintro e w5 ⟨A4, e4, A5, e5, A6, e6, rfl, hKC⟩
    have hK5 := hK.join hKC
    clear a1 a2 a3 d1 d2 d3 g1 f1 l1 hK hKC
    obtain ⟨a1, a2, a3, d1, d2, d3, g1, f1, l1, -⟩ := hK5.cells
    go_wp2_with fail
    refine bodyPost.kn (((((((((hK5.sw5.st 0 _).st 1 _).st 2 _).st 3 _).st 4 _).st 5 _).st 6 _).al_ _)) ?_; intro w6 hK6
    clear a1 a2 a3 d1 d2 d3 g1 f1 l1
    obtain ⟨a1, a2, a3, -⟩ := hK6.cells
    refine bodyPost_ret (v := .tuple #[.agg #[.int .i64 t.a.base, .slice B1 ds.length e1, .int .i64 t.b.base, .slice A5 t.b.digits.length e5, .int .i64 t.s.base, .slice A6 t.s.digits.length e6, .int .i64 t.carry], .bool ok]) (by simp [results, Tryz.results298, go_sem, a1]) rfl ⟨B1, e1, A5, e5, A6, e6, rfl, ?_⟩
    exact hK6.drop.drop2.drop2.drop3
end Go.Proofs.YtgljafiegpjlkaaGreatDoor

namespace Go.Proofs.YtgljafiegpjlkaaGreatDoor
open Go.RowKit Go.Sort
theorem gtrans {w a b : World} {o : Option Nat} (h1 : w.grownBy a o) (h2 : a.grownBy b o) : w.grownBy b o :=
  ⟨h2.os.trans h1.os, h2.tape.trans h1.tape, h2.output.trans h1.output, Nat.le_trans h1.size h2.size, fun k hk hne => (h2.block k (Nat.lt_of_lt_of_le hk h1.size) hne).trans (h1.block k hk hne)⟩
/-- a source of draws at block b, from which at most N draws were taken -/
def Src (w : World) (b N : Nat) : Prop := ∃ (A : Option Addr) (n c k : Nat) (seed : Int) (bs : List UInt8), w.cell? ⟨b, 0, none⟩ = some (.slice A n c) ∧ w.cell? ⟨b, 1, none⟩ = some (.int .i64 (k : Int)) ∧ w.cell? ⟨b, 2, none⟩ = some (.int .u64 seed) ∧
  w.frozen? ⟨b, 1, none⟩ = false ∧ w.frozen? ⟨b, 2, none⟩ = false ∧ RB w A n bs ∧ k ≤ N ∧ n ≤ 9223372036854775807 ∧ (0 < n → ∀ ad, A = some ad → ad.block < b) ∧ b < w.heap.size
theorem low_byte (x : Int) : 0 ≤ wrap64 (bits .and .u64 (IntKind.u64.wrap x / 1099511627776) 255) ∧ wrap64 (bits .and .u64 (IntKind.u64.wrap x / 1099511627776) 255) ≤ 255 := by
  obtain ⟨a, ha, ha2⟩ : ∃ a : Nat, IntKind.u64.wrap x / 1099511627776 = (a : Int) ∧ a < 18446744073709551616 := by
    rw [IntKind.wrap_u64]
    exact ⟨(x % 18446744073709551616 / 1099511627776).toNat, by omega, by omega⟩
  rw [ha]
  have h := bits_and_u64_nat a 255 ha2 (by omega)
  have h2 : a &&& 255 ≤ 255 := Nat.and_le_right
  have h3 : bits .and .u64 (a : Int) 255 = ((a &&& 255 : Nat) : Int) := h
  rw [h3]
  unfold wrap64
  omega
theorem src_step {w : World} {b N k n c : Nat} {A : Option Addr} {seed : Int} {bs : List UInt8} (c0 : w.cell? ⟨b, 0, none⟩ = some (.slice A n c)) (c1 : w.cell? ⟨b, 1, none⟩ = some (.int .i64 (k : Int))) (c2 : w.cell? ⟨b, 2, none⟩ = some (.int .u64 seed))
    (f1 : w.frozen? ⟨b, 1, none⟩ = false) (f2 : w.frozen? ⟨b, 2, none⟩ = false) (hb : RB w A n bs) (hk : k ≤ N) (hn : n ≤ 9223372036854775807) (hne : 0 < n → ∀ ad, A = some ad → ad.block < b) (hlt : b < w.heap.size) (s : Int) :
    Src ((w.setCell ⟨b, 1, none⟩ (.int .i64 ((k : Int) + 1))).setCell ⟨b, 2, none⟩ (.int .u64 s)) b (N + 1) ∧ w.grownBy ((w.setCell ⟨b, 1, none⟩ (.int .i64 ((k : Int) + 1))).setCell ⟨b, 2, none⟩ (.int .u64 s)) (some b) := by
  refine ⟨⟨A, n, c, k + 1, s, bs, by go_simp, by go_simp, by go_simp, by go_simp, by go_simp, ⟨hb.1, fun h0 => ?_⟩, by omega, hn, hne, by simp [World.setCell]; exact hlt⟩, ⟨rfl, rfl, rfl, by simp [World.setCell], fun g _ hg => ?_⟩⟩
  · obtain ⟨ad, e, hl, hc⟩ := hb.2 h0
    refine ⟨ad, e, by simp [World.setCell]; exact hl, fun j u hu => ?_⟩
    have h1 : ad.block ≠ b := Nat.ne_of_lt (hne h0 ad e)
    rw [World.cell?_setCell_far _ _ _ _ (by rw [block_of_add]; exact Ne.symm h1), World.cell?_setCell_far _ _ _ _ (by rw [block_of_add]; exact Ne.symm h1)]
    exact hc j u hu
  · rw [heap_setCell_other _ _ _ _ (fun e => hg (by rw [e])), heap_setCell_other _ _ _ _ (fun e => hg (by rw [e]))]
theorem Src.drewN {w : World} {b N : Nat} (h : Src w b N) (q : Nat) : Src (w.drewN q) b N := h
theorem gDrew {w w' : World} {o : Option Nat} (h : w.grownBy w' o) (q : Nat) : w.grownBy (w'.drewN q) o := ⟨h.os, h.tape, h.output, h.size, h.block⟩
theorem gDrewL {w w' : World} {o : Option Nat} {q : Nat} (h : (w.drewN q).grownBy w' o) : w.grownBy w' o := ⟨h.os, h.tape, h.output, h.size, h.block⟩
set_option maxHeartbeats 1600000 in
theorem srcNext_any (b N : Nat) (w : World) (h : Src w b N) (hN : N ≤ 1000000) :
    Calls Tryz.prog 142 #[.pointer (some ⟨b, 0, none⟩)] w fun e w' => ∃ x : Int, e = .returned (.int .i64 x) ∧ 0 ≤ x ∧ x ≤ 255 ∧ Src w' b (N + 1) ∧ w.grownBy w' (some b) := by
  obtain ⟨A, n, c, k, seed, bs, c0, c1, c2, f1, f2, hb, hk, hn, hne, hlt⟩ := h
  have HB := Lib.hid hb
  by_cases hkn : k < n
  · obtain ⟨ad, hA, hl, hc⟩ := hb.2 (by omega)
    have hbl : k < bs.length := by have := hb.1; omega
    have hcb := hc k _ (List.getElem?_eq_getElem hbl)
    have hi0 : (0 : Int) ≤ (k : Int) := by omega
    have hi1 : (k : Int) < (n : Int) := by omega
    have hi2 : (k : Int) + 1 ≤ (n : Int) := by omega
    unfold byteV at hcb
    obtain ⟨u, hu⟩ : ∃ u : Nat, u = bs[k].toNat := ⟨_, rfl⟩
    have hu2 : u < 256 := by rw [hu]; exact UInt8.toNat_lt _
    rw [← hu] at hcb
    subst hA
    clear hu hb hc
    go_enter Tryz.func142, Tryz.ntmps142
    go_wp2
    go_quiet (fail)
    go_wp2
    go_quiet (fail)
    go_wp2
    go_quiet (fail)
    go_wp2
    go_ret
    refine ⟨_, rfl, by omega, by omega, ?_⟩
    have z := fun q => src_step (w := w.drewN q) c0 c1 c2 f1 f2 HB.out hk hn hne hlt
    exact ⟨(z _ _).1.drewN _, gDrew (gDrewL (z _ _).2) _⟩
  · have hi1 : ¬ (k : Int) < (n : Int) := by omega
    have hi2 : ¬ (k : Int) + 1 ≤ (n : Int) := by omega
    clear hb
    go_enter Tryz.func142, Tryz.ntmps142
    go_wp2
    go_quiet (fail)
    go_wp2
    go_quiet (fail)
    go_wp2
    go_ret
    obtain ⟨q1, q2⟩ := low_byte (IntKind.u64.wrap (IntKind.u64.wrap (seed * 6364136223846793005)) + 1442695040888963407)
    refine ⟨_, rfl, q1, q2, ?_⟩
    have z := fun q => src_step (w := w.drewN q) c0 c1 c2 f1 f2 HB.out hk hn hne hlt
    exact ⟨(z _ _).1.drewN _, gDrew (gDrewL (z _ _).2) _⟩
theorem Src.keep {w w' : World} {b N : Nat} (h : Src w b N) (hs : w.heap.size ≤ w'.heap.size) (hk : ∀ k, k ≤ b → w'.heap[k]? = w.heap[k]?) : Src w' b N := by
  obtain ⟨A, n, c, k, seed, bs, c0, c1, c2, f1, f2, hb, hkN, hn, hne, hlt⟩ := h
  have hcell : ∀ o, w'.cell? ⟨b, o, none⟩ = w.cell? ⟨b, o, none⟩ := fun o => World.cell?_of_block (hk b (Nat.le_refl _))
  have hfz : ∀ o, w'.frozen? ⟨b, o, none⟩ = w.frozen? ⟨b, o, none⟩ := fun o => World.frozen?_of_block (hk b (Nat.le_refl _))
  refine ⟨A, n, c, k, seed, bs, by rw [hcell]; exact c0, by rw [hcell]; exact c1, by rw [hcell]; exact c2, by rw [hfz]; exact f1, by rw [hfz]; exact f2, ⟨hb.1, fun h0 => ?_⟩, hkN, hn, hne, Nat.lt_of_lt_of_le hlt hs⟩
  obtain ⟨ad, e, hl, hc⟩ := hb.2 h0
  refine ⟨ad, e, Nat.lt_of_lt_of_le hl hs, fun j u hu => ?_⟩
  rw [World.cell?_of_block (w := w) (by rw [block_of_add]; exact hk _ (Nat.le_of_lt (hne h0 ad e)))]
  exact hc j u hu
theorem Src.mono {w : World} {b N M : Nat} (h : Src w b N) (hm : N ≤ M) : Src w b M := by
  obtain ⟨A, n, c, k, seed, bs, c0, c1, c2, f1, f2, hb, hkN, hr⟩ := h
  exact ⟨A, n, c, k, seed, bs, c0, c1, c2, f1, f2, hb, by omega, hr⟩
theorem Src.lt {w : World} {b N : Nat} (h : Src w b N) : b < w.heap.size := by
  obtain ⟨A, n, c, k, seed, bs, c0, c1, c2, f1, f2, hb, hkN, hn, hne, hlt⟩ := h
  exact hlt
theorem gRefl (w : World) (o : Option Nat) : w.grownBy w o := ⟨rfl, rfl, rfl, Nat.le_refl _, fun _ _ _ => rfl⟩
theorem gMore {w a c : World} {o o2 : Option Nat} (h1 : w.grownBy a o) (h2 : a.grownBy c o2) (ho : ∀ k, o2 = some k → w.heap.size ≤ k) : w.grownBy c o :=
  ⟨h2.os.trans h1.os, h2.tape.trans h1.tape, h2.output.trans h1.output, Nat.le_trans h1.size h2.size, fun k hk hne => (h2.block k (Nat.lt_of_lt_of_le hk h1.size) (fun e => by have := ho k e.symm; omega)).trans (h1.block k hk hne)⟩
theorem gBelow {w a c : World} {o : Option Nat} (h1 : w.grownBy a o) (h2 : Below a.heap.size a c) : w.grownBy c o :=
  ⟨h2.os.trans h1.os, h2.tape.trans h1.tape, h2.output.trans h1.output, Nat.le_trans h1.size h2.size, fun k hk hne => (h2.block k (Nat.lt_of_lt_of_le hk h1.size)).trans (h1.block k hk hne)⟩
theorem ofBelow {w c : World} (h2 : Below w.heap.size w c) (o : Option Nat) : w.grownBy c o := gBelow (gRefl w o) h2
/-- from a source's own block on, everything is new -/
theorem belowG {B b : Nat} {a w c : World} (h : Below B a w) (h2 : w.grownBy c (some b)) (hb : B ≤ b) (hs : B ≤ w.heap.size) : Below B a c :=
  h.grown h2 hs (fun k hk => by injection hk with hk; omega)
theorem Src.below {w w' : World} {b N : Nat} (h : Src w b N) (hb : Below w.heap.size w w') : Src w' b N := h.keep hb.size (fun k hk => hb.block k (Nat.lt_of_le_of_lt hk h.lt))
theorem OwnI.grown {w w' : World} {base b : Nat} {v : Value} {ds : List Int} (h : OwnI w base v ds) (hg : w.grownBy w' (some b)) (hb : b < base) : OwnI w' base v ds := by
  refine ⟨h.1, ?_⟩
  rcases h.2 with hn | ⟨g, cap, cur, rfl, hbg, hc, rest⟩
  · exact .inl hn
  · exact .inr ⟨g, cap, cur, rfl, hbg, by rw [hg.block g (Array.getElem?_eq_some_iff.1 hc).1 (fun e => by injection e with e; omega)]; exact hc, rest⟩
theorem ownI_lo {w : World} {base : Nat} {v : Value} {ds : List Int} (h : OwnI w base v ds) : ∀ k, v.ownBlock = some k → base ≤ k := by
  intro k hk
  rcases h.2 with ⟨rfl, -⟩ | ⟨g, cap, cur, rfl, hb, -⟩
  · simp [Value.ownBlock] at hk
  · simp only [Value.ownBlock, Option.some.injEq] at hk; omega
set_option maxHeartbeats 1600000 in
theorem pick_any (b N : Nat) (n : Int) (w : World) (h : Src w b N) (hN : N ≤ 999999) :
    Calls Tryz.prog 85 #[.pointer (some ⟨b, 0, none⟩), .int .i64 n] w fun e w' => ∃ x : Int, e = .returned (.int .i64 x) ∧ 0 ≤ x ∧ (x < n ∨ (n ≤ 1 ∧ x = 0)) ∧ Src w' b (N + 2) ∧ w.grownBy w' (some b) := by
  have H := Lib.hid h; clear h
  by_cases h1 : n ≤ 1
  · go_enter Tryz.func85, Tryz.ntmps85
    go_wp2
    go_ret
    exact ⟨0, rfl, by omega, .inr ⟨h1, rfl⟩, H.out.mono (by omega), gRefl _ _⟩
  · by_cases h2 : 200 < n
    · go_enter Tryz.func85, Tryz.ntmps85
      go_wp2_with fail
      refine (srcNext_any b N w H.out (by omega)).mono ?_; rintro e w1 ⟨x, rfl, x0, x1, hs1, hg1⟩
      have HS1 := Lib.hid hs1; clear hs1
      have HG1 := Lib.hid hg1; clear hg1
      go_wp2_with fail
      refine (srcNext_any b (N + 1) w1 HS1.out (by omega)).mono ?_; rintro e w2 ⟨y, rfl, y0, y1, hs2, hg2⟩
      have HS2 := Lib.hid hs2; clear hs2
      have HG2 := Lib.hid (gtrans HG1.out hg2); clear hg2
      go_wp2
      go_ret
      exact ⟨_, rfl, Int.emod_nonneg _ (by omega), .inl (Int.emod_lt_of_pos _ (by omega)), HS2.out, HG2.out⟩
    · go_enter Tryz.func85, Tryz.ntmps85
      go_wp2_with fail
      refine (srcNext_any b N w H.out (by omega)).mono ?_; rintro e w1 ⟨x, rfl, x0, x1, hs1, hg1⟩
      have HS1 := Lib.hid hs1; clear hs1
      have HG1 := Lib.hid hg1; clear hg1
      go_wp2
      go_ret
      exact ⟨_, rfl, Int.emod_nonneg _ (by omega), .inl (Int.emod_lt_of_pos _ (by omega)), HS1.out.mono (by omega), HG1.out⟩
set_option maxHeartbeats 800000 in
theorem one_any (b N : Nat) (n : Int) (w : World) (h : Src w b N) (hN : N ≤ 999999) :
    Calls Tryz.prog 81 #[.pointer (some ⟨b, 0, none⟩), .int .i64 n] w fun e w' => ∃ x : Bool, e = .returned (.bool x) ∧ Src w' b (N + 2) ∧ w.grownBy w' (some b) := by
  have H := Lib.hid h; clear h
  go_enter Tryz.func81, Tryz.ntmps81
  go_wp2_with fail
  refine (pick_any b N n w H.out hN).mono ?_; rintro e w1 ⟨x, rfl, x0, -, hs1, hg1⟩
  have HS1 := Lib.hid hs1; clear hs1
  have HG1 := Lib.hid hg1; clear hg1
  go_wp2
  go_ret
  exact ⟨_, rfl, HS1.out, HG1.out⟩
set_option maxHeartbeats 800000 in
theorem among_any (b N : Nat) (A : Option Addr) (n c : Nat) (ds : List Int) (w : World) (h : Src w b N) (hN : N ≤ 999999) (hr : RI w A n ds) (hA : ∀ ad, A = some ad → ad.block ≠ b) (hn0 : 0 < n) (hn : n ≤ 1000000) :
    Calls Tryz.prog 129 #[.pointer (some ⟨b, 0, none⟩), .slice A n c] w fun e w' => ∃ x : Int, e = .returned (.int .i64 x) ∧ x ∈ ds ∧ Src w' b (N + 2) ∧ w.grownBy w' (some b) := by
  have H := Lib.hid h; clear h
  go_enter Tryz.func129, Tryz.ntmps129
  go_wp2_with fail
  refine (pick_any b N n w H.out hN).mono ?_; rintro e w1 ⟨x, rfl, x0, xn, hs1, hg1⟩
  have HS1 := Lib.hid hs1; clear hs1
  have HG1 := Lib.hid hg1; clear hg1
  obtain ⟨j, rfl⟩ : ∃ j : Nat, x = j := ⟨x.toNat, by omega⟩
  have hjn : j < n := by omega
  obtain ⟨ad, hAd, hlt, hjl, hc⟩ := hr.at_ hjn
  have hc2 : w1.cell? (ad.add j) = some (.int .i64 ds[j]) := by
    rw [World.cell?_of_block (w := w) (by rw [block_of_add]; exact HG1.out.block _ hlt (fun e => by injection e with e; exact hA ad hAd e))]; exact hc
  have hi1 : (j : Int) < (n : Int) := by omega
  have HM := Lib.hid (List.getElem_mem hjl)
  subst hAd
  clear hc xn
  go_wp2
  go_ret
  exact ⟨_, rfl, HM.out, HS1.out, HG1.out⟩
set_option maxHeartbeats 800000 in
theorem l00From_any (A : Option Addr) (n c : Nat) (bs : List UInt8) (w : World) (hb : RB w A n bs) (hn : n ≤ 9223372036854775807) :
    Calls Tryz.prog 59 #[.slice A n c] w fun e w' => e = .returned (.pointer (some ⟨w.heap.size, 0, none⟩)) ∧ Src w' w.heap.size 0 ∧ Below w.heap.size w w' := by
  have HB := Lib.hid hb; clear hb
  go_enter Tryz.func59, Tryz.ntmps59
  go_wp2
  go_ret
  have hba : Below w.heap.size w (w.alloc (.cells #[.slice A n c, .int .i64 0, .int .u64 0] 154)) := (Below.refl _ _).alloc (Nat.le_refl _) _
  exact ⟨rfl, ⟨A, n, c, 0, 0, bs, by go_simp, by go_simp, by go_simp, by go_simp, by go_simp, HB.out.below hba, Nat.le_refl _, hn, (fun h0 ad e => by obtain ⟨ad', e', hl, -⟩ := HB.out.2 h0; rw [e] at e'; injection e' with e'; rw [e']; exact hl), by simp⟩, hba⟩
end Go.Proofs.YtgljafiegpjlkaaGreatDoor
