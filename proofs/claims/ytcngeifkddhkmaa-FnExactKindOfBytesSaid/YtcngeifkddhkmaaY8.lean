import Derived.Test.YtcngeifkddhkmaaY7
namespace Go.Proofs.Ytcngeifkddhkmaa
open Go.RowKit Go.Sort
/-- the register of bytes -/
def unpR : List UInt8 → Option Reg
  | [] => none
  | b :: tl => if tkOk tl && (tkReg tl).ok && decide (packR (tkReg tl).base (tkReg tl).digits = b :: tl) then some (tkReg tl) else none
def unpReg (bs : List UInt8) : Reg := (unpR bs).getD ⟨0, []⟩
def unpCode (bs : List UInt8) : Int := if (unpR bs).isSome then 0 else 8
theorem unp_none {bs : List UInt8} (h : unpR bs = none) : unpReg bs = ⟨0, []⟩ ∧ unpCode bs = 8 := by simp [unpReg, unpCode, h]
theorem unp_some {bs : List UInt8} {r : Reg} (h : unpR bs = some r) : unpReg bs = r ∧ unpCode bs = 0 := by simp [unpReg, unpCode, h]
theorem tk_not {bs : List UInt8} (h : tkOk bs = false) : tkReg bs = ⟨0, []⟩ := by
  cases bs with
  | nil => rfl
  | cons b tl => simp only [tkOk, decide_eq_false_iff_not] at h; simp only [tkReg]; rw [if_neg h]
theorem str_eq {s : ByteArray} {bs : List UInt8} : (⟨bs.toArray⟩ : ByteArray) = s ↔ bs = strB s := by
  constructor
  · intro h; rw [← h]; simp [strB]
  · intro h; rw [h]; cases s; simp [strB]
theorem strB_toList (s : ByteArray) : s.toList = strB s := by rw [ByteArray.toList_eq]; rfl
theorem tkReg_len (bs : List UInt8) : (tkReg bs).digits.length ≤ 16 := by
  cases bs with
  | nil => simp [tkReg]
  | cons b tl =>
    simp only [tkReg]
    split
    · simp only [digL_len]; unfold wdt; omega
    · simp
theorem strB_tail {s : ByteArray} : strB (s.extract 1 s.size) = (strB s).drop 1 := strB_drop s 1
theorem extract_size (s : ByteArray) (k : Nat) : (s.extract k s.size).size = s.size - k := by simp [ByteArray.size_extract]
set_option maxRecDepth 100000 in
set_option maxHeartbeats 1600000 in
theorem UnpackRegister_any (s : ByteArray) (w : World) (hs : s.size ≤ 1048576) :
    Calls Try.prog 67 #[.string s] w fun e w' => ∃ A c, e = .returned (.tuple #[.agg #[.int .i64 (unpReg (strB s)).base, .slice A (unpReg (strB s)).digits.length c], .int .i64 (unpCode (strB s))]) ∧
      OwnI w' w.heap.size (.slice A (unpReg (strB s)).digits.length c) (unpReg (strB s)).digits ∧ Below w.heap.size w w' := by
  by_cases h0 : 0 < s.size
  · have hE := str_nonempty h0
    have hc := strB_cons h0
    obtain ⟨b, hb⟩ : ∃ b, s[0] = b := ⟨_, rfl⟩
    obtain ⟨tl, htl⟩ : ∃ tl, (strB s).drop 1 = tl := ⟨_, rfl⟩
    rw [hb, htl] at hc
    have KT := fun W => takeRegister_any (s.extract 1 s.size) W (by rw [extract_size]; omega)
    rw [strB_tail, htl] at KT
    have HC := Lib.hid hc
    obtain ⟨R, hR⟩ : ∃ R, tkReg tl = R := ⟨_, rfl⟩
    have hlen := tkReg_len tl
    rw [hR] at KT hlen
    have HR := Lib.hid hR
    have KT := Lib.hid KT
    have hi1 : (1 : Int) ≤ (s.size : Int) := by omega
    clear hc hR hb htl
    go_enter Try.func67, Try.ntmps67
    go_wp2_with fail
    refine Calls.kn ((Kn.nil w).al [.int .i64 0, .slice none 0 0] 26) ?_; intro w1 hK1
    refine (KT.out w1).mono ?_; rintro e w2 ⟨A, c, r, rfl, hr, ho, hw⟩
    have hK2 := hK1.addI hw ho
    clear hK1 hr hw
    obtain ⟨c1, f1, l1, -⟩ := hK2.cells
    have hri := ho.ri
    have HRI := Lib.hid hri
    clear ho hri
    go_wp2_with fail
    refine Calls.kn (hK2.al [.int .i64 R.base, .slice A R.digits.length c] 26) ?_; intro w3 hK3
    have hRI3 := hK3.drop.ownI.ri
    rcases hok : R.ok with _ | _
    · have HU : Hid (unpReg (strB s) = ⟨0, []⟩ ∧ unpCode (strB s) = 8) := by
        refine unp_none ?_
        rw [HC.out]; simp only [unpR]; rw [HR.out, hok]; simp
      have KP := Lib.hid (PackRegister_false R.base A R.digits.length c R.digits w3 hRI3 (by omega) hok)
      clear hRI3 hok
      refine KP.out.mono ?_; rintro e w4 ⟨rfl, hw⟩
      have hK4 := hK3.keep hw
      obtain ⟨c2, f2, l2, c1, f1, l1, -⟩ := hK4.cells
      clear hw hK3
      rcases htk : tkOk tl with _ | _
      all_goals
        go_wp2_with fail
        refine bodyPost_ret (v := .tuple #[.agg #[.int .i64 0, .slice none 0 0], .int .i64 8]) (by simp [results, Try.results67, go_sem, c1, f1]) rfl ⟨none, 0, by rw [HU.out.1, HU.out.2]; rfl, by rw [HU.out.1]; exact OwnI.nil _ _, ?_⟩
        exact ((hK4.sw2.st 0 _).st 1 _).below
    · have htk : tkOk tl = true := by
        rcases h : tkOk tl with _ | _
        · have := tk_not h; rw [HR.out] at this; rw [this] at hok; cases hok
        · rfl
      have KP := Lib.hid (PackRegister_true R.base A R.digits.length c R.digits w3 hRI3 hok)
      have HOK := Lib.hid hok
      clear hRI3 hok
      refine KP.out.mono ?_; rintro e w4 ⟨rfl, hw⟩
      have hK4 := hK3.keep hw
      obtain ⟨c2, f2, l2, c1, f1, l1, -⟩ := hK4.cells
      clear hw hK3
      rcases hq : (packR R.base R.digits == s.toList) with _ | _
      · have HU : Hid (unpReg (strB s) = ⟨0, []⟩ ∧ unpCode (strB s) = 8) := by
          refine unp_none ?_
          have h2 : ¬ packR R.base R.digits = b :: tl := fun h => by rw [strB_toList, HC.out, h] at hq; simp at hq
          rw [HC.out]; simp only [unpR]; rw [htk, HR.out, HOK.out]; simp [h2]
        go_wp2_with fail
        refine bodyPost_ret (v := .tuple #[.agg #[.int .i64 0, .slice none 0 0], .int .i64 8]) (by simp [results, Try.results67, go_sem, c1, f1]) rfl ⟨none, 0, by rw [HU.out.1, HU.out.2]; rfl, by rw [HU.out.1]; exact OwnI.nil _ _, ?_⟩
        exact ((hK4.sw2.st 0 _).st 1 _).below
      · have HU : Hid (unpReg (strB s) = R ∧ unpCode (strB s) = 0) := by
          refine unp_some ?_
          have h2 : packR R.base R.digits = b :: tl := by rw [strB_toList, HC.out] at hq; exact eq_of_beq hq
          rw [HC.out]
          simp only [unpR]; rw [htk, HR.out, HOK.out, h2]; simp
        go_wp2_with fail
        have hK5 := (hK4.sw2.st 0 (.int .i64 R.base)).st 1 (.slice A R.digits.length c)
        refine bodyPost_ret (v := .tuple #[.agg #[.int .i64 R.base, .slice A R.digits.length c], .int .i64 0]) (by simp [results, Try.results67, go_sem, c1, f1]) rfl ⟨A, c, by rw [HU.out.1, HU.out.2], by rw [HU.out.1]; exact hK5.sw2.ownI, hK5.below⟩
  · obtain rfl := size_zero (show s.size = 0 by omega)
    have HU := Lib.hid (unp_none (bs := strB ⟨#[]⟩) rfl)
    go_enter Try.func67, Try.ntmps67
    go_wp2_with fail
    have hK := (Kn.nil w).al [.int .i64 0, .slice none 0 0] 26
    have c1 : True := trivial
    have f1 : True := trivial
    refine bodyPost_ret (v := .tuple #[.agg #[.int .i64 0, .slice none 0 0], .int .i64 8]) (by simp [results, Try.results67, go_sem, c1, f1]) rfl ⟨none, 0, by rw [HU.out.1, HU.out.2]; rfl, by rw [HU.out.1]; exact OwnI.nil _ _, ?_⟩
    exact hK.below
end Go.Proofs.Ytcngeifkddhkmaa
