import Derived.Test.YtmnegfhigfipbaaR8
namespace Go.Proofs.Ytmnegfhigfipbaa
open Go.RowKit Go.Sort
def lftT (left : Int) (t : Tri) : Int := lft3 left t.a.digits.length t.b.digits.length t.s.digits.length
def lftS : Int → List Tri → Int
  | left, [] => left
  | left, t :: ts => if lftT left t < 0 then -1 else lftS (lftT left t) ts
def szS (left : Int) (ts : List Tri) : Int := if left - ts.length < 0 then -1 else lftS (left - ts.length) ts
theorem lftT_bd (left : Int) (t : Tri) (h : -1 ≤ left) : -1 ≤ lftT left t ∧ lftT left t ≤ left := by
  unfold lftT lft3
  have b1 := lft_bd left t.a.digits.length h (by omega)
  have b2 := lft_bd _ t.b.digits.length b1.1 (by omega)
  have b3 := lft_bd _ t.s.digits.length b2.1 (by omega)
  split
  · omega
  · split <;> omega
theorem lftT_small {left : Int} {t : Tri} (hl : left ≤ 1048576) (h0 : -1 ≤ left) (h : ¬ lftT left t < 0) : t.a.digits.length ≤ 1048576 ∧ t.b.digits.length ≤ 1048576 ∧ t.s.digits.length ≤ 1048576 := by
  unfold lftT lft3 at h
  split at h
  · omega
  · rename_i k1
    split at h
    · omega
    · rename_i k2
      have b1 := lft_bd left t.a.digits.length h0 (by omega)
      have b2 := lft_bd _ t.b.digits.length b1.1 (by omega)
      unfold lft at h k1 k2 b1 b2
      refine ⟨?_, ?_, ?_⟩
      · split at k1 <;> omega
      · split at k2 <;> split at k2 <;> omega
      · split at h <;> split at h <;> split at h <;> omega
theorem lftS_small : ∀ (ts : List Tri) (left : Int), 0 ≤ left → left ≤ 1048576 → ¬ lftS left ts < 0 → ∀ t ∈ ts, t.a.digits.length ≤ 1048576 ∧ t.b.digits.length ≤ 1048576 ∧ t.s.digits.length ≤ 1048576
  | [], _, _, _, _ => fun t h => by cases h
  | t :: ts, left, h0, hl, h => by
    unfold lftS at h
    split at h
    · omega
    · rename_i k1
      have hb := lftT_bd left t (by omega)
      intro u hu
      rcases List.mem_cons.1 hu with rfl | hu
      · exact lftT_small hl (by omega) k1
      · exact lftS_small ts (lftT left t) (by omega) (by omega) h u hu
theorem szS_small {ts : List Tri} (h : ¬ szS 1048576 ts < 0) : ts.length ≤ 1048576 ∧ ∀ t ∈ ts, t.a.digits.length ≤ 1048576 ∧ t.b.digits.length ≤ 1048576 ∧ t.s.digits.length ≤ 1048576 := by
  unfold szS at h
  split at h
  · omega
  · exact ⟨by omega, lftS_small ts _ (by omega) (by omega) h⟩
theorem smallTri_of {t : Tri} (h : t.a.digits.length ≤ 1048576 ∧ t.b.digits.length ≤ 1048576 ∧ t.s.digits.length ≤ 1048576) : SmallTri t := by
  unfold SmallTri SmallReg; omega
set_option maxHeartbeats 800000 in
theorem szTrialS_any (A : Option Addr) (n c : Nat) (ts : List Tri) (w : World) (hr : RL TriM 7 w A n ts) (hs : ∀ t ∈ ts, SmallTri t) (hm : n ≤ 9223372036854775807) :
    Calls Try.prog 8 #[.slice A n c, .int .i64 1048576] w fun e w' => e = .returned (.int .i64 (szS 1048576 ts)) ∧ Below w.heap.size w w' := by
  have HL := Lib.hid hr.1
  have HS := Lib.hid hs; clear hs
  by_cases hneg : (1048576 : Int) - n < 0
  · have HF : Hid (szS 1048576 ts = -1) := by simp only [Hid, szS]; rw [if_pos (by have := HL.out; omega)]
    go_enter Try.func8, Try.ntmps8
    go_wp2
    go_ret
    exact ⟨ret_int HF.out.symm, Below.refl _ _⟩
  · have HF : Hid (szS 1048576 ts = lftS (1048576 - n) ts) := by simp only [Hid, szS]; rw [if_neg (by have := HL.out; omega), HL.out]
    go_enter Try.func8, Try.ntmps8
    go_wp2
    go_loopw [1, 5] (fun lv i wr => ∃ (k : Nat) (lf : Int), k ≤ n ∧ i = .int .i64 k ∧ lv = .int .i64 lf ∧ 0 ≤ lf ∧ lf ≤ 1048576 ∧ szS 1048576 ts = lftS lf (ts.drop k) ∧ Below w.heap.size w wr) (fun _ i _ => n - (intOf i).toNat)
    case atStart => exact ⟨0, _, Nat.zero_le _, rfl, rfl, by omega, by omega, HF.out, Below.refl _ _⟩
    case round =>
      obtain ⟨k, lf, hk, rfl, rfl, hl0, hl1, he, hbr⟩ := hrel
      have HE := Lib.hid he; clear he
      by_cases hkn : k < n
      · obtain ⟨ad, hA, hlt, hkl, htk⟩ := (hr.below steady_TriM hbr).at_ hkn
        obtain ⟨A1, c1, A2, c2, A3, c3, ⟨g1, g2, g3, g4, g5, g6, g7⟩, r1, r2, r3⟩ := htk.cells
        obtain ⟨s1, s2, s3⟩ := HS.out ts[k] (List.getElem_mem _)
        unfold SmallReg at s1 s2 s3
        have hi0 : (0 : Int) ≤ (k : Int) := by omega
        have hi1 : (k : Int) < (n : Int) := by omega
        have HD : Hid (ts.drop k = ts[k] :: ts.drop (k + 1)) := List.drop_eq_getElem_cons hkl
        obtain ⟨b1, b2⟩ := lftT_bd lf ts[k] (by omega)
        have HT : Hid (lft3 lf ts[k].a.digits.length ts[k].b.digits.length ts[k].s.digits.length = lftT lf ts[k]) := rfl
        subst hA
        clear r1 r2 r3 htk
        by_cases hn2 : lftT lf ts[k] < 0
        · have HG : Hid (szS 1048576 ts = -1) := by simp only [Hid]; rw [HE.out, HD.out, lftS, if_pos hn2]
          go_wp2_with (go_at_call 31; refine (szTrial_any _ _ _ _ _ _ _ _ _ _ _ _ _ _ _ (by omega) hl1 s1 s2 s3).mono ?_; rintro e w1 ⟨rfl, hw1⟩; rw [HT.out])
          go_ret
          exact ⟨ret_int HG.out.symm, hbr.trans (hw1.mono hbr.size)⟩
        · have HG : Hid (szS 1048576 ts = lftS (lftT lf ts[k]) (ts.drop (k + 1))) := by simp only [Hid]; rw [HE.out, HD.out, lftS, if_neg hn2]
          go_wp2_with (go_at_call 31; refine (szTrial_any _ _ _ _ _ _ _ _ _ _ _ _ _ _ _ (by omega) hl1 s1 s2 s3).mono ?_; rintro e w1 ⟨rfl, hw1⟩; rw [HT.out])
          go_roundw
          case rel => exact ⟨k + 1, lftT lf ts[k], by omega, by go_num, rfl, by omega, by omega, HG.out, hbr.trans (hw1.mono hbr.size)⟩
          case measure => simp [intOf]; omega
      · have HK : Hid (szS 1048576 ts = lf) := by simp only [Hid]; rw [HE.out, List.drop_eq_nil_of_le (by have := HL.out; omega), lftS]
        go_wp2
        go_ret
        exact ⟨ret_int HK.out.symm, hbr⟩
end Go.Proofs.Ytmnegfhigfipbaa
