import Derived.Test.YtmnegfhigfipbaaG7
namespace Go.Proofs.Ytmnegfhigfipbaa
open Go.RowKit Go.Sort
set_option maxHeartbeats 800000 in
theorem l20All_any (A : Option Addr) (n c : Nat) (ts : List Tri) (F : Option Addr) (m d : Nat) (fs : List Flt) (n0 : Nat) (w : World) (hr : RL TriM 7 w A n ts) (ht : ∀ t ∈ ts, TOK t ∧ t.a.digits.length = n0) (hf : RL FltM 2 w F m fs)
    (hg : GoodF n0 fs) (hn : n ≤ 1000000) (hm : m ≤ 1000000) :
    Calls Try.prog 42 #[.slice A n c, .slice F m d] w fun e w' => e = .returned (.bool (vexpl ts fs)) ∧ Below w.heap.size w w' := by
  have HL := Lib.hid hr.1
  have HT := Lib.hid ht; clear ht
  go_enter Try.func42, Try.ntmps42
  go_wp2
  go_loopw [5] (fun i wr => ∃ k : Nat, k ≤ n ∧ i = .int .i64 k ∧ (ts.take k).all (fun t => expl t fs) = true ∧ Below w.heap.size w wr) (fun i _ => n - (intOf i).toNat)
  case atStart => exact ⟨0, Nat.zero_le _, rfl, by simp, Below.refl _ _⟩
  case round =>
    obtain ⟨k, hk, rfl, hall, hbr⟩ := hrel
    have HD := Lib.hid hall; clear hall
    by_cases hkn : k < n
    · obtain ⟨ad, hA, hlt, hkl, htk⟩ := (hr.below steady_TriM hbr).at_ hkn
      obtain ⟨tok, tn⟩ := HT.out ts[k] (List.getElem_mem _)
      have hi0 : (0 : Int) ≤ (k : Int) := by omega
      have hi1 : (k : Int) < (n : Int) := by omega
      have KE := Lib.hid (l20One_any (ad.add (k * 7)) ts[k] F m d fs wr htk (by rw [block_of_add]; exact hlt) (hf.below steady_FltM hbr) tok (by rw [tn]; exact hg) hm)
      subst hA
      clear tok tn htk
      rcases hv : expl ts[k] fs with _ | _
      · have HF : Hid (vexpl ts fs = false) := by simp only [Hid, vexpl]; exact all_not hkl hv
        have HV := Lib.hid hv; clear hv
        go_wp2_with (go_at_call 69; refine (calls_val KE.out (congrArg Value.bool HV.out)).mono ?_; rintro e w1 ⟨rfl, hw1⟩)
        go_ret
        exact ⟨ret_bool HF.out.symm, hbr.trans (hw1.mono hbr.size)⟩
      · have HV := Lib.hid hv; clear hv
        go_wp2_with (go_at_call 69; refine (calls_val KE.out (congrArg Value.bool HV.out)).mono ?_; rintro e w1 ⟨rfl, hw1⟩)
        go_roundw
        case rel => exact ⟨k + 1, by omega, by go_num, by rw [all_take_succ hkl, HD.out, HV.out]; rfl, hbr.trans (hw1.mono hbr.size)⟩
        case measure => simp [intOf]; omega
    · have HK : Hid (vexpl ts fs = true) := by have h1 := HD.out; rwa [List.take_of_length_le (by have := HL.out; omega)] at h1
      go_wp2
      go_ret
      exact ⟨ret_bool HK.out.symm, hbr⟩
/-- the first lever behind a list of faults -/
def nextL (l : List Flt) : Nat := match l.getLast? with
  | none => 0
  | some f => f.lever.toNat + 1
def grown3 (l : List Flt) (k : Nat) : List (List Flt) := [l ++ [⟨1, k⟩], l ++ [⟨2, k⟩], l ++ [⟨3, k⟩]]
def grownL (n : Nat) (l : List Flt) : List (List Flt) := (List.range' (nextL l) (n - nextL l)).flatMap (grown3 l)
def fsets (n : Nat) : Nat → List (List Flt)
  | 0 => [[]]
  | m + 1 => (fsets n m).flatMap (grownL n)
/-- lists of faults of a width, rising -/
def FOK (n : Nat) (fs : List Flt) : Prop := GoodF n fs ∧ Asc fs ∧ fs.length ≤ 2
end Go.Proofs.Ytmnegfhigfipbaa
