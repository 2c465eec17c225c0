import Derived.Test.YtmnegfhigfipbaaS3
namespace Go.Proofs.Ytmnegfhigfipbaa
open Go.RowKit Go.Sort
set_option maxRecDepth 100000 in
set_option maxHeartbeats 1600000 in
theorem eqTrialS_same (A B : Option Addr) (n c d : Nat) (ts : List Tri) (w : World) (hr : RL TriM 7 w A n ts) (hq : RL TriM 7 w B n ts) (hs : ∀ t ∈ ts, t.a.digits.length ≤ 1048576 ∧ t.b.digits.length ≤ 1048576 ∧ t.s.digits.length ≤ 1048576) (hm : n ≤ 1048576) :
    Calls Try.prog 12 #[.slice A n c, .slice B n d] w fun e w' => e = .returned (.bool true) ∧ Below w.heap.size w w' := by
  have HL := Lib.hid hr.1
  have HS := Lib.hid hs; clear hs
  go_enter Try.func12, Try.ntmps12
  go_wp2
  go_loopw [5] (fun i wr => ∃ k : Nat, k ≤ n ∧ i = .int .i64 k ∧ Below w.heap.size w wr) (fun i _ => n - (intOf i).toNat)
  case atStart => exact ⟨0, Nat.zero_le _, rfl, Below.refl _ _⟩
  case round =>
    obtain ⟨k, hk, rfl, hbr⟩ := hrel
    by_cases hkn : k < n
    · obtain ⟨ad, hA, hlt, hkl, htk⟩ := (hr.below steady_TriM hbr).at_ hkn
      obtain ⟨A1, c1, A2, c2, A3, c3, ⟨g1, g2, g3, g4, g5, g6, g7⟩, r1, r2, r3⟩ := htk.cells
      obtain ⟨ad2, hB, hlt2, hkl2, htk2⟩ := (hq.below steady_TriM hbr).at_ hkn
      obtain ⟨B1, e1, B2, e2, B3, e3, ⟨q1, q2, q3, q4, q5, q6, q7⟩, p1, p2, p3⟩ := htk2.cells
      obtain ⟨s1, s2, s3⟩ := HS.out ts[k] (List.getElem_mem _)
      have hi0 : (0 : Int) ≤ (k : Int) := by omega
      have hi1 : (k : Int) < (n : Int) := by omega
      have KT := Lib.hid (fun W (hW : Below wr.heap.size wr W) => eqTrial_any ts[k].a.base ts[k].b.base ts[k].s.base ts[k].carry ts[k].a.base ts[k].b.base ts[k].s.base ts[k].carry A1 A2 A3 B1 B2 B3 _ _ _ c1 c2 c3 _ _ _ e1 e2 e3 _ _ _ _ _ _ W (r1.below hW) (r2.below hW) (r3.below hW) (p1.below hW) (p2.below hW) (p3.below hW) s1 s2 s3 s1 s2 s3)
      subst hA; subst hB
      clear htk htk2 r1 r2 r3 p1 p2 p3
      go_wp2_with fail
      go_region_with (go_at_call 37; refine (KT.out _ (Below.refl _ _).drew).mono ?_; rintro e w1 ⟨rfl, hw1⟩; simp only [and_self, decide_true, Bool.and_self])
      all_goals
        have hbz : Below w.heap.size w w1 := hbr.drew.trans (hw1.mono hbr.size)
        have HB := Lib.hid hbz; clear hbz
        go_wp2
        go_roundw
        case rel => exact ⟨k + 1, by omega, by go_num, HB.out⟩
        case measure => simp [intOf]; omega
    · go_wp2
      go_ret
      exact ⟨rfl, hbr⟩
end Go.Proofs.Ytmnegfhigfipbaa
