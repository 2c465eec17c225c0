import Derived.Test.YtmnegfhigfipbaaG14
import Derived.Test.YtmnegfhigfipbaaS4
namespace Go.Proofs.Ytmnegfhigfipbaa
open Go.RowKit Go.Sort
set_option maxRecDepth 100000 in
set_option maxHeartbeats 1600000 in
theorem law_CountExplanations (A : Option Addr) (n c : Nat) (ts : List Tri) (f : Int) (w : World) (hr : RL TriM 7 w A n ts) (hs : ∀ t ∈ ts, SmallTri t) (hm : n ≤ 9223372036854775807) :
    Calls Try.prog 3 #[.slice A n c, .int .i64 f] w fun e w' => e = .returned (.bool true) ∧ Below w.heap.size w w' := by
  have HL := Lib.hid hr.1
  have HS := Lib.hid hs
  have KZ := Lib.hid (szTrialS_any A n c ts w hr hs hm)
  by_cases hneg : szS 1048576 ts < 0
  · clear hs
    go_enter Try.func3, Try.ntmps3
    go_wp2_with (go_at_call 8; refine KZ.out.mono ?_; rintro e w1 ⟨rfl, hw1⟩)
    go_ret
    exact ⟨rfl, hw1⟩
  · obtain ⟨z1, z2⟩ := szS_small hneg
    have hn : n ≤ 1048576 := by rw [← HL.out]; exact z1
    have HZ := Lib.hid z2
    have KT := Lib.hid (fun W (hW : Below w.heap.size w W) => toTrialS_any A n c ts W (hr.below steady_TriM hW) z2 hn)
    clear hs z2
    go_enter Try.func3, Try.ntmps3
    go_wp2_with (go_at_call 8; refine KZ.out.mono ?_; rintro e w1 ⟨rfl, hw1⟩)
    refine (KT.out w1 hw1).mono ?_; rintro e w2 ⟨rfl, o2, hw2⟩
    have hb2 := hw1.trans (hw2.mono hw1.size)
    have O2 := Lib.hid o2; clear o2
    go_wp2_with fail
    refine (spec_CountExplanations _ n _ ts f w2 O2.out.rl HS.out hn).mono ?_; rintro e w3 ⟨rfl, hw3⟩
    have hb3 := hb2.trans (hw3.mono hb2.size)
    clear O2
    go_wp2_with fail
    refine (KT.out w3 hb3).mono ?_; rintro e w4 ⟨rfl, o4, hw4⟩
    have hb4 := hb3.trans (hw4.mono hb3.size)
    have O4 := Lib.hid o4; clear o4
    go_wp2_with fail
    refine (impl_CountExplanations _ n _ ts f w4 O4.out.rl HS.out hn).mono ?_; rintro e w5 ⟨rfl, hw5⟩
    have hb5 := hb4.trans (hw5.mono hb4.size)
    go_wp2_with fail
    refine (KT.out w5 hb5).mono ?_; rintro e w6 ⟨rfl, o6, hw6⟩
    have hb6 := hb5.trans (hw6.mono hb5.size)
    have O6 := Lib.hid o6; clear o6
    go_wp2_with fail
    refine (eqTrialS_same _ _ n _ _ ts w6 ((O4.out.below hw5).below hw6).rl O6.out.rl HZ.out hn).mono ?_; rintro e w7 ⟨rfl, hw7⟩
    have hb7 := hb6.trans (hw7.mono hb6.size)
    go_wp2_with fail
    go_ret
    exact ⟨rfl, hb7⟩
end Go.Proofs.Ytmnegfhigfipbaa
