import Derived.Test.YtmnegfhigfipbaaW9
import Derived.Test.YtmnegfhigfipbaaG18
namespace Go.Proofs.Ytmnegfhigfipbaa
open Go.RowKit Go.Sort
theorem a2Long_any (A : Option Addr) (n c : Nat) (w : World) (hn : n ≤ 9223372036854775807) :
    Calls Try.prog 13 #[.slice A n c, .slice none 0 0] w fun e w' => e = .returned (.bool (decide (3000 < n))) ∧ w = w' := by
  by_cases h : 3000 < n
  · have h1 : (3000 : Int) < (n : Int) := by omega
    have HF : Hid (decide (3000 < n) = true) := by simp [Hid, h]
    have hd : decide ((3000 : Int) < (n : Int)) = true := decide_eq_true h1
    go_enter Try.func13, Try.ntmps13
    go_wp2
    go_ret
    exact ⟨by first | exact ret_bool HF.out.symm | rfl, rfl⟩
  · have h1 : ¬ (3000 : Int) < (n : Int) := by omega
    have HF : Hid (decide (3000 < n) = false) := by simp [Hid, h]
    have hd : decide ((3000 : Int) < (n : Int)) = false := decide_eq_false h1
    have hd2 : decide (3000 < n) = false := decide_eq_false h
    go_enter Try.func13, Try.ntmps13
    go_wp2
    go_ret
    exact ⟨by first | exact ret_bool HF.out.symm | rfl, rfl⟩
theorem A2Trials_any (A : Option Addr) (n c : Nat) (bs : List UInt8) (w : World) (hb : RB w A n bs) (hn : n ≤ 9223372036854775807) :
    Calls Try.prog 14 #[.slice A n c] w fun e w' => ∃ v ts, e = .returned v ∧ Drawn w' w.heap.size v ts ∧ Below w.heap.size w w' := by
  have HB := Lib.hid hb; clear hb
  go_enter Try.func14, Try.ntmps14
  go_wp2_with fail
  refine (l00From_any A n c bs w HB.out hn).mono ?_; rintro e w1 ⟨rfl, hs, hw1⟩
  have HW1 := Lib.hid hw1
  have HS := Lib.hid hs
  have hz := hw1.size
  clear hw1 hs
  go_wp2_with fail
  refine (l20Draw_any w.heap.size w1 HS.out).mono ?_; rintro e w2 ⟨v, ts, rfl, hd, hg⟩
  have HD : Hid (Drawn w2 w.heap.size v ts) := ⟨hd.1.mono hz, hd.2⟩
  have HG := Lib.hid (belowG HW1.out hg (Nat.le_refl _) hz)
  clear hd hg
  obtain ⟨AV, cV, rfl, -⟩ := HD.out.1.rl
  go_wp2
  go_ret
  first
    | exact ⟨_, ts, rfl, HD.out, HG.out⟩
    | exact ⟨_, rfl, ⟨ts, HD.out⟩, HG.out⟩
theorem drawn_bcode {w : World} {base : Nat} {v : Value} {ts : List Tri} (h : Drawn w base v ts) {f : Int} (h0 : 0 ≤ f) (h2 : f ≤ 2) : bcode ts f = 0 := by
  obtain ⟨-, hv, -, hw⟩ := h
  unfold wid at hw
  unfold bcode
  rw [if_neg (by rw [hv]; decide), if_neg (by omega), if_neg (by rw [show betB f 0 2 = true from betB_iff.2 ⟨h0, h2⟩]; decide)]
set_option maxHeartbeats 800000 in
theorem implExplains_true (A : Option Addr) (n c : Nat) (ts : List Tri) (F : Option Addr) (m d : Nat) (fs : List Flt) (w : World) (hr : RL TriM 7 w A n ts) (hs : ∀ t ∈ ts, SmallTri t) (hv : vtrials ts = true) (hT : ∀ t ∈ ts, TOK t ∧ t.a.digits.length = wid ts) (h1 : 1 ≤ wid ts)
    (hf : RL FltM 2 w F m fs) (hg : GoodF (wid ts) fs) (ha : Asc fs) (hx : vexpl ts fs = true) (hn0 : 0 < n) (hn : n ≤ 1000) (hm : m ≤ 1000) :
    Calls Try.prog 17 #[.slice A n c, .slice F m d] w fun e w' => e = .returned (.bool true) ∧ Below w.heap.size w w' := by
  have KV := Lib.hid (calls_val (ValidTrials_any A n c ts w hr hs (by omega)) (congrArg Value.bool hv))
  have KX := Lib.hid (fun W (hW : Below w.heap.size w W) => calls_val (explain_any A n c ts F m d fs (wid ts) W (hr.below steady_TriM hW) hT (hf.below steady_FltM hW) hg ha h1 hn0 (by omega) (by omega)) (congrArg Value.bool hx))
  clear hv hx hT hs ha hg
  go_enter Try.func17, Try.ntmps17
  go_wp2_with (first | (go_at_call 43; refine KV.out.mono ?_; rintro e w1 ⟨rfl, hw1⟩) | (go_at_call 44; refine (KX.out _ hw1).mono ?_; rintro e w2 ⟨rfl, hw2⟩))
  go_ret
  exact ⟨rfl, hw1.trans (hw2.mono hw1.size)⟩
set_option maxHeartbeats 800000 in
theorem specExplains_true (A : Option Addr) (n c : Nat) (ts : List Tri) (F : Option Addr) (m d : Nat) (fs : List Flt) (w : World) (hr : RL TriM 7 w A n ts) (hs : ∀ t ∈ ts, SmallTri t) (hv : vtrials ts = true) (hT : ∀ t ∈ ts, TOK t ∧ t.a.digits.length = wid ts) (h1 : 1 ≤ wid ts) (h6 : wid ts ≤ 6)
    (hf : RL FltM 2 w F m fs) (hg : GoodF (wid ts) fs) (ha : Asc fs) (hx : vexpl ts fs = true) (hn0 : 0 < n) (hn : n ≤ 1000) (hm : m ≤ 1000) :
    Calls Try.prog 16 #[.slice A n c, .slice F m d] w fun e w' => e = .returned (.bool true) ∧ Below w.heap.size w w' := by
  have KV := Lib.hid (calls_val (l20Ok_any A n c ts w hr hs (by omega)) (congrArg Value.bool hv))
  have KX := Lib.hid (fun W (hW : Below w.heap.size w W) => calls_val (l20All_any A n c ts F m d fs (wid ts) W (hr.below steady_TriM hW) hT (hf.below steady_FltM hW) hg (by omega) (by omega)) (congrArg Value.bool hx))
  have KO := Lib.hid (fun W (hW : Below w.heap.size w W) => l08Ok_true (wid ts) F m d fs W (hf.below steady_FltM hW) hg ha h1 (by omega) (by omega))
  have HL := Lib.hid hr.1
  obtain ⟨ad, hA, hlt, hk0, ht0⟩ := hr.at_ hn0
  rw [Nat.zero_mul, addr_add_zero] at ht0
  obtain ⟨A1, c1, A2, c2, A3, c3, ⟨g1, g2, -, -, -, -, -⟩, -, -, -⟩ := ht0.cells
  have HWD := (hT ts[0] (List.getElem_mem _)).2
  rw [HWD] at g2
  have hi2 : (0 : Int) < (n : Int) := by omega
  subst hA
  clear hv hx hT hs ha hg ht0 g1 HWD
  go_enter Try.func16, Try.ntmps16
  go_wp2_with (first | (go_at_call 40; refine KV.out.mono ?_; rintro e w1 ⟨rfl, q, rfl⟩) | (go_at_call 41; refine (KO.out _ (below_drewN (Below.refl _ _) _)).mono ?_; rintro e w1 ⟨rfl, q2, rfl⟩) | (go_at_call 42; refine (KX.out _ (below_drewN (Below.refl _ _) _)).mono ?_; rintro e w2 ⟨rfl, hw2⟩))
  go_ret
  exact ⟨rfl, (below_drewN (Below.refl _ _) _).trans hw2⟩
end Go.Proofs.Ytmnegfhigfipbaa
