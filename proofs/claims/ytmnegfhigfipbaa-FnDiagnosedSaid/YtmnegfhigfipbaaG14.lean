import Derived.Test.YtmnegfhigfipbaaG13
namespace Go.Proofs.Ytmnegfhigfipbaa
open Go.RowKit Go.Sort
/-- the width of the first trial -/
def wid (ts : List Tri) : Nat := (ts.headD default).a.digits.length
theorem bcode_zero {ts : List Tri} {f : Int} (h : bcode ts f = 0) (hs : ∀ t ∈ ts, SmallTri t) : (∀ t ∈ ts, TOK t ∧ t.a.digits.length = wid ts) ∧ 1 ≤ wid ts ∧ wid ts ≤ 6 ∧ 0 ≤ f ∧ f ≤ 2 ∧ 0 < ts.length ∧ ts.length ≤ 60 := by
  unfold bcode at h
  rcases hv : vtrials ts with _ | _
  · rw [if_pos hv] at h; omega
  rw [if_neg (by rw [hv]; decide)] at h
  split at h
  · omega
  rename_i h6
  rcases hb : betB f 0 2 with _ | _
  · rw [if_pos hb] at h; omega
  obtain ⟨p1, p2⟩ := vtrials_pos hv
  obtain ⟨f1, f2⟩ := betB_iff.1 hb
  have hall : ∀ t ∈ ts, triGood (ts.headD default).a t = true := by
    simp only [vtrials, Bool.and_eq_true, List.all_eq_true] at hv
    exact hv.1
  have hlen : ∀ t ∈ ts, t.a.digits.length = wid ts := by
    intro t ht
    have h := hall t ht
    simp only [triGood, vlike, Bool.and_eq_true, decide_eq_true_eq, beq_iff_eq] at h
    unfold wid
    omega
  refine ⟨fun t ht => ⟨tok_of (hall t ht) (hs t ht), hlen t ht⟩, ?_, by unfold wid; omega, f1, f2, p1, p2⟩
  have h0 := hall ts[0] (List.getElem_mem _)
  have hl := hlen ts[0] (List.getElem_mem _)
  simp only [triGood, vlike, Bool.and_eq_true, decide_eq_true_eq, beq_iff_eq] at h0
  obtain ⟨-, p2, -⟩ := vreg_iff.1 h0.1.1.1.1.1
  omega
def ccount (ts : List Tri) (f : Int) : Int := if bcode ts f = 0 then ((found ts (wid ts) f.toNat).length : Int) else 0
theorem blameCode_below (A : Option Addr) (n c : Nat) (ts : List Tri) (f : Int) (w : World) (hr : RL TriM 7 w A n ts) (hs : ∀ t ∈ ts, SmallTri t) (hm : n ≤ 1048576) :
    Calls Try.prog 35 #[.slice A n c, .int .i64 f] w fun e w' => e = .returned (.int .i64 (bcode ts f)) ∧ Below w.heap.size w w' := blameCode_any A n c ts f w hr hs hm
theorem l20Code_below (A : Option Addr) (n c : Nat) (ts : List Tri) (f : Int) (w : World) (hr : RL TriM 7 w A n ts) (hs : ∀ t ∈ ts, SmallTri t) (hm : n ≤ 1048576) :
    Calls Try.prog 32 #[.slice A n c, .int .i64 f] w fun e w' => e = .returned (.int .i64 (bcode ts f)) ∧ Below w.heap.size w w' :=
  (l20Code_any A n c ts f w hr hs hm).mono fun e w' ⟨h1, q, h2⟩ => ⟨h1, by rw [h2]; exact below_drewN (Below.refl _ _) _⟩
set_option maxHeartbeats 800000 in
theorem impl_CountExplanations (A : Option Addr) (n c : Nat) (ts : List Tri) (f : Int) (w : World) (hr : RL TriM 7 w A n ts) (hs : ∀ t ∈ ts, SmallTri t) (hm : n ≤ 1048576) :
    Calls Try.prog 11 #[.slice A n c, .int .i64 f] w fun e w' => e = .returned (.tuple #[.int .i64 (ccount ts f), .int .i64 (bcode ts f)]) ∧ Below w.heap.size w w' := by
  have KC := Lib.hid (blameCode_below A n c ts f w hr hs hm)
  by_cases h0 : bcode ts f = 0
  · obtain ⟨hT, w1', w6, f0, f2, n1, n2⟩ := bcode_zero h0 hs
    have HL := Lib.hid hr.1
    obtain ⟨fn, rfl⟩ : ∃ fn : Nat, f = fn := ⟨f.toNat, by omega⟩
    have HF := Lib.hid (show ccount ts fn = ((found ts (wid ts) fn).length : Int) by unfold ccount; rw [if_pos h0]; rfl)
    have KE := Lib.hid (fun W (hW : Below w.heap.size w W) => explanations_any A n c ts (wid ts) fn W (hr.below steady_TriM hW) hT w1' w6 (by omega) (by have := HL.out; omega) (by have := HL.out; omega))
    have HS := Lib.hid hs; clear hs hT
    have H0 := Lib.hid h0; clear h0
    go_enter Try.func11, Try.ntmps11
    go_wp2_with (first
      | (go_at_call 35; refine KC.out.mono ?_; rintro e w1 ⟨rfl, hw1⟩; rw [H0.out])
      | (go_at_call 36; refine (KE.out _ hw1).mono ?_; rintro e w2 ⟨v, rfl, hS, hw2⟩; obtain ⟨AS, cS, rfl, -⟩ := hS.reads))
    refine bodyPost_ret (v := .tuple #[.int .i64 ((found ts (wid ts) fn).length : Int), .int .i64 0]) (by simp [results, Try.results11, go_sem]) rfl ⟨by rw [HF.out, H0.out], hw1.trans (hw2.mono hw1.size)⟩
  · have HF := Lib.hid (show ccount ts f = 0 by unfold ccount; rw [if_neg h0])
    have hne : (bcode ts f != 0) = true := by simpa using h0
    have H0 := Lib.hid h0; clear h0
    go_enter Try.func11, Try.ntmps11
    go_wp2_with (go_at_call 35; refine KC.out.mono ?_; rintro e w1 ⟨rfl, hw1⟩)
    refine bodyPost_ret (v := .tuple #[.int .i64 0, .int .i64 (bcode ts f)]) (by simp [results, Try.results11, go_sem]) rfl ⟨by rw [HF.out], hw1⟩
set_option maxHeartbeats 800000 in
theorem spec_CountExplanations (A : Option Addr) (n c : Nat) (ts : List Tri) (f : Int) (w : World) (hr : RL TriM 7 w A n ts) (hs : ∀ t ∈ ts, SmallTri t) (hm : n ≤ 1048576) :
    Calls Try.prog 9 #[.slice A n c, .int .i64 f] w fun e w' => e = .returned (.tuple #[.int .i64 (ccount ts f), .int .i64 (bcode ts f)]) ∧ Below w.heap.size w w' := by
  have KC := Lib.hid (l20Code_below A n c ts f w hr hs hm)
  by_cases h0 : bcode ts f = 0
  · obtain ⟨hT, w1', w6, f0, f2, n1, n2⟩ := bcode_zero h0 hs
    have HL := Lib.hid hr.1
    obtain ⟨fn, rfl⟩ : ∃ fn : Nat, f = fn := ⟨f.toNat, by omega⟩
    have HF := Lib.hid (show ccount ts fn = ((found ts (wid ts) fn).length : Int) by unfold ccount; rw [if_pos h0]; rfl)
    have KE := Lib.hid (fun W (hW : Below w.heap.size w W) => l20Found_any A n c ts (wid ts) fn W (hr.below steady_TriM hW) hT w1' w6 (by omega) (by have := HL.out; omega) (by have := HL.out; omega))
    have HS := Lib.hid hs; clear hs hT
    have H0 := Lib.hid h0; clear h0
    go_enter Try.func9, Try.ntmps9
    go_wp2_with (first
      | (go_at_call 32; refine KC.out.mono ?_; rintro e w1 ⟨rfl, hw1⟩; rw [H0.out])
      | (go_at_call 33; refine (KE.out _ hw1).mono ?_; rintro e w2 ⟨v, rfl, hS, hw2⟩; obtain ⟨AS, cS, rfl, -⟩ := hS.reads))
    refine bodyPost_ret (v := .tuple #[.int .i64 ((found ts (wid ts) fn).length : Int), .int .i64 0]) (by simp [results, Try.results9, go_sem]) rfl ⟨by rw [HF.out, H0.out], hw1.trans (hw2.mono hw1.size)⟩
  · have HF := Lib.hid (show ccount ts f = 0 by unfold ccount; rw [if_neg h0])
    have hne : (bcode ts f != 0) = true := by simpa using h0
    have H0 := Lib.hid h0; clear h0
    go_enter Try.func9, Try.ntmps9
    go_wp2_with (go_at_call 32; refine KC.out.mono ?_; rintro e w1 ⟨rfl, hw1⟩)
    refine bodyPost_ret (v := .tuple #[.int .i64 0, .int .i64 (bcode ts f)]) (by simp [results, Try.results9, go_sem]) rfl ⟨by rw [HF.out], hw1⟩
end Go.Proofs.Ytmnegfhigfipbaa
