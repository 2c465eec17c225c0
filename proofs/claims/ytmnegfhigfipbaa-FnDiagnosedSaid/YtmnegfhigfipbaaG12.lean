import Derived.Test.YtmnegfhigfipbaaG11
namespace Go.Proofs.Ytmnegfhigfipbaa
open Go.RowKit Go.Sort
/-- the lists of faults that explain the trials -/
def found (ts : List Tri) (n0 m : Nat) : List (List Flt) := (fsets n0 m).filter (vexpl ts)
theorem take_filter_succ {α : Type} {p : α → Bool} {ds : List α} {k : Nat} (h : k < ds.length) : (ds.take (k + 1)).filter p = (ds.take k).filter p ++ (if p ds[k] then [ds[k]] else []) := by
  rw [List.take_succ_eq_append_getElem h, List.filter_append]
  by_cases g : p ds[k] = true
  · simp [g]
  · simp [g]
def bcode (ts : List Tri) (f : Int) : Int := if vtrials ts = false then 1 else if 6 < (ts.headD default).a.digits.length then 5 else if betB f 0 2 = false then 2 else 0
theorem vtrials_pos {ts : List Tri} (h : vtrials ts = true) : 0 < ts.length ∧ ts.length ≤ 60 := by
  simp only [vtrials, Bool.and_eq_true] at h
  obtain ⟨-, h⟩ := h
  obtain ⟨h1, h2⟩ := betB_iff.1 h
  omega
set_option maxHeartbeats 800000 in
theorem blameCode_any (A : Option Addr) (n c : Nat) (ts : List Tri) (f : Int) (w : World) (hr : RL TriM 7 w A n ts) (hs : ∀ t ∈ ts, SmallTri t) (hm : n ≤ 1048576) :
    Calls Try.prog 35 #[.slice A n c, .int .i64 f] w fun e w' => e = .returned (.int .i64 (bcode ts f)) ∧ Below w.heap.size w w' := by
  have HL := Lib.hid hr.1
  have KV := Lib.hid (fun (v : Bool) (hv : vtrials ts = v) => calls_val (ValidTrials_any A n c ts w hr hs (by omega)) (congrArg Value.bool hv))
  rcases hv : vtrials ts with _ | _
  · have HF : Hid (bcode ts f = 1) := by simp only [Hid, bcode]; rw [if_pos hv]
    have HV := Lib.hid hv; clear hv
    go_enter Try.func35, Try.ntmps35
    go_wp2_with (go_at_call 43; refine (KV.out _ HV.out).mono ?_; rintro e w1 ⟨rfl, hw1⟩)
    go_ret
    exact ⟨ret_int HF.out.symm, hw1⟩
  · have hpos := vtrials_pos hv
    have HV := Lib.hid hv
    have HN : Hid (¬ vtrials ts = false) := by simp [Hid, hv]
    clear hv
    go_enter Try.func35, Try.ntmps35
    go_wp2_with fail
    refine (KV.out _ HV.out).mono ?_; rintro e w1 ⟨rfl, hw1⟩
    obtain ⟨ad, hA, hlt, hk0, ht0⟩ := (hr.below steady_TriM hw1).at_ (show 0 < n by have := HL.out; omega)
    rw [Nat.zero_mul, addr_add_zero] at ht0
    obtain ⟨A1, c1, A2, c2, A3, c3, ⟨g1, g2, g3, g4, g5, g6, g7⟩, r1, r2, r3⟩ := ht0.cells
    have hi2 : (0 : Int) < (n : Int) := by have := HL.out; omega
    have HH := Lib.hid (headD_get hk0)
    subst hA
    have KW := Lib.hid (width_any ts[0].a.base A1 ts[0].a.digits.length c1 w1)
    have hsm := (hs ts[0] (List.getElem_mem _)).1
    unfold SmallReg at hsm
    clear hpos
    by_cases h6 : 6 < ts[0].a.digits.length
    · have HF : Hid (bcode ts f = 5) := by simp only [Hid, bcode]; rw [if_neg HN.out, HH.out, if_pos h6]
      have i6 : (6 : Int) < (ts[0].a.digits.length : Int) := by omega
      go_wp2_with (go_at_call 57; refine KW.out.mono ?_; rintro e w2 ⟨rfl, hw2⟩)
      go_ret
      exact ⟨ret_int HF.out.symm, hw1.trans (hw2.mono hw1.size)⟩
    · have i6 : ¬ (6 : Int) < (ts[0].a.digits.length : Int) := by omega
      rcases hb : betB f 0 2 with _ | _
      · have HF : Hid (bcode ts f = 2) := by simp only [Hid, bcode]; rw [if_neg HN.out, HH.out, if_neg h6, if_pos hb]
        have HB := Lib.hid hb; clear hb
        go_wp2_with (first | (go_at_call 57; refine KW.out.mono ?_; rintro e w2 ⟨rfl, hw2⟩) | (go_at_call 58; refine (between_any _ _ _ _).mono ?_; rintro e w' ⟨rfl, rfl⟩; rw [HB.out]))
        go_ret
        exact ⟨ret_int HF.out.symm, hw1.trans (hw2.mono hw1.size)⟩
      · have HF : Hid (bcode ts f = 0) := by simp only [Hid, bcode]; rw [if_neg HN.out, HH.out, if_neg h6, if_neg (by rw [hb]; decide)]
        have HB := Lib.hid hb; clear hb
        go_wp2_with (first | (go_at_call 57; refine KW.out.mono ?_; rintro e w2 ⟨rfl, hw2⟩) | (go_at_call 58; refine (between_any _ _ _ _).mono ?_; rintro e w' ⟨rfl, rfl⟩; rw [HB.out]))
        go_ret
        exact ⟨ret_int HF.out.symm, hw1.trans (hw2.mono hw1.size)⟩
set_option maxHeartbeats 800000 in
theorem l20Code_any (A : Option Addr) (n c : Nat) (ts : List Tri) (f : Int) (w : World) (hr : RL TriM 7 w A n ts) (hs : ∀ t ∈ ts, SmallTri t) (hm : n ≤ 1048576) :
    Calls Try.prog 32 #[.slice A n c, .int .i64 f] w fun e w' => e = .returned (.int .i64 (bcode ts f)) ∧ ∃ q, w' = w.drewN q := by
  have HL := Lib.hid hr.1
  have KV := Lib.hid (fun (v : Bool) (hv : vtrials ts = v) => l20Ok_any A n c ts w hr hs (by omega))
  rcases hv : vtrials ts with _ | _
  · have HF : Hid (bcode ts f = 1) := by simp only [Hid, bcode]; rw [if_pos hv]
    have HV := Lib.hid hv; clear hv
    go_enter Try.func32, Try.ntmps32
    go_wp2_with (go_at_call 40; refine (KV.out _ HV.out).mono ?_; rintro e w1 ⟨rfl, q, rfl⟩; rw [HV.out])
    go_ret
    exact ⟨ret_int HF.out.symm, q, rfl⟩
  · have hpos := vtrials_pos hv
    have HV := Lib.hid hv
    have HN : Hid (¬ vtrials ts = false) := by simp [Hid, hv]
    clear hv
    obtain ⟨ad, hA, hlt, hk0, ht0⟩ := hr.at_ (show 0 < n by have := HL.out; omega)
    rw [Nat.zero_mul, addr_add_zero] at ht0
    obtain ⟨A1, c1, A2, c2, A3, c3, ⟨g1, g2, g3, g4, g5, g6, g7⟩, r1, r2, r3⟩ := ht0.cells
    have hi2 : (0 : Int) < (n : Int) := by have := HL.out; omega
    have HH := Lib.hid (headD_get hk0)
    subst hA
    have hsm := (hs ts[0] (List.getElem_mem _)).1
    unfold SmallReg at hsm
    clear hpos r1 r2 r3
    go_enter Try.func32, Try.ntmps32
    by_cases h6 : 6 < ts[0].a.digits.length
    · have HF : Hid (bcode ts f = 5) := by simp only [Hid, bcode]; rw [if_neg HN.out, HH.out, if_pos h6]
      have i6 : (6 : Int) < (ts[0].a.digits.length : Int) := by omega
      go_wp2_with (go_at_call 40; refine (KV.out _ HV.out).mono ?_; rintro e w1 ⟨rfl, q, rfl⟩; rw [HV.out])
      go_ret
      exact ⟨ret_int HF.out.symm, q, rfl⟩
    · have i6 : ¬ (6 : Int) < (ts[0].a.digits.length : Int) := by omega
      rcases hb : betB f 0 2 with _ | _
      · have HF : Hid (bcode ts f = 2) := by simp only [Hid, bcode]; rw [if_neg HN.out, HH.out, if_neg h6, if_pos hb]
        have HB := Lib.hid hb; clear hb
        go_wp2_with (first | (go_at_call 40; refine (KV.out _ HV.out).mono ?_; rintro e w1 ⟨rfl, q, rfl⟩; rw [HV.out]) | (go_at_call 54; refine (l00In_any _ _ _ _).mono ?_; rintro e w' ⟨rfl, rfl⟩; rw [HB.out]))
        go_ret
        exact ⟨ret_int HF.out.symm, q, rfl⟩
      · have HF : Hid (bcode ts f = 0) := by simp only [Hid, bcode]; rw [if_neg HN.out, HH.out, if_neg h6, if_neg (by rw [hb]; decide)]
        have HB := Lib.hid hb; clear hb
        go_wp2_with (first | (go_at_call 40; refine (KV.out _ HV.out).mono ?_; rintro e w1 ⟨rfl, q, rfl⟩; rw [HV.out]) | (go_at_call 54; refine (l00In_any _ _ _ _).mono ?_; rintro e w' ⟨rfl, rfl⟩; rw [HB.out]))
        go_ret
        exact ⟨ret_int HF.out.symm, q, rfl⟩
end Go.Proofs.Ytmnegfhigfipbaa
