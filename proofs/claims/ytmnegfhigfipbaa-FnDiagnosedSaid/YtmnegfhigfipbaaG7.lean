import Derived.Test.YtmnegfhigfipbaaG6
namespace Go.Proofs.Ytmnegfhigfipbaa
open Go.RowKit Go.Sort
set_option maxRecDepth 100000 in
set_option maxHeartbeats 1600000 in
theorem explain_any (A : Option Addr) (n c : Nat) (ts : List Tri) (F : Option Addr) (m d : Nat) (fs : List Flt) (n0 : Nat) (w : World) (hr : RL TriM 7 w A n ts) (ht : ∀ t ∈ ts, TOK t ∧ t.a.digits.length = n0) (hf : RL FltM 2 w F m fs)
    (hg : GoodF n0 fs) (ha : Asc fs) (h1 : 1 ≤ n0) (hn0 : 0 < n) (hn : n ≤ 1000000) (hm : m ≤ 1000000) :
    Calls Try.prog 44 #[.slice A n c, .slice F m d] w fun e w' => e = .returned (.bool (vexpl ts fs)) ∧ Below w.heap.size w w' := by
  have HL := Lib.hid hr.1
  have HT := Lib.hid ht; clear ht
  go_enter Try.func44, Try.ntmps44
  go_wp2
  go_loopw [9] (fun i wr => ∃ k : Nat, k ≤ n ∧ i = .int .i64 k ∧ (ts.take k).all (fun t => expl t fs) = true ∧ Below w.heap.size w wr) (fun i _ => n - (intOf i).toNat)
  case atStart => exact ⟨0, Nat.zero_le _, rfl, by simp, Below.refl _ _⟩
  case round =>
    obtain ⟨k, hk, rfl, hall, hbr⟩ := hrel
    have HD := Lib.hid hall; clear hall
    by_cases hkn : k < n
    · obtain ⟨ad, hA, hlt, hkl, htk⟩ := (hr.below steady_TriM hbr).at_ hkn
      obtain ⟨A1, c1, A2, c2, A3, c3, ⟨g1, g2, g3, g4, g5, g6, g7⟩, r1, r2, r3⟩ := htk.cells
      obtain ⟨tok, tn⟩   := HT.out ts[k] (List.getElem_mem _)
      have hi0 : (0 : Int) ≤ (k : Int) := by omega
      have hi1 : (k : Int) < (n : Int) := by omega
      have hfb : Below wr.heap.size wr (wr.alloc (.cells #[.int .i64 ts[k].a.base, .slice A1 ts[k].a.digits.length c1, .int .i64 ts[k].b.base, .slice A2 ts[k].b.digits.length c2, .int .i64 ts[k].s.base, .slice A3 ts[k].s.digits.length c3, .int .i64 ts[k].carry] 62)) := (Below.refl _ _).alloc (Nat.le_refl _) _
      have KE := Lib.hid (explained_any ts[k] A1 A2 A3 c1 c2 c3 F m d fs _ (r1.below hfb) (r2.below hfb) (r3.below hfb) ((hf.below steady_FltM hbr).below steady_FltM hfb) tok (by rw [tn]; exact hg) hm)
      subst hA
      clear tok tn htk r1 r2 r3
      rcases hv : expl ts[k] fs with _ | _
      · have HF : Hid (vexpl ts fs = false) := by simp only [Hid, vexpl]; exact all_not hkl hv
        have HV := Lib.hid hv; clear hv
        go_wp2_with (go_at_call 45; refine (calls_val KE.out (congrArg Value.bool HV.out)).mono ?_; rintro e w1 ⟨rfl, hw1⟩)
        go_ret
        exact ⟨ret_bool HF.out.symm, hbr.trans ((hfb.trans (hw1.mono hfb.size)).mono hbr.size)⟩
      · have HV := Lib.hid hv; clear hv
        go_wp2_with (go_at_call 45; refine (calls_val KE.out (congrArg Value.bool HV.out)).mono ?_; rintro e w1 ⟨rfl, hw1⟩)
        go_roundw
        case rel => exact ⟨k + 1, by omega, by go_num, by rw [all_take_succ hkl, HD.out, HV.out]; rfl, hbr.trans ((hfb.trans (hw1.mono hfb.size)).mono hbr.size)⟩
        case measure => simp [intOf]; omega
    · have HK : Hid (vexpl ts fs = true) := by have h1 := HD.out; rwa [List.take_of_length_le (by have := HL.out; omega)] at h1
      obtain ⟨ad, hA, hlt, hk0, ht0⟩ := (hr.below steady_TriM hbr).at_ hn0
      rw [Nat.zero_mul, addr_add_zero] at ht0
      obtain ⟨A1, c1, A2, c2, A3, c3, ⟨g1, g2, g3, g4, g5, g6, g7⟩, r1, r2, r3⟩ := ht0.cells
      obtain ⟨⟨-, t2, -⟩, tn⟩ := HT.out ts[0] (List.getElem_mem _)
      have hi2 : (0 : Int) < (n : Int) := by omega
      subst hA
      have KW := Lib.hid (width_any ts[0].a.base A1 ts[0].a.digits.length c1 wr)
      have TN := Lib.hid tn; clear tn
      go_wp2_with (go_at_call 57; refine KW.out.mono ?_; rintro e w1 ⟨rfl, hw1⟩; rw [TN.out])
      refine (ValidFaults_true n0 F m d fs w1 ((hf.below steady_FltM hbr).below steady_FltM hw1) hg ha h1 (by have := TN.out; omega) hm).mono ?_; rintro e w2 ⟨rfl, hw2⟩
      go_wp2
      go_ret
      exact ⟨ret_bool HK.out.symm, hbr.trans ((hw1.trans (hw2.mono hw1.size)).mono hbr.size)⟩
set_option maxRecDepth 100000 in
set_option maxHeartbeats 1600000 in
theorem l20One_any (p : Addr) (t : Tri) (A : Option Addr) (m c : Nat) (fs : List Flt) (w : World) (hT : TriM w p t) (hpl : p.block < w.heap.size) (hr : RL FltM 2 w A m fs) (ht : TOK t) (hg : GoodF t.a.digits.length fs) (hm : m ≤ 1000000) :
    Calls Try.prog 69 #[.pointer (some p), .slice A m c] w fun e w' => e = .returned (.bool (expl t fs)) ∧ Below w.heap.size w w' := by
  obtain ⟨t1, t2, t3, t4, t5, t6, -, -, s3⟩ := ht
  have x6 := hT.2.2.2
  have hb0 : Below w.heap.size w (w.alloc (.cells #[.int .i64 0, .slice none 0 0] 60)) := (Below.refl _ _).alloc (Nat.le_refl _) _
  have KA := Lib.hid (fun (W : World) (hW : Below w.heap.size w W) => l08Add_any p ⟨p.block, p.off + 2, none⟩ t.a t.b A m c fs W (steady_TriM _ _ _ _ hpl hW hT).1 (steady_TriM _ _ _ _ hpl hW hT).2.1 (Nat.lt_of_lt_of_le hpl hW.size) (Nat.lt_of_lt_of_le hpl hW.size) (hr.below steady_FltM hW) t1 t2 t3 t4 t5 t6 hg (by omega))
  clear t1
  go_enter Try.func69, Try.ntmps69
  go_wp2_with fail
  go_region_with (go_at_call 66; refine (KA.out _ (by first | exact hb0.drew | exact (Below.refl _ _).drew)).mono ?_; rintro e w1 ⟨X, x, rfl, ox, hw1⟩; obtain ⟨hc, hf⟩ := bcell hw1)
  all_goals
    have hl : (sumReg t fs).digits.length = t.a.digits.length := sumL_len _ _ _ _ _
    have hsm : SmallReg (sumReg t fs) := by unfold SmallReg; omega
    have HF := Lib.hid (show expl t fs = (sameR (sumReg t fs) t.s && (carryAt t.a.base t.a.digits t.b.digits fs t.a.digits.length == t.carry)) from rfl)
    obtain ⟨cy, hcy⟩ : ∃ cy, cy = carryAt t.a.base t.a.digits t.b.digits fs t.a.digits.length := ⟨_, rfl⟩
    rw [← hcy] at HF
    rw [← hcy]
    clear hcy
    first
      | (have hb1 : Below w.heap.size w w1 := ((Below.refl w.heap.size w).drew).trans (hw1.mono (by simp))
         have hbA : Below w.heap.size w (w1.alloc (.cells #[.int .i64 t.a.base, .slice X t.a.digits.length x] 60)) := hb1.alloc hb1.size _
         have e0 : (w1.alloc (.cells #[.int .i64 t.a.base, .slice X t.a.digits.length x] 60)).cell? ⟨w1.heap.size, 0, none⟩ = some (.int .i64 t.a.base) := by go_simp
         have e1 : (w1.alloc (.cells #[.int .i64 t.a.base, .slice X t.a.digits.length x] 60)).cell? ⟨w1.heap.size, 1, none⟩ = some (.slice X t.a.digits.length x) := by go_simp
         have rX : RI (w1.alloc (.cells #[.int .i64 t.a.base, .slice X t.a.digits.length x] 60)) X t.a.digits.length (sumReg t fs).digits := ox.ri.below ((Below.refl _ _).alloc (Nat.le_refl _) _)
         have hT2 := steady_TriM _ _ _ _ hpl hbA hT
         have K := Lib.hid (l02Same_any ⟨w1.heap.size, 0, none⟩ ⟨p.block, p.off + 4, none⟩ (sumReg t fs) t.s _ ⟨X, x, ⟨e0, by rw [hl]; exact e1⟩, by rw [hl]; exact rX⟩ hT2.2.2.1 hsm s3)
         have y6 := hT2.2.2.2
         clear e0 e1 rX hT2 hc hf hl
         rcases k : sameR (sumReg t fs) t.s with _ | _
         all_goals
           have K1 := Lib.hid k; clear k
           go_wp2_with (go_at_call 93; refine (calls_val K.out (congrArg Value.bool K1.out)).mono ?_; rintro e w2 ⟨rfl, q, rfl⟩)
           go_ret
           exact ⟨ret_bool (by rw [HF.out, K1.out]; rfl), below_drewN hbA _⟩)
      | (have hbB : Below w.heap.size w w1 := hb0.drew.trans (hw1.mono (by simp))
         have e0 : (((w1.setCell ⟨w.heap.size, 0, none⟩ (.int .i64 t.a.base)).setCell ⟨w.heap.size, 1, none⟩ (.slice X t.a.digits.length x))).cell? ⟨w.heap.size, 0, none⟩ = some (.int .i64 t.a.base) := by go_simp
         have e1 : (((w1.setCell ⟨w.heap.size, 0, none⟩ (.int .i64 t.a.base)).setCell ⟨w.heap.size, 1, none⟩ (.slice X t.a.digits.length x))).cell? ⟨w.heap.size, 1, none⟩ = some (.slice X t.a.digits.length x) := by go_simp
         have hbA : Below w.heap.size w ((w1.setCell ⟨w.heap.size, 0, none⟩ (.int .i64 t.a.base)).setCell ⟨w.heap.size, 1, none⟩ (.slice X t.a.digits.length x)) := (hbB.setCell (by simp) _).setCell (by simp) _
         have rX : RI ((w1.setCell ⟨w.heap.size, 0, none⟩ (.int .i64 t.a.base)).setCell ⟨w.heap.size, 1, none⟩ (.slice X t.a.digits.length x)) X t.a.digits.length (sumReg t fs).digits := ((ox.setBelow (a := ⟨w.heap.size, 0, none⟩) (by simp) _).setBelow (a := ⟨w.heap.size, 1, none⟩) (by simp) _).ri
         have hT2 := steady_TriM _ _ _ _ hpl hbA hT
         have K := Lib.hid (l02Same_any ⟨w.heap.size, 0, none⟩ ⟨p.block, p.off + 4, none⟩ (sumReg t fs) t.s _ ⟨X, x, ⟨e0, by rw [hl]; exact e1⟩, by rw [hl]; exact rX⟩ hT2.2.2.1 hsm s3)
         have y6 := hT2.2.2.2
         clear e0 e1 rX hT2 hc hf hl
         rcases k : sameR (sumReg t fs) t.s with _ | _
         all_goals
           have K1 := Lib.hid k; clear k
           go_wp2_with (go_at_call 93; refine (calls_val K.out (congrArg Value.bool K1.out)).mono ?_; rintro e w2 ⟨rfl, q, rfl⟩)
           go_ret
           exact ⟨ret_bool (by rw [HF.out, K1.out]; rfl), below_drewN hbA _⟩)
end Go.Proofs.Ytmnegfhigfipbaa
