import Derived.Test.YtmnegfhigfipbaaG18
import Derived.Test.YtmnegfhigfipbaaK4
namespace Go.Proofs.Ytmnegfhigfipbaa
open Go.RowKit Go.Sort
theorem eqF_own (A B : Option Addr) (c d : Nat) (fs : List Flt) (w : World) {b1 b2 : Nat} (h1 : OwnF w b1 (.slice A fs.length c) fs) (h2 : OwnF w b2 (.slice B fs.length d) fs) (hm : fs.length ≤ 1048576) :
    Calls Try.prog 28 #[.slice A fs.length c, .slice B fs.length d] w fun e w' => e = .returned (.bool true) ∧ Below w.heap.size w w' := by
  obtain ⟨A', c', e1, r1⟩ := h1.reads
  obtain ⟨B', d', e2, r2⟩ := h2.reads
  injection e1 with e1 _ _
  injection e2 with e2 _ _
  subst e1; subst e2
  exact eqLeverFaultS_same A B fs.length c d fs w r1 r2 hm
theorem OwnF.keep {w w' : World} {base : Nat} {v : Value} {fs : List Flt} (h : OwnF w base v fs) {P : Nat → Prop} (m : Marks P w w') (hP : ∀ k, v.ownBlock = some k → ¬ P k) : OwnF w' base v fs :=
  rowK h (fun g hg => m.block (hP g hg))
theorem OwnF.lt {w : World} {base : Nat} {v : Value} {fs : List Flt} (h : OwnF w base v fs) : ∀ k, v.ownBlock = some k → base ≤ k ∧ k < w.heap.size := own_lt h
set_option maxRecDepth 100000 in
set_option maxHeartbeats 3200000 in
theorem law_Diagnose (A : Option Addr) (n c : Nat) (ts : List Tri) (w : World) (hr : RL TriM 7 w A n ts) (hs : ∀ t ∈ ts, SmallTri t) (hm : n ≤ 9223372036854775807) :
    Calls Try.prog 7 #[.slice A n c] w fun e w' => e = .returned (.bool true) ∧ Below w.heap.size w w' := by
  have HL := Lib.hid hr.1
  have HS := Lib.hid hs
  have KZ := Lib.hid (szTrialS_any A n c ts w hr hs hm)
  by_cases hneg : szS 1048576 ts < 0
  · clear hs
    go_enter Try.func7, Try.ntmps7
    go_wp2_with (go_at_call 8; refine KZ.out.mono ?_; rintro e w1 ⟨rfl, hw1⟩)
    go_ret
    exact ⟨rfl, hw1⟩
  · obtain ⟨z1, z2⟩ := szS_small hneg
    have hn : n ≤ 1048576 := by rw [← HL.out]; exact z1
    have HZ := Lib.hid z2
    have KT := Lib.hid (fun W (hW : Below w.heap.size w W) => toTrialS_any A n c ts W (hr.below steady_TriM hW) z2 hn)
    have hsl := dres_len ts
    obtain ⟨sl, hsle⟩ : ∃ sl, sl = (dres ts).1 := ⟨_, rfl⟩
    have KSP := Lib.hid (fun B g W (o : OwnTS W g n ts) => spec_Diagnose (some ⟨g, 0, none⟩) n B ts W o.rl hs hn)
    have KIM := Lib.hid (fun B g W (o : OwnTS W g n ts) => impl_Diagnose (some ⟨g, 0, none⟩) n B ts W o.rl hs hn)
    rw [← hsle] at hsl KSP KIM
    clear hs z2 hsle
    go_enter Try.func7, Try.ntmps7
    go_wp2_with (go_at_call 8; refine KZ.out.mono ?_; rintro e w1 ⟨rfl, hw1⟩)
    have B1 := Lib.hid hw1
    refine (KT.out w1 hw1).mono ?_; rintro e w2 ⟨rfl, o2, hw2⟩
    have hz2 := hw2.size
    have hz1 := hw1.size
    have B2 := Lib.hid (B1.out.trans (hw2.mono hz1))
    have O2 := Lib.hid o2; clear o2 hw2
    go_wp2_with fail
    refine (KSP.out n _ w2 O2.out).mono ?_; rintro e w3 ⟨v0, rfl, hv0, hw3⟩
    have hz3 := hw3.size
    have B3 := Lib.hid (B2.out.trans (hw3.mono (by omega)))
    obtain ⟨A0, c0, rfl, -⟩ := hv0.reads
    have V0 := Lib.hid hv0
    have L0 := Lib.hid hv0.lt
    clear hv0 O2 hw3
    go_wp2_with fail
    refine (KT.out w3 B3.out).mono ?_; rintro e w4 ⟨rfl, o4, hw4⟩
    have hz4 : w3.heap.size + 1 ≤ w4.heap.size := by
      rcases o4.2 with ⟨xs, h, -⟩
      rcases h.2 with ⟨h, -⟩ | ⟨g, cap, cur, e, -, hg, -⟩
      · cases h
      · injection e with e; injection e with e; injection e with e
        subst e
        exact (Array.getElem?_eq_some_iff.1 hg).1
    have B4 := Lib.hid (B3.out.trans (hw4.mono (by omega)))
    have O4 := Lib.hid o4
    have V04 := Lib.hid (V0.out.below hw4)
    clear o4 hw4
    go_wp2_with fail
    refine (KIM.out n _ w4 O4.out).mono ?_; rintro e w5 ⟨v1, rfl, hv1, hw5⟩
    have hz5 := hw5.size
    obtain ⟨A1, c1, rfl, -⟩ := hv1.reads
    have V1 := Lib.hid hv1
    have L1 := Lib.hid hv1.lt
    have V05 := Lib.hid (V04.out.below hw5)
    have W5 := Lib.hid hw5
    clear hv1 V04 hw5
    go_wp2_with fail
    refine (eqF_own A1 A0 c1 c0 sl w5 V1.out V05.out (by omega)).mono ?_; rintro e w6 ⟨rfl, hw6⟩
    have hz6 := hw6.size
    have W6 := Lib.hid (W5.out.trans (hw6.mono hz5))
    have B6 := Lib.hid (B4.out.trans (W6.out.mono (by omega)))
    have V16 := Lib.hid (V1.out.below hw6)
    have V06 := Lib.hid (V05.out.below hw6)
    clear hw6 V05 V1 W5
    go_wp2_with fail
    refine (KT.out w6 B6.out).mono ?_; rintro e w7 ⟨rfl, o7, hw7⟩
    have hz7 := hw7.size
    have W7 := Lib.hid (W6.out.trans (hw7.mono (by omega)))
    have O7 := Lib.hid o7
    have V17 := Lib.hid (V16.out.below hw7)
    have V07 := Lib.hid (V06.out.below hw7)
    clear o7 hw7 W6 V16 V06
    go_wp2_with fail
    refine (eqTrialS_same _ _ n _ _ ts w7 (O4.out.below W7.out).rl O7.out.rl HZ.out hn).mono ?_; rintro e w8 ⟨rfl, hw8⟩
    have hz8 := hw8.size
    have W8 := Lib.hid (W7.out.trans (hw8.mono (by omega)))
    have B8 := Lib.hid (B4.out.trans (W8.out.mono (by omega)))
    have V18 := Lib.hid (V17.out.below hw8)
    have V08 := Lib.hid (V07.out.below hw8)
    obtain ⟨xs, hms⟩ := O4.out.ms W8.out HZ.out
    have MS8 := Lib.hid hms
    clear hw8 W7 V17 V07 hms O7
    go_wp2_with fail
    refine (markTrialS_any w3.heap.size n w4.heap.size xs w8 MS8.out (by omega) hn).mono ?_; rintro e w9 ⟨mk, rfl, hmk0, hmk⟩
    have hz9 := Nat.le_of_eq hmk.size
    have hz9' := Nat.le_of_eq hmk.size.symm
    have V19 := Lib.hid (V18.out.keep hmk (fun k hk h => by have := (L1.out k hk).1; omega))
    have V09 := Lib.hid (V08.out.keep hmk (fun k hk h => by have := (L0.out k hk).2; omega))
    have B9 := Lib.hid (hmk.under B8.out (fun k hk => by omega))
    have hmkn : ¬ mk < 0 := by omega
    have hmkd : decide (mk < 0) = false := by simp; omega
    clear hmk V18 V08 MS8
    go_wp2_with fail
    refine (eqF_own A1 A0 c1 c0 sl w9 V19.out V09.out (by omega)).mono ?_; rintro e w10 ⟨rfl, hw10⟩
    have hz10 := hw10.size
    have B10 := Lib.hid (B9.out.trans (hw10.mono (by omega)))
    have V110 := Lib.hid (V19.out.below hw10)
    have V010 := Lib.hid (V09.out.below hw10)
    clear hw10 V19 V09
    go_wp2_with fail
    refine (markLeverFaultS_any _ A1 sl.length c1 sl 1 w10 V110.out rfl (by omega) (by omega)).mono ?_; rintro e w11 ⟨rfl, hmk, hup⟩
    have hz11 := Nat.le_of_eq hmk.size
    have hz11' := Nat.le_of_eq hmk.size.symm
    have U11 := Lib.hid hup
    have V011 := Lib.hid (V010.out.keep hmk (fun k hk h => by have h1 := (L0.out k hk).2; have h2 := (L1.out k h).1; omega))
    have B11 := Lib.hid (hmk.under B10.out (fun k hk => by have h2 := (L1.out k hk).1; omega))
    clear hmk hup V110 V010
    go_wp2_with fail
    refine (heldLeverFaultS_any _ A1 sl.length c1 1 w11 U11.out (by omega) (by omega)).mono ?_; rintro e w12 ⟨rfl, rfl⟩
    go_wp2_with fail
    refine (KT.out w11 B11.out).mono ?_; rintro e w12 ⟨rfl, o12, hw12⟩
    have hz12 := hw12.size
    have B12 := Lib.hid (B11.out.trans (hw12.mono (by omega)))
    have O12 := Lib.hid o12
    have U12 := Lib.hid (row_below U11.out hw12)
    have V012 := Lib.hid (V011.out.below hw12)
    clear o12 hw12 U11 V011
    go_wp2_with fail
    refine (KIM.out n _ w12 O12.out).mono ?_; rintro e w13 ⟨v2, rfl, hv2, hw13⟩
    have hz13 := hw13.size
    have B13 := Lib.hid (B12.out.trans (hw13.mono (by omega)))
    obtain ⟨A2, c2, rfl, -⟩ := hv2.reads
    have V2 := Lib.hid hv2
    have U13 := Lib.hid (row_below U12.out hw13)
    have V013 := Lib.hid (V012.out.below hw13)
    clear hv2 hw13 U12 V012 O12
    go_wp2_with fail
    refine (eqF_own A2 A0 c2 c0 sl w13 V2.out V013.out (by omega)).mono ?_; rintro e w14 ⟨rfl, hw14⟩
    have hz14 := hw14.size
    have B14 := Lib.hid (B13.out.trans (hw14.mono (by omega)))
    have U14 := Lib.hid (row_below U13.out hw14)
    clear hw14 U13 V013 V2
    go_wp2_with fail
    refine (heldLeverFaultS_any _ A1 sl.length c1 1 w14 U14.out (by omega) (by omega)).mono ?_; rintro e w15 ⟨rfl, rfl⟩
    go_wp2_with fail
    go_ret
    exact ⟨rfl, B14.out⟩
end Go.Proofs.Ytmnegfhigfipbaa
