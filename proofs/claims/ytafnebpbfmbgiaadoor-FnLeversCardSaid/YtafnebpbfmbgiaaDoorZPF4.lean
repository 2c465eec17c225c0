/- For every input the law FnLevers returns true and leaves its arguments as they were: without a fault the sum of levers is the true sum; with drawn faults it is another exactly where ShowsFaults says so; faults are restored from their texts. Condition: the tables of strconv hold what the program's text lays (tied by the card). -/
import Derived.Test.YtafnebpbfmbgiaaDoorZC1
import Derived.Test.YtafnebpbfmbgiaaDoorZC2
import Derived.Test.YtafnebpbfmbgiaaDoorZC3
import Derived.Test.YtafnebpbfmbgiaaDoorZC4
import Derived.Test.YtafnebpbfmbgiaaDoorZC5
import Derived.Test.YtafnebpbfmbgiaaDoorZC6
import Derived.Test.YtafnebpbfmbgiaaDoorZC7
import Derived.Test.YtafnebpbfmbgiaaDoorZC8
import Derived.Test.YtafnebpbfmbgiaaDoorZC9
import Derived.Deep.RegionLaw
import Derived.Deep.AppendLies
import Derived.Maps.OwnOps
import Derived.Maps.OwnSet
import Derived.Maps.Views
import Derived.OpenShut
import Derived.ProofKit
import Derived.Carry
import Derived.ChangeMaps5
namespace Go.Proofs.YtafnebpbfmbgiaaDoor
open Go.RowKit Go.Sort
structure Flt where
  kind : Int
  lever : Int
def FltM (w : World) (p : Addr) (f : Flt) : Prop := w.cell? p = some (.int .i64 f.kind) ∧ w.cell? ⟨p.block, p.off + 1, none⟩ = some (.int .i64 f.lever)
theorem steady_FltM : Steady FltM := by
  rintro w w' p f hp hb ⟨h1, h2⟩
  exact ⟨by rw [hb.cell hp]; exact h1, by rw [hb.cell (by exact hp)]; exact h2⟩
def kindAt (fs : List Flt) (j : Int) : Int := fs.foldl (fun a f => if f.lever = j then f.kind else a) 0
theorem kindAt_succ {fs : List Flt} {k : Nat} (h : k < fs.length) (j : Int) : kindAt (fs.take (k + 1)) j = if fs[k].lever = j then fs[k].kind else kindAt (fs.take k) j := by
  unfold kindAt
  rw [List.take_succ_eq_append_getElem h, List.foldl_append]; rfl
def kindsL (fs : List Flt) (n : Nat) : List Int := (List.range n).map (fun (i : Nat) => kindAt fs (i : Int))
theorem kindsL_set {fs : List Flt} {k n l : Nat} (h : k < fs.length) (hl : fs[k].lever = (l : Int)) : ((kindsL (fs.take k) n).map (Value.int .i64)).set l (.int .i64 fs[k].kind) = (kindsL (fs.take (k + 1)) n).map (Value.int .i64) := by
  apply List.ext_getElem
  · simp [kindsL]
  · intro i h1 h2
    rw [List.getElem_set]
    simp only [kindsL, List.map_map, List.getElem_map, List.getElem_range, Function.comp, kindAt_succ h, hl]
    by_cases g : l = i
    · subst g; simp
    · have : ¬ (l : Int) = (i : Int) := by omega
      rw [if_neg g, if_neg this]
theorem kindsL_nil (n : Nat) : (kindsL [] n).map (Value.int .i64) = List.replicate n (.int .i64 0) := by
  apply List.ext_getElem
  · simp [kindsL]
  · intro i h1 h2; simp [kindsL, kindAt]
def GoodF (n : Nat) (fs : List Flt) : Prop := ∀ f ∈ fs, 1 ≤ f.kind ∧ f.kind ≤ 3 ∧ 0 ≤ f.lever ∧ f.lever < n
set_option maxHeartbeats 800000 in
theorem l08Kinds_any (n : Nat) (A : Option Addr) (m c : Nat) (fs : List Flt) (w : World) (hr : RL FltM 2 w A m fs) (hg : GoodF n fs) (hn : n ≤ 16) (hm : m ≤ 9223372036854775807) :
    Calls Tryd.prog 244 #[.int .i64 n, .slice A m c] w fun e w' => ∃ A' c', e = .returned (.slice A' n c') ∧ OwnI w' w.heap.size (.slice A' n c') (kindsL fs n) ∧ Below w.heap.size w w' := by
  have HL := Lib.hid hr.1
  obtain ⟨i0, hi, hz0, hz1, hz2⟩ := info_parts info_i64
  go_enter Tryd.func244, Tryd.ntmps244
  go_wp2_with (at_make; refine wpList_make_full _ rfl _ _ 24 rfl w.heap.size 2 i0 _ 1 Tryd.underlying24 hi hz0 hz1 _ _ _ _ n rfl rfl rfl rfl (by rw [hz2]; omega) (by unfold maxLen; omega) (Nat.le_refl _) ?_; intro w1 hown1 hg1)
  rw [madeI] at hown1
  have hb1 : Below w.heap.size w w1 := (Below.refl _ _).grown hg1 (Nat.le_refl _) (by simp)
  clear hg1
  go_loopw [6] (fun i wr => ∃ k : Nat, k ≤ m ∧ i = .int .i64 k ∧ wr.ownsRow w.heap.size 2 1 (.slice (some ⟨w.heap.size, 0, none⟩) n n) n ((kindsL (fs.take k) n).map (Value.int .i64)) ∧ Below w.heap.size w wr) (fun i _ => m - (intOf i).toNat)
  case atStart => exact ⟨0, Nat.zero_le _, rfl, by rw [List.take_zero, kindsL_nil]; exact hown1, hb1⟩
  case round =>
    obtain ⟨k, hk, rfl, hown, hbr⟩ := hrel
    by_cases hkn : k < m
    · obtain ⟨ad, hA, hlt, hkl, f1, f2⟩ := (hr.below steady_FltM hbr).at_ hkn
      obtain ⟨q1, q2, q3, q4⟩ := hg fs[k] (List.getElem_mem _)
      obtain ⟨l, hl⟩ : ∃ l : Nat, fs[k].lever = l := ⟨fs[k].lever.toNat, by omega⟩
      have hln : l < n := by omega
      have hi0 : (0 : Int) ≤ (k : Int) := by omega
      have hi1 : (k : Int) < (m : Int) := by omega
      have hi2 : (0 : Int) ≤ (l : Int) := by omega
      have hi3 : (l : Int) < (n : Int) := by omega
      rw [hl] at f2
      have HE := Lib.hid (kindsL_set (n := n) hkl hl)
      subst hA
      obtain ⟨u, hu⟩ : ∃ u, ((kindsL (fs.take k) n).map (Value.int .i64))[l]? = some u := ⟨_, List.getElem?_eq_getElem (by rw [hown.1]; omega)⟩
      have hcell := (hown.cellAt l (by omega)).trans hu
      clear hu
      have hfz := hown.frozenAt l
      have hst := Lib.hid (fun (W : World) (h : W.ownsRow w.heap.size 2 1 (.slice (some ⟨w.heap.size, 0, none⟩) n n) n ((kindsL (fs.take k) n).map (Value.int .i64))) => (h.stored l (.int .i64 fs[k].kind)).1)
      have HO := Lib.hid hown
      clear hown hl q3 q4
      go_wp2
      go_region
      all_goals
        go_wp2
        go_roundw
        case rel => exact ⟨k + 1, by omega, by go_num, by rw [← HE.out]; exact hst.out _ HO.out.drew, hbr.drew.setCell (Nat.le_refl _) _⟩
        case measure => simp [intOf]; omega
    · have HK : Hid (k = m) := by simp only [Hid]; omega
      go_wp2
      go_ret
      refine ⟨_, _, rfl, ?_, hbr⟩
      rw [HK.out, List.take_of_length_le (by have := HL.out; omega)] at hown
      unfold OwnI
      simpa [kindsL] using hown
end Go.Proofs.YtafnebpbfmbgiaaDoor

namespace Go.Proofs.YtafnebpbfmbgiaaDoor
open Go.RowKit Go.Sort
def carryAt (base : Int) (A B : List Int) (fs : List Flt) : Nat → Int
  | 0 => 0
  | k + 1 => cstep base (A.getD k 0 + B.getD k 0) (carryAt base A B fs k) (kindAt fs k)
def sumD (base : Int) (A B : List Int) (fs : List Flt) (k : Nat) : Int := (A.getD k 0 + B.getD k 0 + carryAt base A B fs k).tmod base
def sumL (base : Int) (A B : List Int) (fs : List Flt) (n : Nat) : List Int := (List.range n).map (sumD base A B fs)
theorem sumL_succ (base : Int) (A B : List Int) (fs : List Flt) (n : Nat) : sumL base A B fs (n + 1) = sumL base A B fs n ++ [sumD base A B fs n] := by simp [sumL, List.range_succ]
theorem sumL_len (base : Int) (A B : List Int) (fs : List Flt) (n : Nat) : (sumL base A B fs n).length = n := by simp [sumL]
theorem cstep_bd (base t c k : Int) : 0 ≤ cstep base t c k ∧ cstep base t c k ≤ 1 := by unfold cstep; split <;> (try split) <;> (try split) <;> (try split) <;> omega
theorem carryAt_bd (base : Int) (A B : List Int) (fs : List Flt) (k : Nat) : 0 ≤ carryAt base A B fs k ∧ carryAt base A B fs k ≤ 1 := by
  cases k with
  | zero => simp [carryAt]
  | succ k => exact cstep_bd _ _ _ _
set_option maxRecDepth 100000 in
set_option maxHeartbeats 1600000 in
theorem l08Add_any (p q : Addr) (a b : Reg) (A : Option Addr) (m c : Nat) (fs : List Flt) (w : World) (hp : RegM w p a) (hq : RegM w q b) (hpl : p.block < w.heap.size) (hql : q.block < w.heap.size) (hr : RL FltM 2 w A m fs)
    (hab : a.digits.length = b.digits.length) (hn : a.digits.length ≤ 16) (hb1 : 2 ≤ a.base) (hb2 : a.base ≤ 16) (hda : ∀ d ∈ a.digits, 0 ≤ d ∧ d < a.base) (hdb : ∀ d ∈ b.digits, 0 ≤ d ∧ d < a.base)
    (hg : GoodF a.digits.length fs) (hm : m ≤ 9223372036854775807) :
    Calls Tryd.prog 229 #[.pointer (some p), .pointer (some q), .slice A m c] w fun e w' => ∃ A' c', e = .returned (.tuple #[.agg #[.int .i64 a.base, .slice A' a.digits.length c'], .int .i64 (carryAt a.base a.digits b.digits fs a.digits.length)]) ∧
      OwnI w' w.heap.size (.slice A' a.digits.length c') (sumL a.base a.digits b.digits fs a.digits.length) ∧ Below w.heap.size w w' := by
  obtain ⟨A1, c1, ⟨ha0, ha1⟩, hra⟩ := hp
  obtain ⟨A2, c2, ⟨hq0, hq1⟩, hrb⟩ := hq
  obtain ⟨i0, hi, hz0, hz1, hz2⟩ := info_parts info_i64
  have HAB := Lib.hid hab; clear hab
  have hb0 : Below w.heap.size w (w.alloc (.cells #[.int .i64 0, .slice none 0 0] 26)) := (Below.refl _ _).alloc (Nat.le_refl _) _
  have u1 : (w.alloc (.cells #[.int .i64 0, .slice none 0 0] 26)).cell? ⟨p.block, p.off + 1, none⟩ = some (.slice A1 a.digits.length c1) := by rw [hb0.cell (by exact hpl)]; exact ha1
  go_enter Tryd.func229, Tryd.ntmps229
  go_wp2_with fail
  refine (l08Kinds_any a.digits.length A m c fs _ (hr.below steady_FltM hb0) hg hn hm).mono ?_; rintro e w1 ⟨X, x, rfl, ox, hw1⟩
  have hbA : Below w.heap.size w w1 := hb0.trans (hw1.mono (by simp))
  obtain ⟨hc, hf⟩ := bcellB (B := w.heap.size + 1) (hw1.mono (by simp))
  have q0 : w1.cell? ⟨w.heap.size, 0, none⟩ = some (.int .i64 0) := by go_simp
  have q1 : w1.cell? ⟨w.heap.size, 1, none⟩ = some (.slice none 0 0) := by go_simp
  have q2 : w1.frozen? ⟨w.heap.size, 0, none⟩ = false := by go_simp
  have q3 : w1.frozen? ⟨w.heap.size, 1, none⟩ = false := by go_simp
  have z1 : w.heap.size + 1 ≤ w1.heap.size := by have := hw1.size; simpa using this
  have y0 : w1.cell? p = some (.int .i64 a.base) := by rw [hbA.cell hpl]; exact ha0
  have y1 : w1.cell? ⟨p.block, p.off + 1, none⟩ = some (.slice A1 a.digits.length c1) := by rw [hbA.cell (by exact hpl)]; exact ha1
  have y2 : w1.cell? ⟨q.block, q.off + 1, none⟩ = some (.slice A2 b.digits.length c2) := by rw [hbA.cell (by exact hql)]; exact hq1
  have rX : RI w1 X a.digits.length (kindsL fs a.digits.length) := ox.ri
  have rA := hra.below hbA
  have rB := hrb.below hbA
  have pl1 : p.block < w1.heap.size := by omega
  have ql1 : q.block < w1.heap.size := by omega
  clear ha0 ha1 hq0 hq1 hra hrb hr ox u1
  go_wp2_with fail
  go_loopw [11, 10] (fun i cy wr => ∃ (k : Nat) (v : Value), k ≤ a.digits.length ∧ i = .int .i64 k ∧ cy = .int .i64 (carryAt a.base a.digits b.digits fs k) ∧ SumAt wr w1.heap.size a.base v (sumL a.base a.digits b.digits fs k) ∧ Below w1.heap.size w1 wr) (fun i _ _ => a.digits.length - (intOf i).toNat)
  case atStart => exact ⟨0, _, Nat.zero_le _, rfl, rfl, ⟨heap_alloc_new _ _, OwnI.nil _ _⟩, (Below.refl _ _).alloc (Nat.le_refl _) _⟩
  case round =>
    obtain ⟨k, v, hk, rfl, rfl, hS, hbr⟩ := hrel
    have HX := Lib.hid (carryAt_bd a.base a.digits b.digits fs k)
    by_cases hkn : k < a.digits.length
    · obtain ⟨ad1, hA1, hlt1, hk1, hd1⟩ := rA.at_ hkn
      rw [← hbr.cell (by rw [block_of_add]; exact hlt1)] at hd1
      obtain ⟨ad2, hA2, hlt2, hk2, hd2⟩ := rB.at_ (show k < b.digits.length from HAB.out ▸ hkn)
      rw [← hbr.cell (by rw [block_of_add]; exact hlt2)] at hd2
      obtain ⟨ad3, hA3, hlt3, hk3, hd3⟩ := rX.at_ hkn
      rw [← hbr.cell (by rw [block_of_add]; exact hlt3)] at hd3
      have e3 : (kindsL fs a.digits.length)[k] = kindAt fs (k : Int) := by simp [kindsL]
      rw [e3] at hd3
      have b1 := hda _ (List.getElem_mem hk1)
      have b2 := hdb _ (List.getElem_mem hk2)
      have v0 : wr.cell? p = some (.int .i64 a.base) := by rw [hbr.cell pl1]; exact y0
      have v1 : wr.cell? ⟨p.block, p.off + 1, none⟩ = some (.slice A1 a.digits.length c1) := by rw [hbr.cell (by exact pl1)]; exact y1
      have v2 : wr.cell? ⟨q.block, q.off + 1, none⟩ = some (.slice A2 b.digits.length c2) := by rw [hbr.cell (by exact ql1)]; exact y2
      obtain ⟨s1, s2, s3⟩ := hS.cells
      have HC := Lib.hid (show carryAt a.base a.digits b.digits fs (k + 1) = cstep a.base (a.digits[k] + b.digits[k]) (carryAt a.base a.digits b.digits fs k) (kindAt fs k) by rw [← getD_of hk1, ← getD_of hk2]; rfl)
      have HD := Lib.hid (show sumD a.base a.digits b.digits fs k = (a.digits[k] + b.digits[k] + carryAt a.base a.digits b.digits fs k).tmod a.base by rw [← getD_of hk1, ← getD_of hk2]; rfl)
      have hkb : (k : Int) < (b.digits.length : Int) := by have := HAB.out; omega
      have hka : (k : Int) < (a.digits.length : Int) := by omega
      have hk0 : (0 : Int) ≤ (k : Int) := by omega
      obtain ⟨cy, hcy⟩ : ∃ cy, cy = carryAt a.base a.digits b.digits fs k := ⟨_, rfl⟩
      obtain ⟨h0, h1⟩ := HX.out
      obtain ⟨kd, hkd⟩ : ∃ kd, kd = kindAt fs (k : Int) := ⟨_, rfl⟩
      obtain ⟨ak, hak⟩ : ∃ ak, ak = a.digits[k] := ⟨_, rfl⟩
      obtain ⟨bk, hbk⟩ : ∃ bk, bk = b.digits[k] := ⟨_, rfl⟩
      rw [← hcy] at h0 h1
      rw [← hcy, ← hkd, ← hak, ← hbk] at HC
      rw [← hcy, ← hak, ← hbk] at HD
      rw [← hak] at hd1 b1
      rw [← hbk] at hd2 b2
      rw [← hkd] at hd3
      rw [← hcy]
      clear hcy hkd hak hbk e3
      subst hA1; subst hA2; subst hA3
      have hS' := Lib.hid hS
      have HO := Lib.hid (fun (n : Nat) (o : Obj) => World.ownsRow.alloc (w := (wr.drewN n).drew) hS.2 o)
      have hbr' := Lib.hid hbr
      have hGl := hS.lt
      clear hS hbr
      have hB1 := Lib.hid hlt3
      go_wp2
      go_quiet (fail)
      go_wp2
      have nz1 : a.base ≠ 0 := by omega
      have nz2 : (a.base == 0) = false := by simp; omega
      have nz3 : ¬ a.base = 0 := by omega
      have wr2 : IntKind.i64.wrap (ak + bk + cy) = ak + bk + cy := wrapI64 (by omega)
      have sA : ((wr.drewN (nq + 1)).alloc (.cells #[.int .i64 ((ak + bk + cy).tmod a.base)] 2)).cell? ⟨w1.heap.size, 1, none⟩ = some v := by rw [World.cell?_alloc_lt _ _ _ (by exact hGl)]; exact s2
      go_region_law (refine step_append_lies _ rfl (.tmp 50) (.tmp 59) 24 rfl (w1.heap.size + 1) 2 i0 _ 1 8 Tryd.underlying24 hi hz0 hz1 hz2 rfl (by decide) v _ _ (by simp [Act.eval]) (HO.out _ _) ⟨wr.heap.size, 0, none⟩ 1 1 [.int .i64 ((ak + bk + cy).tmod a.base)] (by simp [Act.eval, Act.put]) rfl (World.news_of_block (heap_alloc_new _ _)) (by simp [Value.oneCell']) (by decide) (by rw [sumL_len]; unfold maxLen; omega) (by rw [sumL_len]; omega) (by simp; omega) _ rfl ?_; intro gg cap w2 hown2 hgrow2 hat2 hlt2; obtain ⟨t1, t2, t3, t4⟩ := SumAt.far (w := (wr.drewN nq).drew) hS'.out hgrow2)
      all_goals
        obtain ⟨hS3, hB3⟩ := SumAt.step (w := (wr.drewN nq).drew) hS'.out hgrow2 hown2
        obtain ⟨w3, hw3⟩ : ∃ w3, w3 = w2.setCell ⟨w1.heap.size, 1, none⟩ (.slice (some ⟨gg, 0, none⟩) ((sumL a.base a.digits b.digits fs k).length + 1) cap) := ⟨_, rfl⟩
        rw [← hw3] at hS3 hB3
        have hb3 : Below w1.heap.size wr w3 := (below_drewN (Below.refl w1.heap.size wr) (nq + 1)).trans (hB3 _ (Nat.le_refl _))
        have x0 : w3.cell? p = some (.int .i64 a.base) := by rw [hb3.cell pl1]; exact v0
        have x3 : w3.cell? (ad3.add k) = some (.int .i64 kd) := by rw [hb3.cell (by rw [block_of_add]; exact hB1.out)]; exact hd3
        clear hgrow2 hown2 t1 t2 t3 t4 sA hat2
        rw [← hw3]
        clear hw3
        go_wp2
        go_quiet ((go_at_call 245; exact quiet_left (l08Carry_any _ _ _ _ _ (by omega) (by omega) h0 h1)))
        go_wp2
        go_roundw
        case rel => exact ⟨k + 1, _, by omega, by go_num, by rw [HC.out], by rw [sumL_succ, HD.out]; exact hS3, hbr'.out.trans (below_drewN hb3 _)⟩
        case measure => simp [intOf]; omega
    · have HK : Hid (k = a.digits.length) := by simp only [Hid]; omega
      have v1 : wr.cell? ⟨p.block, p.off + 1, none⟩ = some (.slice A1 a.digits.length c1) := by rw [hbr.cell (by exact pl1)]; exact y1
      obtain ⟨s1, s2, s3⟩ := hS.cells
      have m0 : wr.cell? ⟨w.heap.size, 0, none⟩ = some (.int .i64 0) := by rw [hbr.cell (by exact z1)]; exact q0
      have m1 : wr.cell? ⟨w.heap.size, 1, none⟩ = some (.slice none 0 0) := by rw [hbr.cell (by exact z1)]; exact q1
      have m2 : wr.frozen? ⟨w.heap.size, 0, none⟩ = false := by rw [hbr.frozen (by exact z1)]; exact q2
      have m3 : wr.frozen? ⟨w.heap.size, 1, none⟩ = false := by rw [hbr.frozen (by exact z1)]; exact q3
      obtain ⟨A', c', rfl, hri, hge⟩ := hS.2.reads
      have hO := Lib.hid hS.2
      have hbr' := Lib.hid hbr
      clear hS hbr
      go_wp2_with fail
      refine bodyPost_ret (v := .tuple #[.agg #[.int .i64 a.base, .slice A' (sumL a.base a.digits b.digits fs k).length c'], .int .i64 (carryAt a.base a.digits b.digits fs k)]) (by simp [results, Tryd.results229, go_sem, m0, m1, m2, m3]) rfl ⟨A', c', ?_, ?_, ?_⟩
      · rw [HK.out, sumL_len]
      · have h1 := hO.out
        rw [HK.out] at h1
        rw [sumL_len] at h1
        exact (((h1.setBelow (by simp <;> omega) _).setBelow (by simp <;> omega) _)).mono (by omega)
      · exact ((hbA.trans (hbr'.out.mono (by omega))).setCell (by simp) _).setCell (by simp) _
end Go.Proofs.YtafnebpbfmbgiaaDoor

namespace Go.Proofs.YtafnebpbfmbgiaaDoor
open Go.RowKit Go.Sort Go.Maps
theorem law_i64 : Keyed Tryd.prog 2 := int_keyed Tryd.underlying2
theorem zero_i64 (w : World) : (zeroValue 2).run Tryd.prog w = .ok (.int .i64 0) w := by kernel_rfl
def MapIs (D : DataW Unit) (fs : List Flt) : Prop := IsMap D ∧ ∀ j : Int, D.atKey (.int .i64 j) (.lit (.int .i64 0)) = .lit (.int .i64 (kindAt fs j))
theorem MapIs.nil : MapIs (.map []) [] := ⟨⟨_, rfl⟩, fun _ => rfl⟩
theorem MapIs.put {D : DataW Unit} {fs : List Flt} {k : Nat} (h : MapIs D (fs.take k)) (hk : k < fs.length) : MapIs (D.put (.int .i64 fs[k].lever) (.lit (.int .i64 fs[k].kind))) (fs.take (k + 1)) := by
  obtain ⟨h1, h2⟩ := h
  refine ⟨?_, fun j => ?_⟩
  · obtain ⟨es, rfl⟩ := h1
    exact ⟨_, rfl⟩
  · rw [kindAt_succ hk]
    by_cases g : fs[k].lever = j
    · rw [if_pos g, g, atKey_put_same h1 (by trivial)]
    · rw [if_neg g, atKey_put_other (by intro e; injection e with _ e; exact g e.symm), h2]
theorem qstep (base t c : Int) (h0 : 0 ≤ t + c) (h1 : t + c < 2 * base) : (t + c) / base = if t + c < base then 0 else 1 := by
  split
  · rename_i h; exact Int.ediv_eq_zero_of_lt h0 h
  · rename_i h
    have hb : 0 < base := by omega
    rw [show t + c = (t + c - base) + 1 * base by omega, Int.add_mul_ediv_right _ _ (by omega), Int.ediv_eq_zero_of_lt (by omega) (by omega)]; rfl
theorem carry_1 {base t c cc : Int} (h : (cc == 1) = true) : cstep base t c cc = 0 := by unfold cstep; rw [if_pos (by simpa using h)]
theorem carry_2 {base t c cc : Int} (h1 : (cc == 1) = false) (h : (cc == 2) = true) : cstep base t c cc = 1 := by unfold cstep; rw [if_neg (by simpa using h1), if_pos (by simpa using h)]
theorem carry_3 {base t c cc : Int} (h1 : (cc == 1) = false) (h2 : (cc == 2) = false) (h : (cc == 3) = true) (hq : t / base = if t < base then 0 else 1) : cstep base t c cc = t / base := by
  unfold cstep; rw [if_neg (by simpa using h1), if_neg (by simpa using h2), if_pos (by simpa using h), hq]
theorem carry_4 {base t c cc : Int} (h1 : (cc == 1) = false) (h2 : (cc == 2) = false) (h : (cc == 3) = false) (hq : (t + c) / base = if t + c < base then 0 else 1) : cstep base t c cc = (t + c) / base := by
  unfold cstep; rw [if_neg (by simpa using h1), if_neg (by simpa using h2), if_neg (by simpa using h), hq]
theorem ownsMap_below {w w' : World} {k e : TypeId} {b n : Nat} {D : DataW Unit} (h : w.ownsMap Tryd.prog k (plainElem Tryd.prog e) b n D) (hb : Below w.heap.size w w') : w'.ownsMap Tryd.prog k (plainElem Tryd.prog e) b n D := by
  have hlt := h.lt
  obtain ⟨es, clock, h1, F, hs, hD⟩ := h
  exact ⟨es, clock, (hb.block b hlt).trans h1, F, hs, hD⟩
set_option maxRecDepth 100000 in
set_option maxHeartbeats 3200000 in
theorem addedWith_any (a b : Reg) (A1 A2 : Option Addr) (c1 c2 : Nat) (A : Option Addr) (m c : Nat) (fs : List Flt) (w : World) (hra : RI w A1 a.digits.length a.digits) (hrb : RI w A2 b.digits.length b.digits) (hr : RL FltM 2 w A m fs)
    (hab : a.digits.length = b.digits.length) (hn : a.digits.length ≤ 16) (hb1 : 2 ≤ a.base) (hb2 : a.base ≤ 16) (hda : ∀ d ∈ a.digits, 0 ≤ d ∧ d < a.base) (hdb : ∀ d ∈ b.digits, 0 ≤ d ∧ d < a.base)
    (hg : GoodF a.digits.length fs) (hm : m ≤ 1000000) :
    Calls Tryd.prog 127 #[.agg #[.int .i64 a.base, .slice A1 a.digits.length c1], .agg #[.int .i64 b.base, .slice A2 b.digits.length c2], .slice A m c] w fun e w' => ∃ A' c', e = .returned (.tuple #[.agg #[.int .i64 a.base, .slice A' a.digits.length c'], .int .i64 (carryAt a.base a.digits b.digits fs a.digits.length)]) ∧
      OwnI w' w.heap.size (.slice A' a.digits.length c') (sumL a.base a.digits b.digits fs a.digits.length) ∧ Below w.heap.size w w' := by
  have hmm := @run_makeMap Tryd.prog
  have HL := Lib.hid hr.1
  obtain ⟨i0, hi, hz0, hz1, hz2⟩ := info_parts info_i64
  have HAB := Lib.hid hab; clear hab
  have hb0 : Below w.heap.size w (((w.alloc (.cells #[.int .i64 a.base, .slice A1 a.digits.length c1] 26)).alloc (.cells #[.int .i64 b.base, .slice A2 b.digits.length c2] 26)).alloc (.cells #[.int .i64 0, .slice none 0 0] 26)) := (((Below.refl _ _).alloc (Nat.le_refl _) _).alloc (by simp) _).alloc (by simp <;> omega) _
  go_enter Tryd.func127, Tryd.ntmps127
  go_wp2_with fail
  go_loopw [20] (fun i wr => ∃ (k : Nat) (D : DataW Unit), k ≤ m ∧ i = .int .i64 k ∧ wr.ownsMap Tryd.prog 2 (plainElem Tryd.prog 2) (w.heap.size + 3) k D ∧ MapIs D (fs.take k) ∧ Below (w.heap.size + 3) (((w.alloc (.cells #[.int .i64 a.base, .slice A1 a.digits.length c1] 26)).alloc (.cells #[.int .i64 b.base, .slice A2 b.digits.length c2] 26)).alloc (.cells #[.int .i64 0, .slice none 0 0] 26)) wr) (fun i _ => m - (intOf i).toNat)
  case atStart => exact ⟨0, .map [], Nat.zero_le _, rfl, by have h := World.ownsMap_made (((w.alloc (.cells #[.int .i64 a.base, .slice A1 a.digits.length c1] 26)).alloc (.cells #[.int .i64 b.base, .slice A2 b.digits.length c2] 26)).alloc (.cells #[.int .i64 0, .slice none 0 0] 26)) Tryd.prog 2 (plainElem (H := Unit) Tryd.prog 2); rw [show ((((w.alloc (.cells #[.int .i64 a.base, .slice A1 a.digits.length c1] 26)).alloc (.cells #[.int .i64 b.base, .slice A2 b.digits.length c2] 26)).alloc (.cells #[.int .i64 0, .slice none 0 0] 26))).heap.size = w.heap.size + 3 by simp] at h; exact h, by rw [List.take_zero]; exact MapIs.nil, (Below.refl _ _).alloc (by simp) _⟩
  case round =>
    obtain ⟨k, D, hk, rfl, hown, hMI, hbr⟩ := hrel
    have hbw : Below w.heap.size w wr := hb0.trans (hbr.mono (by omega))
    by_cases hkn : k < m
    · obtain ⟨ad, hA, hlt, hkl, f1, f2⟩ := (hr.below steady_FltM hbw).at_ hkn
      obtain ⟨q1, q2, q3, q4⟩ := hg fs[k] (List.getElem_mem _)
      have hi0 : (0 : Int) ≤ (k : Int) := by omega
      have hi1 : (k : Int) < (m : Int) := by omega
      subst hA
      have hz : w.heap.size + 3 ≤ wr.heap.size := by have := hbr.size; simpa using this
      go_wp2_with (at_mapUpdate; refine wpList_mapUpdate_own _ rfl _ _ _ 167 rfl 2 2 law_i64 Tryd.underlying167 _ (w.heap.size + 3) k _ rfl (hown.alloc _) (by unfold maxLen; omega) _ _ _ rfl rfl (keyOf_int_mk Tryd.underlying2 (WalkArith.wf_i64 (by omega))) _ [] (plainElem_int Tryd.underlying2 (WalkArith.wf_i64 (by omega))) ?_; intro w1 hown1 hgrow1)
      go_roundw
      case rel => exact ⟨k + 1, _, by omega, by go_num, hown1, hMI.put hkl, (hbr.alloc (by omega) _).grown hgrow1 (by simp; omega) (fun j hj => by cases hj; omega)⟩
      case measure => simp [intOf]; omega
    · have HK : Hid (k = m) := by simp only [Hid]; omega
      have hMI' : MapIs D fs := by have := hMI; rwa [HK.out, List.take_of_length_le (by have := HL.out; omega)] at this
      clear hMI
      have hz : w.heap.size + 3 ≤ wr.heap.size := by have := hbr.size; simpa using this
      obtain ⟨hc, hf⟩ := bcellB hbr
      have y0 : wr.cell? ⟨w.heap.size, 0, none⟩ = some (.int .i64 a.base) := by go_simp
      have y1 : wr.cell? ⟨w.heap.size, 1, none⟩ = some (.slice A1 a.digits.length c1) := by go_simp
      have y2 : wr.cell? ⟨w.heap.size + 1, 1, none⟩ = some (.slice A2 b.digits.length c2) := by go_simp
      have q0 : wr.cell? ⟨w.heap.size + 2, 0, none⟩ = some (.int .i64 0) := by go_simp
      have q1 : wr.cell? ⟨w.heap.size + 2, 1, none⟩ = some (.slice none 0 0) := by go_simp
      have q2 : wr.frozen? ⟨w.heap.size + 2, 0, none⟩ = false := by go_simp
      have q3 : wr.frozen? ⟨w.heap.size + 2, 1, none⟩ = false := by go_simp
      have rA := hra.below hbw
      have rB := hrb.below hbw
      clear hc hf hra hrb hr hbr hmm hg
      obtain ⟨w1, rfl⟩ : ∃ w1 : World, w1 = wr := ⟨_, rfl⟩
      have yA : (w1.alloc (.cells #[.int .i64 a.base, .slice none 0 0] 26)).cell? ⟨w.heap.size, 1, none⟩ = some (.slice A1 a.digits.length c1) := by rw [World.cell?_alloc_lt _ _ _ (by exact (by omega : w.heap.size < w1.heap.size))]; exact y1
      go_wp2_with fail
      clear yA
      go_loopw [36, 12] (fun i cy wr => ∃ (k : Nat) (v : Value), k ≤ a.digits.length ∧ i = .int .i64 k ∧ cy = .int .i64 (carryAt a.base a.digits b.digits fs k) ∧ SumAt wr w1.heap.size a.base v (sumL a.base a.digits b.digits fs k) ∧ Below w1.heap.size w1 wr) (fun i _ _ => a.digits.length - (intOf i).toNat)
      case atStart => exact ⟨0, _, Nat.zero_le _, rfl, rfl, ⟨heap_alloc_new _ _, OwnI.nil _ _⟩, (Below.refl _ _).alloc (Nat.le_refl _) _⟩
      case round =>
        obtain ⟨k, v, hk, rfl, rfl, hS, hbr⟩ := hrel
        have HX := Lib.hid (carryAt_bd a.base a.digits b.digits fs k)
        by_cases hkn : k < a.digits.length
        · obtain ⟨ad1, hA1, hlt1, hk1, hd1⟩ := rA.at_ hkn
          rw [← hbr.cell (by rw [block_of_add]; exact hlt1)] at hd1
          obtain ⟨ad2, hA2, hlt2, hk2, hd2⟩ := rB.at_ (show k < b.digits.length from HAB.out ▸ hkn)
          rw [← hbr.cell (by rw [block_of_add]; exact hlt2)] at hd2
          have b1 := hda _ (List.getElem_mem hk1)
          have b2 := hdb _ (List.getElem_mem hk2)
          have v0 : wr.cell? ⟨w.heap.size, 0, none⟩ = some (.int .i64 a.base) := by rw [hbr.cell (by exact (by omega : w.heap.size < w1.heap.size))]; exact y0
          have v2 : wr.cell? ⟨w.heap.size + 1, 1, none⟩ = some (.slice A2 b.digits.length c2) := by rw [hbr.cell (by exact (by omega : w.heap.size + 1 < w1.heap.size))]; exact y2
          obtain ⟨s1, s2, s3⟩ := hS.cells
          have HC := Lib.hid (show carryAt a.base a.digits b.digits fs (k + 1) = cstep a.base (a.digits[k] + b.digits[k]) (carryAt a.base a.digits b.digits fs k) (kindAt fs k) by rw [← getD_of hk1, ← getD_of hk2]; rfl)
          have HD := Lib.hid (show sumD a.base a.digits b.digits fs k = (a.digits[k] + b.digits[k] + carryAt a.base a.digits b.digits fs k).tmod a.base by rw [← getD_of hk1, ← getD_of hk2]; rfl)
          have hkb : (k : Int) < (b.digits.length : Int) := by have := HAB.out; omega
          have hka : (k : Int) < (a.digits.length : Int) := by omega
          have hk0 : (0 : Int) ≤ (k : Int) := by omega
          obtain ⟨cy, hcy⟩ : ∃ cy, cy = carryAt a.base a.digits b.digits fs k := ⟨_, rfl⟩
          obtain ⟨h0, h1⟩ := HX.out
          obtain ⟨ak, hak⟩ : ∃ ak, ak = a.digits[k] := ⟨_, rfl⟩
          obtain ⟨bk, hbk⟩ : ∃ bk, bk = b.digits[k] := ⟨_, rfl⟩
          rw [← hcy] at h0 h1
          rw [← hcy, ← hak, ← hbk] at HC
          rw [← hcy, ← hak, ← hbk] at HD
          rw [← hak] at hd1 b1
          rw [← hbk] at hd2 b2
          rw [← hcy]
          clear hcy hak hbk
          subst hA1; subst hA2
          have hS' := Lib.hid hS
          have HO := Lib.hid (fun (o : Obj) => World.ownsRow.alloc (w := wr.drew) hS.2 o)
          have hbr' := Lib.hid hbr
          have hGl := hS.lt
          clear hS hbr
          go_wp2
          have nz1 : a.base ≠ 0 := by omega
          have wr2 : IntKind.i64.wrap (ak + bk + cy) = ak + bk + cy := wrapI64 (by omega)
          have sA : (wr.drew.alloc (.cells #[.int .i64 ((ak + bk + cy).tmod a.base)] 2)).cell? ⟨w1.heap.size, 1, none⟩ = some v := by rw [World.cell?_alloc_lt _ _ _ (by exact hGl)]; exact s2
          have sB : (wr.drew.alloc (.cells #[.int .i64 ((ak + bk + cy).tmod a.base)] 2)).cell? ⟨w.heap.size, 0, none⟩ = some (.int .i64 a.base) := by rw [World.cell?_alloc_lt _ _ _ (by exact (by omega : w.heap.size < wr.heap.size))]; exact v0
          go_region_law (refine step_append_lies _ rfl (.tmp 49) (.tmp 56) 24 rfl (w1.heap.size + 1) 2 i0 _ 1 8 Tryd.underlying24 hi hz0 hz1 hz2 rfl (by decide) v _ _ (by simp [Act.eval]) (HO.out _) ⟨wr.heap.size, 0, none⟩ 1 1 [.int .i64 ((ak + bk + cy).tmod a.base)] (by simp [Act.eval]) rfl (World.news_of_block (heap_alloc_new _ _)) (by simp [Value.oneCell']) (by decide) (by rw [sumL_len]; unfold maxLen; omega) (by rw [sumL_len]; omega) (by simp; omega) _ rfl ?_; intro gg cap w2 hown2 hgrow2 hat2 hlt2; obtain ⟨t1, t2, t3, t4⟩ := SumAt.far (w := wr.drew) hS'.out hgrow2)
          all_goals
            obtain ⟨hS3, hB3⟩ := SumAt.step (w := wr.drew) hS'.out hgrow2 hown2
            obtain ⟨w3, hw3⟩ : ∃ w3, w3 = w2.setCell ⟨w1.heap.size, 1, none⟩ (.slice (some ⟨gg, 0, none⟩) ((sumL a.base a.digits b.digits fs k).length + 1) cap) := ⟨_, rfl⟩
            rw [← hw3] at hS3 hB3
            have hb3 : Below w1.heap.size wr w3 := (below_drewN (Below.refl w1.heap.size wr) 1).trans (hB3 _ (Nat.le_refl _))
            have x0 : w3.cell? ⟨w.heap.size, 0, none⟩ = some (.int .i64 a.base) := by rw [hb3.cell (by exact (by omega : w.heap.size < w1.heap.size))]; exact v0
            have hM3 := ownsMap_below hown (hbr'.out.trans hb3)
            clear hgrow2 hown2 t1 t2 t3 t4 sA sB hat2
            rw [← hw3]
            clear hw3
            go_wp2_with (at_lookup; refine wpList_lookup_own_int _ rfl _ _ 167 rfl 2 2 .i64 law_i64 Tryd.underlying167 Tryd.underlying2 (zero_i64 _) (w.heap.size + 3) _ _ rfl hM3 _ _ rfl (keyOf_int_mk Tryd.underlying2 (WalkArith.wf_i64 (by omega))) ?_; intro cc hat hwc)
            all_goals
              have hcc : kindAt fs (k : Int) = cc := by
                have h := hMI'.2 (k : Int)
                rw [hat] at h
                injection h with h; injection h with _ h; exact h.symm
              rw [hcc] at HC
              have g1 := qstep a.base (ak + bk) cy (by omega) (by omega)
              have g2 := qstep a.base (ak + bk) 0 (by omega) (by omega)
              rw [Int.add_zero] at g2
              have HQ := Lib.hid g1
              have HQ2 := Lib.hid g2
              clear g1 g2
              go_roundw
              case rel =>
                refine ⟨k + 1, _, by omega, by go_num, ?_, by rw [sumL_succ, HD.out]; exact hS3, hbr'.out.trans hb3⟩
                rw [HC.out]
                first
                  | exact congrArg (Value.int .i64) (carry_1 (by assumption)).symm
                  | exact congrArg (Value.int .i64) (carry_2 (by assumption) (by assumption)).symm
                  | exact congrArg (Value.int .i64) (carry_3 (by assumption) (by assumption) (by assumption) HQ2.out).symm
                  | exact congrArg (Value.int .i64) (carry_4 (by assumption) (by assumption) (by assumption) HQ.out).symm
              case measure => simp [intOf]; omega
        · have HK : Hid (k = a.digits.length) := by simp only [Hid]; omega
          have m0 : wr.cell? ⟨w.heap.size + 2, 0, none⟩ = some (.int .i64 0) := by rw [hbr.cell (by exact (by omega : w.heap.size + 2 < w1.heap.size))]; exact q0
          have m1 : wr.cell? ⟨w.heap.size + 2, 1, none⟩ = some (.slice none 0 0) := by rw [hbr.cell (by exact (by omega : w.heap.size + 2 < w1.heap.size))]; exact q1
          have m2 : wr.frozen? ⟨w.heap.size + 2, 0, none⟩ = false := by rw [hbr.frozen (by exact (by omega : w.heap.size + 2 < w1.heap.size))]; exact q2
          have m3 : wr.frozen? ⟨w.heap.size + 2, 1, none⟩ = false := by rw [hbr.frozen (by exact (by omega : w.heap.size + 2 < w1.heap.size))]; exact q3
          obtain ⟨s1, s2, s3⟩ := hS.cells
          obtain ⟨A', c', rfl, hri, hge⟩ := hS.2.reads
          have hO := Lib.hid hS.2
          have hbr' := Lib.hid hbr
          clear hS hbr
          go_wp2_with fail
          refine bodyPost_ret (v := .tuple #[.agg #[.int .i64 a.base, .slice A' (sumL a.base a.digits b.digits fs k).length c'], .int .i64 (carryAt a.base a.digits b.digits fs k)]) (by simp [results, Tryd.results127, go_sem, m0, m1, m2, m3]) rfl ⟨A', c', ?_, ?_, ?_⟩
          · rw [HK.out, sumL_len]
          · have h1 := hO.out
            rw [HK.out] at h1
            rw [sumL_len] at h1
            exact (((h1.setBelow (by simp <;> omega) _).setBelow (by simp <;> omega) _)).mono (by omega)
          · exact ((hbw.trans (hbr'.out.mono (by omega))).setCell (by simp <;> omega) _).setCell (by simp <;> omega) _
end Go.Proofs.YtafnebpbfmbgiaaDoor

namespace Go.Proofs.YtafnebpbfmbgiaaDoor
open Go.RowKit Go.Sort
def TOK (t : Tri) : Prop := t.a.digits.length = t.b.digits.length ∧ t.a.digits.length ≤ 16 ∧ 2 ≤ t.a.base ∧ t.a.base ≤ 16 ∧ (∀ d ∈ t.a.digits, 0 ≤ d ∧ d < t.a.base) ∧ (∀ d ∈ t.b.digits, 0 ≤ d ∧ d < t.a.base) ∧ SmallTri t
theorem tok_of {r0 : Reg} {t : Tri} (h : triGood r0 t = true) (hs : SmallTri t) : TOK t := by
  simp only [triGood, vlike, Bool.and_eq_true, decide_eq_true_eq, beq_iff_eq] at h
  obtain ⟨⟨⟨⟨⟨h1, h2⟩, h3⟩, ⟨h4, h5⟩, h6⟩, -⟩, -⟩ := h
  obtain ⟨⟨p1, p2⟩, ⟨-, p4⟩, p5, -⟩ := vreg_iff.1 h1
  obtain ⟨-, -, q5, -⟩ := vreg_iff.1 h4
  refine ⟨by omega, by omega, p1, p2, p5, ?_, hs⟩
  rw [h2, ← h5]; exact q5
def sumReg (t : Tri) (fs : List Flt) : Reg := ⟨t.a.base, sumL t.a.base t.a.digits t.b.digits fs t.a.digits.length⟩
def expl (t : Tri) (fs : List Flt) : Bool := sameR (sumReg t fs) t.s && (carryAt t.a.base t.a.digits t.b.digits fs t.a.digits.length == t.carry)
set_option maxHeartbeats 1600000 in
theorem explained_any (t : Tri) (A1 A2 A3 : Option Addr) (c1 c2 c3 : Nat) (A : Option Addr) (m c : Nat) (fs : List Flt) (w : World) (r1 : RI w A1 t.a.digits.length t.a.digits) (r2 : RI w A2 t.b.digits.length t.b.digits) (r3 : RI w A3 t.s.digits.length t.s.digits)
    (hr : RL FltM 2 w A m fs) (ht : TOK t) (hg : GoodF t.a.digits.length fs) (hm : m ≤ 1000000) :
    Calls Tryd.prog 133 #[.agg #[.int .i64 t.a.base, .slice A1 t.a.digits.length c1, .int .i64 t.b.base, .slice A2 t.b.digits.length c2, .int .i64 t.s.base, .slice A3 t.s.digits.length c3, .int .i64 t.carry], .slice A m c] w fun e w' => e = .returned (.bool (expl t fs)) ∧ Below w.heap.size w w' := by
  obtain ⟨t1, t2, t3, t4, t5, t6, -, -, s3⟩ := ht
  unfold SmallReg at s3
  have hb0 : Below w.heap.size w (w.alloc (.cells #[.int .i64 t.a.base, .slice A1 t.a.digits.length c1, .int .i64 t.b.base, .slice A2 t.b.digits.length c2, .int .i64 t.s.base, .slice A3 t.s.digits.length c3, .int .i64 t.carry] 74)) := (Below.refl _ _).alloc (Nat.le_refl _) _
  have T1 := Lib.hid t1; clear t1
  go_enter Tryd.func133, Tryd.ntmps133
  go_wp2_with fail
  refine (addedWith_any t.a t.b A1 A2 c1 c2 A m c fs _ (r1.below hb0) (r2.below hb0) (hr.below steady_FltM hb0) T1.out t2 t3 t4 t5 t6 hg hm).mono ?_; rintro e w1 ⟨X, x, rfl, ox, hw1⟩
  have hb1 : Below w.heap.size w w1 := hb0.trans (hw1.mono (by simp))
  obtain ⟨hc, hf⟩ := bcellB (B := w.heap.size + 1) (hw1.mono (by simp))
  have z1 : w.heap.size + 1 ≤ w1.heap.size := by have := hw1.size; simpa using this
  have rX := ox.ri
  have hl := sumL_len t.a.base t.a.digits t.b.digits fs t.a.digits.length
  have x0 : w1.cell? ⟨w.heap.size, 4, none⟩ = some (.int .i64 t.s.base) := by go_simp
  have x1 : w1.cell? ⟨w.heap.size, 5, none⟩ = some (.slice A3 t.s.digits.length c3) := by go_simp
  have x2 : w1.cell? ⟨w.heap.size, 6, none⟩ = some (.int .i64 t.carry) := by go_simp
  have hbA : Below w1.heap.size w1 (w1.alloc (.cells #[.int .i64 t.a.base, .slice X t.a.digits.length x] 26)) := (Below.refl _ _).alloc (Nat.le_refl _) _
  have y0 : (w1.alloc (.cells #[.int .i64 t.a.base, .slice X t.a.digits.length x] 26)).cell? ⟨w.heap.size, 4, none⟩ = some (.int .i64 t.s.base) := by rw [hbA.cell (by exact z1)]; exact x0
  have y1 : (w1.alloc (.cells #[.int .i64 t.a.base, .slice X t.a.digits.length x] 26)).cell? ⟨w.heap.size, 5, none⟩ = some (.slice A3 t.s.digits.length c3) := by rw [hbA.cell (by exact z1)]; exact x1
  have y2 : (w1.alloc (.cells #[.int .i64 t.a.base, .slice X t.a.digits.length x] 26)).cell? ⟨w.heap.size, 6, none⟩ = some (.int .i64 t.carry) := by rw [hbA.cell (by exact z1)]; exact x2
  have K := SameRegister_any (sumReg t fs) t.s X A3 x c3 (w1.alloc (.cells #[.int .i64 t.a.base, .slice X t.a.digits.length x] 26)) (by show RI _ X (sumL t.a.base t.a.digits t.b.digits fs t.a.digits.length).length _; rw [hl]; exact rX.below hbA) ((r3.below hb1).below hbA) (by unfold SmallReg sumReg; simp only; omega) s3
  rw [show (sumReg t fs).digits.length = t.a.digits.length from hl] at K
  have KK := Lib.hid K
  clear K hc hf ox hl
  rcases k : sameR (sumReg t fs) t.s with _ | _
  all_goals
    have HF := Lib.hid (show expl t fs = (sameR (sumReg t fs) t.s && (carryAt t.a.base t.a.digits t.b.digits fs t.a.digits.length == t.carry)) from rfl)
    have K1 := Lib.hid k; clear k
    obtain ⟨cy, hcy⟩ : ∃ cy, cy = carryAt t.a.base t.a.digits t.b.digits fs t.a.digits.length := ⟨_, rfl⟩
    rw [← hcy] at HF
    rw [← hcy]
    clear hcy
    go_wp2_with fail
    refine (calls_val KK.out (congrArg Value.bool K1.out)).mono ?_; rintro e w2 ⟨rfl, hw2⟩
    have hb2 := hb1.trans ((hbA.mono (by omega)).trans (hw2.mono (by simp; omega)))
    have u2 : w2.cell? ⟨w.heap.size, 6, none⟩ = some (.int .i64 t.carry) := by rw [hw2.cell (by simp; omega)]; exact y2
    go_wp2
    go_ret
    exact ⟨ret_bool (by rw [HF.out, K1.out]; rfl), hb2⟩
end Go.Proofs.YtafnebpbfmbgiaaDoor

namespace Go.Proofs.YtafnebpbfmbgiaaDoor
open Go.RowKit Go.Sort
def Asc (fs : List Flt) : Prop := ∀ (k : Nat) (h : k + 1 < fs.length), (fs[k]'(by omega)).lever < fs[k + 1].lever
def vexpl (ts : List Tri) (fs : List Flt) : Bool := ts.all (fun t => expl t fs)
theorem between_b (a b c : Int) (w : World) : Calls Tryd.prog 112 #[.int .i64 a, .int .i64 b, .int .i64 c] w fun e w' => e = .returned (.bool (betB a b c)) ∧ Below w.heap.size w w' :=
  (between_any a b c w).mono fun _ _ ⟨h, e⟩ => ⟨h, e ▸ Below.refl _ _⟩
theorem isFault_any (n : Nat) (f : Flt) (w : World) (hn : n ≤ 16) (h1 : 1 ≤ f.kind) (h2 : f.kind ≤ 3) (h3 : 0 ≤ f.lever) (h4 : f.lever < n) :
    Calls Tryd.prog 137 #[.int .i64 n, .agg #[.int .i64 f.kind, .int .i64 f.lever]] w fun e w' => e = .returned (.bool true) ∧ Below w.heap.size w w' := by
  have k1 : betB f.kind 1 3 = true := betB_iff.2 ⟨h1, h2⟩
  have k2 : betB f.lever 0 (n - 1) = true := betB_iff.2 ⟨h3, by omega⟩
  have K1 := Lib.hid k1; have K2 := Lib.hid k2
  clear k1 k2
  go_enter Tryd.func137, Tryd.ntmps137
  go_wp2_with (go_at_call 112; refine (between_any _ _ _ _).mono ?_; rintro e w' ⟨rfl, rfl⟩; first | rw [K1.out] | rw [K2.out])
  go_ret
  exact ⟨rfl, (Below.refl _ _).alloc (Nat.le_refl _) _⟩
set_option maxHeartbeats 1600000 in
theorem ValidFaults_true (n : Nat) (A : Option Addr) (m c : Nat) (fs : List Flt) (w : World) (hr : RL FltM 2 w A m fs) (hg : GoodF n fs) (ha : Asc fs) (hn1 : 1 ≤ n) (hn : n ≤ 16) (hm : m ≤ 1000000) :
    Calls Tryd.prog 45 #[.int .i64 n, .slice A m c] w fun e w' => e = .returned (.bool true) ∧ Below w.heap.size w w' := by
  have HL := Lib.hid hr.1
  go_enter Tryd.func45, Tryd.ntmps45
  go_wp2
  go_loopw [9] (fun i wr => ∃ k : Nat, k ≤ m ∧ i = .int .i64 k ∧ Below w.heap.size w wr) (fun i _ => m - (intOf i).toNat)
  case atStart => exact ⟨0, Nat.zero_le _, rfl, Below.refl _ _⟩
  case round =>
    obtain ⟨k, hk, rfl, hbr⟩ := hrel
    by_cases hkn : k < m
    · obtain ⟨ad, hA, hlt, hkl, f1, f2⟩ := (hr.below steady_FltM hbr).at_ hkn
      obtain ⟨q1, q2, q3, q4⟩ := hg fs[k] (List.getElem_mem _)
      have KF := Lib.hid (fun (W : World) => isFault_any n fs[k] W hn q1 q2 q3 q4)
      have hi0 : (0 : Int) ≤ (k : Int) := by omega
      have hi1 : (k : Int) < (m : Int) := by omega
      have hfb : Below wr.heap.size wr (wr.alloc (.cells #[.int .i64 fs[k].kind, .int .i64 fs[k].lever] 71)) := (Below.refl _ _).alloc (Nat.le_refl _) _
      have x1 := cell_regrown (show (wr.alloc (.cells #[.int .i64 fs[k].kind, .int .i64 fs[k].lever] 71)).cell? ⟨wr.heap.size, 0, none⟩ = some (.int .i64 fs[k].kind) by go_simp)
      have x2 := cell_regrown (show (wr.alloc (.cells #[.int .i64 fs[k].kind, .int .i64 fs[k].lever] 71)).cell? ⟨wr.heap.size, 1, none⟩ = some (.int .i64 fs[k].lever) by go_simp)
      rcases Nat.eq_zero_or_pos k with hk0 | hk0
      · subst hk0
        rw [Nat.zero_mul, addr_add_zero] at f1 f2
        subst hA
        go_wp2_with fail
        refine wp_region_quiet_below (by kernel_rfl) (by kernel_rfl) ?_
        repeat (go_big_quiet_step ((go_at_call 137; exact quietB (fun W _ => KF.out W))))
        refine wpQuiet_nil ?_
        intro W1 hw'
        have hB1 : Below wr.heap.size wr W1 := by
          obtain ⟨⟨dq, osq⟩, hw''⟩ := hw'
          rw [hw'']; exact hfb.trans ((below_regrown _ dq osq).mono hfb.size)
        clear hw'
        go_wp2
        go_roundw
        case rel => exact ⟨1, by omega, by go_num, hbr.trans (hB1.mono hbr.size)⟩
        case measure => simp [intOf]; omega
      · obtain ⟨ad', hA', -, hkl', g1, g2⟩ := (hr.below steady_FltM hbr).at_ (show k - 1 < m by omega)
        obtain rfl : ad = ad' := by rw [hA] at hA'; injection hA'
        clear hA'
        have hasc := ha (k - 1) (by omega)
        have he : fs[k - 1 + 1] = fs[k] := by congr 1; omega
        rw [he] at hasc
        obtain ⟨lv, hlv⟩ : ∃ lv, lv = fs[k - 1].lever := ⟨_, rfl⟩
        rw [← hlv] at g2 hasc
        clear hlv he g1
        have y2 := cell_regrown ((hfb.cell (by rw [show (⟨(ad.add ((k - 1) * 2)).block, (ad.add ((k - 1) * 2)).off + 1, none⟩ : Addr).block = ad.block from block_of_add _ _]; exact hlt)).trans g2)
        have hd : decide ((0 : Int) < (k : Int)) = true := decide_eq_true (by omega)
        have hd2 : decide (fs[k].lever ≤ lv) = false := decide_eq_false (by omega)
        have hi2 : (0 : Int) < (k : Int) := by omega
        subst hA
        go_wp2_with fail
        refine wp_region_quiet_below (by kernel_rfl) (by kernel_rfl) ?_
        repeat (go_big_quiet_step ((go_at_call 137; exact quietB (fun W _ => KF.out W))))
        refine wpQuiet_nil ?_
        intro W1 hw'
        have hB1 : Below wr.heap.size wr W1 := by
          obtain ⟨⟨dq, osq⟩, hw''⟩ := hw'
          rw [hw'']; exact hfb.trans ((below_regrown _ dq osq).mono hfb.size)
        clear hw'
        go_wp2
        go_roundw
        case rel => exact ⟨k + 1, by omega, by go_num, hbr.trans (hB1.mono hbr.size)⟩
        case measure => simp [intOf]; omega
    · have K1 : betB (n : Int) 1 16 = true := betB_iff.2 ⟨by omega, by omega⟩
      have KK := Lib.hid K1; clear K1
      go_wp2_with (go_at_call 111; refine (isRegisterWidth_any _ _).mono ?_; rintro e w' ⟨rfl, rfl⟩; rw [KK.out])
      go_ret
      exact ⟨rfl, hbr⟩
end Go.Proofs.YtafnebpbfmbgiaaDoor

namespace Go.Proofs.YtafnebpbfmbgiaaDoor
open Go.RowKit Go.Sort
set_option maxRecDepth 100000 in
set_option maxHeartbeats 3200000 in
theorem l02Carries_any (g1 g2 : Nat) (b : Int) (XA : Option Addr) (xc : Nat) (xs : List Int) (YA : Option Addr) (yc : Nat) (ys : List Int) (w : World) (hx : RegB w g1 b XA xc xs) (hy : RegB w g2 b YA yc ys) (hb : 2 ≤ b) (hb16 : b ≤ 16) (hdx : Digs b xs) (hdy : Digs b ys) (hl : xs.length = ys.length) (hm : xs.length ≤ 16) :
    Calls Tryd.prog 141 #[.pointer (some ⟨g1, 0, none⟩), .pointer (some ⟨g2, 0, none⟩)] w fun e w' => ∃ F fc, e = .returned (.slice F (xs.length + 1) fc) ∧ Kn w [rowI F fc (carL b xs ys (xs.length + 1))] w' := by
  have HX := Lib.hid (fun W (hW : Below w.heap.size w W) => RegB.below hx hW)
  have HY := Lib.hid (fun W (hW : Below w.heap.size w W) => RegB.below hy hW)
  have HDX := Lib.hid hdx
  have HDY := Lib.hid hdy
  have HLL := Lib.hid hl
  have HCB := Lib.hid (carK_bd hb hdx hdy)
  clear hdx hdy hl hx hy
  have K0 : Kn w [.row (.slice (some ⟨w.heap.size, 0, none⟩) 1 1) 2 1 1 ((carL b xs ys 1).map (Value.int .i64))] _ := ((Kn.nil w).al [.int .i64 0] 2).litRow (size := 1) (n := 1) rfl (by decide)
  go_enter Tryd.func141, Tryd.ntmps141
  go_upto_region 2 with fail
  refine Code.wp.kn K0 ?_; clear K0; intro w1 K1
  go_wp2_with fail
  go_loopw [5, 6, 7] (fun cv cc ii wr => ∃ (k : Nat) (cw : Value), k ≤ xs.length ∧ ii = .int .i64 (k : Int) ∧ cc = .int .i64 (carK b xs ys k) ∧ cv = cw ∧ Kn w [.row cw 2 1 (carL b xs ys (k + 1)).length ((carL b xs ys (k + 1)).map (Value.int .i64))] wr) (fun _ _ ii _ => xs.length - (intOf ii).toNat)
  case atStart => exact ⟨0, _, Nat.zero_le _, rfl, rfl, rfl, K1⟩
  case round =>
    clear K1
    obtain ⟨k, vv, hk, rfl, rfl, rfl, hK⟩ := hrel
    obtain ⟨⟨x0, x1⟩, hrx⟩ := HX.out _ hK.below
    obtain ⟨⟨y0, y1⟩, hry⟩ := HY.out _ hK.below
    by_cases hkn : k < xs.length
    · have i1 : (k : Int) < (xs.length : Int) := by omega
      have i0 : (0 : Int) ≤ (k : Int) := by omega
      have hkny : k < ys.length := by have := HLL.out; omega
      have i2 : (k : Int) < (ys.length : Int) := by omega
      obtain ⟨adx, hA, hltx, hkx, hcx⟩ := hrx.at_ hkn
      obtain ⟨ady, hB, hlty, hky, hcy⟩ := hry.at_ hkny
      have bx := HDX.out xs[k] (List.getElem_mem hkn)
      have bY := HDY.out ys[k] (List.getElem_mem hkny)
      have hcb := HCB.out k
      have hcb2 := HCB.out (k + 1)
      have hQ : carK b xs ys (k + 1) = (xs[k] + ys[k] + carK b xs ys k) / b := by rw [carK, getD_of hkn, getD_of hkny]
      obtain ⟨x, hxx⟩ : ∃ x, xs[k] = x := ⟨_, rfl⟩
      obtain ⟨y, hyy⟩ : ∃ y, ys[k] = y := ⟨_, rfl⟩
      obtain ⟨cr, hcr⟩ : ∃ y, carK b xs ys k = y := ⟨_, rfl⟩
      rw [hxx] at hcx bx hQ
      rw [hyy] at hcy bY hQ
      rw [hcr] at hcb hQ
      try rw [hcr]
      have q1 : IntKind.i64.wrap (x + y) = x + y := wrapI (by omega)
      obtain ⟨s0, hs0⟩ : ∃ s, x + y + cr = s := ⟨_, rfl⟩
      have q2 : IntKind.i64.wrap (x + y + cr) = s0 := by rw [hs0]; exact wrapI (by omega)
      rw [hs0] at hQ
      have hs1 : 0 ≤ s0 ∧ s0 ≤ 40 := by omega
      obtain ⟨qq, hqq⟩ : ∃ z, s0 / b = z := ⟨_, rfl⟩
      rw [hqq] at hQ
      have r2 : Int.tdiv s0 b = qq := by rw [Int.tdiv_eq_ediv_of_nonneg (by omega)]; exact hqq
      rw [hQ] at hcb2
      have r3 : IntKind.i64.wrap (Int.tdiv s0 b) = qq := by rw [r2]; exact wrapI (by omega)
      have r0 : ¬ b = 0 := by omega
      have r4 : b ≠ 0 := by omega
      have HQ := Lib.hid hQ
      have hcl := carL_len b xs ys (k + 1)
      obtain ⟨cs, hcs⟩ : ∃ cs, carL b xs ys (k + 1) = cs := ⟨_, rfl⟩
      rw [hcs] at hK hcl
      have HCS := Lib.hid hcs
      have HL := Lib.hid (show cs.length ≤ 10000000 by omega)
      subst hA
      subst hB
      clear hxx hyy hcr hQ hqq hs0 hcl hcs
      go_wp2_with fail
      go_quiet (fail)
      go_upto_region 7 with fail
      first
        | (refine Code.wp.kn hK ?_; clear hK; intro w7 hK)
        | (refine Code.wp.kn (hK.drewN _) ?_; clear hK; intro w7 hK)
      clear x0 x1 y0 y1 hrx hry hcx hcy
      go_wp2_with (at_builtin; refine kn_pushI rfl _ _ rfl _ cs rfl rfl (hK.al [.int .i64 qq] 2) HL.out ?_; intro v' w' K10)
      go_roundw
      case rel => exact ⟨k + 1, _, by omega, by go_num, by rw [HQ.out], rfl, by rw [carL_succ, HCS.out, HQ.out]; exact K10⟩
      case measure => simp [intOf]; omega
    · have i1 : ¬ (k : Int) < (xs.length : Int) := by omega
      obtain rfl : k = xs.length := by omega
      obtain ⟨A0, c0, rfl⟩ := row_form hK.at0
      have HL2 := Lib.hid (carL_len b xs ys (xs.length + 1))
      rw [carL_len] at hK
      try rw [carL_len]
      go_wp2_with fail
      go_ret
      exact ⟨A0, c0, rfl, by unfold rowI; rw [HL2.out]; exact hK⟩
end Go.Proofs.YtafnebpbfmbgiaaDoor

namespace Go.Proofs.YtafnebpbfmbgiaaDoor
open Go.RowKit Go.Sort
set_option maxRecDepth 100000 in
set_option maxHeartbeats 6400000 in
theorem l02Add_any (g1 g2 : Nat) (b : Int) (XA : Option Addr) (xc : Nat) (xs : List Int) (YA : Option Addr) (yc : Nat) (ys : List Int) (w : World) (hx : RegB w g1 b XA xc xs) (hy : RegB w g2 b YA yc ys) (hb : 2 ≤ b) (hb16 : b ≤ 16) (hdx : Digs b xs) (hdy : Digs b ys) (hl : xs.length = ys.length) (hm : xs.length ≤ 16) :
    Calls Tryd.prog 135 #[.pointer (some ⟨g1, 0, none⟩), .pointer (some ⟨g2, 0, none⟩)] w fun e w' => ∃ E ec, e = .returned (.tuple #[.agg #[.int .i64 b, .slice E xs.length ec], .int .i64 (carK b xs ys xs.length)]) ∧ Kn w [rowI E ec (addD b xs ys xs.length)] w' := by
  have HX := Lib.hid (fun W (hW : Below w.heap.size w W) => RegB.below hx hW)
  have HY := Lib.hid (fun W (hW : Below w.heap.size w W) => RegB.below hy hW)
  have KC := Lib.hid (fun W (hW : Below w.heap.size w W) => l02Carries_any g1 g2 b XA xc xs YA yc ys W (RegB.below hx hW) (RegB.below hy hW) hb hb16 hdx hdy hl hm)
  have HDX := Lib.hid hdx
  have HDY := Lib.hid hdy
  have HLL := Lib.hid hl
  have HCB := Lib.hid (carK_bd hb hdx hdy)
  have HSB := Lib.hid (fun i => sumK_bd hb xs ys i)
  have HCG := Lib.hid (fun k (h : k < xs.length + 1) => carL_get b xs ys h)
  clear hdx hdy hl hx hy
  obtain ⟨g4, hg4⟩ : ∃ g, w.heap.size = g := ⟨_, rfl⟩
  have K0 := (Kn.nil w).al [.int .i64 0, .slice none 0 0] 26
  rw [hg4] at K0
  go_enter Tryd.func135, Tryd.ntmps135
  go_upto_region 2 with (go_at_call 141; refine Calls.kn K0 ?_; intro w1 K1; refine (KC.out _ K1.below).mono ?_; rintro e w2 ⟨F, fc, rfl, hK⟩; have K2 := K1.join hK; clear hK K1)
  have K2 : Kn w [.row (.slice F (carL b xs ys (xs.length + 1)).length fc) 2 1 (carL b xs ys (xs.length + 1)).length ((carL b xs ys (xs.length + 1)).map (Value.int .i64)), .blk g4 [.int .i64 0, .slice none 0 0] 26] w2 := K2
  rw [carL_len] at K2
  obtain ⟨gc, cc, hFe⟩ := K2.rowForm (by omega)
  injection hFe with hFe _ hfk
  subst hFe
  subst hfk
  obtain ⟨cs, hcs⟩ : ∃ cs, carL b xs ys (xs.length + 1) = cs := ⟨_, rfl⟩
  rw [hcs] at K2 HCG
  clear hcs
  obtain ⟨gO, hgO⟩ : ∃ g, w2.heap.size = g := ⟨_, rfl⟩
  obtain ⟨⟨p0, p1⟩, -⟩ := HX.out _ K2.below
  go_upto_region 3 with fail
  have K3 := K2.al [.int .i64 b, .slice none 0 0] 26
  rw [hgO] at K3
  try rw [hgO]
  refine Code.wp.kn K3 ?_; clear K2 K3 hgO p0 p1; intro w3 K3
  go_wp2_with fail
  have K4 : Kn w [.row (.slice none 0 0) 2 1 (addD b xs ys 0).length ((addD b xs ys 0).map (Value.int .i64)), .row (.slice (some ⟨gc, 0, none⟩) (xs.length + 1) fc) 2 1 (xs.length + 1) (cs.map (Value.int .i64)), .blk gO [.int .i64 b, .slice none 0 0] 26, .blk g4 [.int .i64 0, .slice none 0 0] 26] w3 := (K3.nilRow 2 1).sel [0, 2, 1, 3] 99 (by decide) (by decide)
  clear K3
  go_loopw [8] (fun ii wr => ∃ (k : Nat) (vv : Value), k ≤ xs.length ∧ ii = .int .i64 (k : Int) ∧ Kn w [.row vv 2 1 (addD b xs ys k).length ((addD b xs ys k).map (Value.int .i64)), .row (.slice (some ⟨gc, 0, none⟩) (xs.length + 1) fc) 2 1 (xs.length + 1) (cs.map (Value.int .i64)), .blk gO [.int .i64 b, vv] 26, .blk g4 [.int .i64 0, .slice none 0 0] 26] wr) (fun ii _ => xs.length - (intOf ii).toNat)
  case atStart => exact ⟨0, _, Nat.zero_le _, rfl, K4⟩
  case round =>
    clear K4
    obtain ⟨k, vv, hk, rfl, hK⟩ := hrel
    obtain ⟨⟨x0, x1⟩, hrx⟩ := HX.out _ hK.below
    obtain ⟨⟨y0, y1⟩, hry⟩ := HY.out _ hK.below
    obtain ⟨hcl, hcg⟩ := HCG.out k (by omega)
    by_cases hkn : k < xs.length
    · have i1 : (k : Int) < (xs.length : Int) := by omega
      have i0 : (0 : Int) ≤ (k : Int) := by omega
      have hkny : k < ys.length := by have := HLL.out; omega
      have i2 : (k : Int) < (ys.length : Int) := by omega
      have i3 : (k : Int) < (xs.length : Int) + 1 := by omega
      obtain ⟨adx, hA, hltx, hkx, hcx⟩ := hrx.at_ hkn
      obtain ⟨ady, hB, hlty, hky, hcy⟩ := hry.at_ hkny
      have bx := HDX.out xs[k] (List.getElem_mem hkn)
      have bY := HDY.out ys[k] (List.getElem_mem hkny)
      have hcb := HCB.out k
      have hsb := HSB.out k
      have hce : (cs.map (Value.int .i64))[k]? = some (.int .i64 (carK b xs ys k)) := by rw [← hcg]; simp [hcl]
      have hZ : sumK b xs ys k = (xs[k] + ys[k] + carK b xs ys k) % b := by rw [sumK, getD_of hkn, getD_of hkny]
      obtain ⟨x, hxx⟩ : ∃ x, xs[k] = x := ⟨_, rfl⟩
      obtain ⟨y, hyy⟩ : ∃ y, ys[k] = y := ⟨_, rfl⟩
      obtain ⟨cr, hcr⟩ : ∃ y, carK b xs ys k = y := ⟨_, rfl⟩
      rw [hxx] at bx hZ
      rw [hyy] at bY hZ
      rw [hcr] at hcb hZ hce
      have q1 : IntKind.i64.wrap (x + y) = x + y := wrapI (by omega)
      obtain ⟨s0, hs0⟩ : ∃ s, x + y + cr = s := ⟨_, rfl⟩
      have q2 : IntKind.i64.wrap (x + y + cr) = s0 := by rw [hs0]; exact wrapI (by omega)
      rw [hs0] at hZ
      obtain ⟨z, hz⟩ : ∃ z, s0 % b = z := ⟨_, rfl⟩
      rw [hz] at hZ
      have r1 : Int.tmod s0 b = z := by rw [Int.tmod_eq_emod_of_nonneg (by omega)]; exact hz
      have r0 : ¬ b = 0 := by omega
      rw [hZ] at hsb
      have HZ := Lib.hid hZ
      subst hA
      subst hB
      obtain ⟨ss, hss⟩ : ∃ ss, addD b xs ys k = ss := ⟨_, rfl⟩
      have hL : ss.length ≤ 10000000 := by rw [← hss, addD_len]; omega
      rw [hss] at hK
      have HSS := Lib.hid hss
      have HL := Lib.hid hL
      have HXE := Lib.hid hxx
      have HYE := Lib.hid hyy
      have HCE := Lib.hid hce
      clear hxx hyy hcr hZ hcg hz hs0 hss hL hce hcx hcy hrx hry hcl
      have SP := Lib.hid (fun W (h : Kn w [.row (.slice (some ⟨gc, 0, none⟩) (xs.length + 1) fc) 2 1 (xs.length + 1) (cs.map (Value.int .i64))] W) => (show (W.cell? ⟨g1, 0, none⟩ = some (.int .i64 b) ∧ W.cell? ⟨g1, 1, none⟩ = some (.slice (some adx) xs.length xc) ∧ W.cell? ⟨g2, 1, none⟩ = some (.slice (some ady) ys.length yc) ∧ W.cell? (adx.add k) = some (.int .i64 x) ∧ W.cell? (ady.add k) = some (.int .i64 y) ∧ W.cell? ⟨gc, k, none⟩ = some (.int .i64 cr)) from by
        obtain ⟨⟨q0, q1⟩, hq⟩ := HX.out W h.below
        obtain ⟨⟨q2, q3⟩, hq2⟩ := HY.out W h.below
        obtain ⟨ad, ha, _, hk1, e1⟩ := hq.at_ hkn
        obtain ⟨ad2, ha2, _, hk2, e2⟩ := hq2.at_ hkny
        injection ha with ha
        injection ha2 with ha2
        subst ha
        subst ha2
        rw [HXE.out] at e1
        rw [HYE.out] at e2
        exact ⟨q0, q1, q3, e1, e2, (Kn.rowCell h HCE.out).1⟩))
      go_wp2_with fail
      clear x0 x1 y0 y1
      have hKd := hK.drew
      have HG := Lib.hid (SP.out _ (hKd.sel [1] 99 (by decide) (by decide)))
      refine wp_region_held_drew (S := (fun W => (W.cell? ⟨g1, 0, none⟩ = some (.int .i64 b) ∧ W.cell? ⟨g1, 1, none⟩ = some (.slice (some adx) xs.length xc) ∧ W.cell? ⟨g2, 1, none⟩ = some (.slice (some ady) ys.length yc) ∧ W.cell? (adx.add k) = some (.int .i64 x) ∧ W.cell? (ady.add k) = some (.int .i64 y) ∧ W.cell? ⟨gc, k, none⟩ = some (.int .i64 cr)))) (by kernel_rfl) ?_ (fun hHeld => ?_)
      · exact HG.out
      try dsimp only
      generalize wr.drew = wd at hKd HG hHeld ⊢
      clear hK
      refine wpAnyH_take (i := 0) (v := ?_) rfl (by kernel_rfl) (by kernel_rfl) (by kernel_rfl) (fun _ _ _ h => h) (Or.inl ⟨by rfl, ?_⟩) hHeld ?_
      rotate_left
      · (intro w hSw; (try dsimp only at hSw); go_simp; try with_reducible rfl)
      try simp only [Act.put, List.setIfInBounds_toArray, List.set_cons_zero, List.set_cons_succ, List.getElem_toArray, List.getElem_cons_zero]
      refine wpAnyH_take (i := 2) (v := ?_) rfl (by kernel_rfl) (by kernel_rfl) (by kernel_rfl) (fun _ _ _ h => h) (Or.inl ⟨by rfl, ?_⟩) hHeld ?_
      rotate_left
      · (intro w hSw; (try dsimp only at hSw); go_simp; try with_reducible rfl)
      try simp only [Act.put, List.setIfInBounds_toArray, List.set_cons_zero, List.set_cons_succ, List.getElem_toArray, List.getElem_cons_succ, List.getElem_cons_zero]
      refine wpAnyH_take (i := 3) (v := ?_) rfl (by kernel_rfl) (by kernel_rfl) (by kernel_rfl) (fun _ _ _ h => h) (Or.inl ⟨by rfl, ?_⟩) hHeld ?_
      rotate_left
      · (intro w hSw; (try dsimp only at hSw); go_simp; try with_reducible rfl)
      try simp only [Act.put, List.setIfInBounds_toArray, List.set_cons_zero, List.set_cons_succ, List.getElem_toArray, List.getElem_cons_succ, List.getElem_cons_zero]
      refine wpAnyH_take (i := 4) (v := ?_) rfl (by kernel_rfl) (by kernel_rfl) (by kernel_rfl) (fun _ _ _ h => h) (Or.inl ⟨by rfl, ?_⟩) hHeld ?_
      rotate_left
      · (intro w hSw; (try dsimp only at hSw); go_simp; try with_reducible rfl)
      try simp only [Act.put, List.setIfInBounds_toArray, List.set_cons_zero, List.set_cons_succ, List.getElem_toArray, List.getElem_cons_succ, List.getElem_cons_zero]
      refine wpAnyH_take (i := 5) (v := ?_) rfl (by kernel_rfl) (by kernel_rfl) (by kernel_rfl) (fun _ _ _ h => h) (Or.inl ⟨by rfl, ?_⟩) hHeld ?_
      rotate_left
      · (intro w hSw; (try dsimp only at hSw); go_simp; try with_reducible rfl)
      try simp only [Act.put, List.setIfInBounds_toArray, List.set_cons_zero, List.set_cons_succ, List.getElem_toArray, List.getElem_cons_succ, List.getElem_cons_zero]
      refine wpAnyH_take (i := 6) (v := ?_) rfl (by kernel_rfl) (by kernel_rfl) (by kernel_rfl) (fun _ _ _ h => h) (Or.inl ⟨by rfl, ?_⟩) hHeld ?_
      rotate_left
      · (intro w hSw; (try dsimp only at hSw); go_simp; try with_reducible rfl)
      try simp only [Act.put, List.setIfInBounds_toArray, List.set_cons_zero, List.set_cons_succ, List.getElem_toArray, List.getElem_cons_succ, List.getElem_cons_zero]
      refine wpAnyH_take (i := 7) (v := ?_) rfl (by kernel_rfl) (by kernel_rfl) (by kernel_rfl) (fun _ _ _ h => h) (Or.inl ⟨by rfl, ?_⟩) hHeld ?_
      rotate_left
      · (intro w hSw; (try dsimp only at hSw); go_simp; try with_reducible rfl)
      try simp only [Act.put, List.setIfInBounds_toArray, List.set_cons_zero, List.set_cons_succ, List.getElem_toArray, List.getElem_cons_succ, List.getElem_cons_zero]
      refine wpAnyH_take (i := 8) (v := ?_) rfl (by kernel_rfl) (by kernel_rfl) (by kernel_rfl) (fun _ _ _ h => h) (Or.inl ⟨by rfl, ?_⟩) hHeld ?_
      rotate_left
      · (intro w hSw; (try dsimp only at hSw); go_simp; try with_reducible rfl)
      try simp only [Act.put, List.setIfInBounds_toArray, List.set_cons_zero, List.set_cons_succ, List.getElem_toArray, List.getElem_cons_succ, List.getElem_cons_zero]
      refine wpAnyH_take (i := 9) (v := ?_) rfl (by kernel_rfl) (by kernel_rfl) (by kernel_rfl) (fun _ _ _ h => h) (Or.inl ⟨by rfl, ?_⟩) hHeld ?_
      rotate_left
      · (intro w hSw; (try dsimp only at hSw); go_simp; try with_reducible rfl)
      try simp only [Act.put, List.setIfInBounds_toArray, List.set_cons_zero, List.set_cons_succ, List.getElem_toArray, List.getElem_cons_succ, List.getElem_cons_zero]
      refine wpAnyH_take (i := 10) (v := ?_) rfl (by kernel_rfl) (by kernel_rfl) (by kernel_rfl) (fun _ _ _ h => h) (Or.inl ⟨by rfl, ?_⟩) hHeld ?_
      rotate_left
      · (intro w hSw; (try dsimp only at hSw); go_simp; try with_reducible rfl)
      try simp only [Act.put, List.setIfInBounds_toArray, List.set_cons_zero, List.set_cons_succ, List.getElem_toArray, List.getElem_cons_succ, List.getElem_cons_zero]
      refine wpAnyH_take (i := 11) (v := ?_) rfl (by kernel_rfl) (by kernel_rfl) (by kernel_rfl) (fun _ _ _ h => h) (Or.inl ⟨by rfl, ?_⟩) hHeld ?_
      rotate_left
      · (intro w hSw; (try dsimp only at hSw); go_simp; try with_reducible rfl)
      try simp only [Act.put, List.setIfInBounds_toArray, List.set_cons_zero, List.set_cons_succ, List.getElem_toArray, List.getElem_cons_succ, List.getElem_cons_zero]
      refine wpAnyH_take (i := 12) (v := ?_) rfl (by kernel_rfl) (by kernel_rfl) (by kernel_rfl) (fun _ _ _ h => h) (Or.inl ⟨by rfl, ?_⟩) hHeld ?_
      rotate_left
      · (intro w hSw; (try dsimp only at hSw); go_simp; try with_reducible rfl)
      try simp only [Act.put, List.setIfInBounds_toArray, List.set_cons_zero, List.set_cons_succ, List.getElem_toArray, List.getElem_cons_succ, List.getElem_cons_zero]
      refine wpAnyH_take (i := 13) (v := ?_) rfl (by kernel_rfl) (by kernel_rfl) (by kernel_rfl) (fun _ _ _ h => h) (Or.inl ⟨by rfl, ?_⟩) hHeld ?_
      rotate_left
      · (intro w hSw; (try dsimp only at hSw); go_simp; try with_reducible rfl)
      try simp only [Act.put, List.setIfInBounds_toArray, List.set_cons_zero, List.set_cons_succ, List.getElem_toArray, List.getElem_cons_succ, List.getElem_cons_zero]
      refine wpAnyH_take (i := 14) (v := ?_) rfl (by kernel_rfl) (by kernel_rfl) (by kernel_rfl) (fun _ _ _ h => h) (Or.inl ⟨by rfl, ?_⟩) hHeld ?_
      rotate_left
      · (intro w hSw; (try dsimp only at hSw); go_simp; try with_reducible rfl)
      try simp only [Act.put, List.setIfInBounds_toArray, List.set_cons_zero, List.set_cons_succ, List.getElem_toArray, List.getElem_cons_succ, List.getElem_cons_zero]
      refine wpAnyH_take (i := 15) (v := ?_) rfl (by kernel_rfl) (by kernel_rfl) (by kernel_rfl) (fun _ _ _ h => h) (Or.inl ⟨by rfl, ?_⟩) hHeld ?_
      rotate_left
      · (intro w hSw; (try dsimp only at hSw); go_simp; try with_reducible rfl)
      try simp only [Act.put, List.setIfInBounds_toArray, List.set_cons_zero, List.set_cons_succ, List.getElem_toArray, List.getElem_cons_succ, List.getElem_cons_zero]
      refine wpAnyH_take (i := 16) (v := ?_) rfl (by kernel_rfl) (by kernel_rfl) (by kernel_rfl) (fun _ _ _ h => h) (Or.inl ⟨by rfl, ?_⟩) hHeld ?_
      rotate_left
      · (intro w hSw; (try dsimp only at hSw); go_simp; try with_reducible rfl)
      try simp only [Act.put, List.setIfInBounds_toArray, List.set_cons_zero, List.set_cons_succ, List.getElem_toArray, List.getElem_cons_succ, List.getElem_cons_zero]
      refine wpAnyH_take (i := 17) (v := ?_) rfl (by kernel_rfl) (by kernel_rfl) (by kernel_rfl) (fun _ _ _ h => h) (Or.inl ⟨by rfl, ?_⟩) hHeld ?_
      rotate_left
      · (intro w hSw; (try dsimp only at hSw); go_simp; try with_reducible rfl)
      try simp only [Act.put, List.setIfInBounds_toArray, List.set_cons_zero, List.set_cons_succ, List.getElem_toArray, List.getElem_cons_succ, List.getElem_cons_zero]
      refine wpAnyH_take (i := 18) (v := ?_) rfl (by kernel_rfl) (by kernel_rfl) (by kernel_rfl) (fun _ _ _ h => h) (Or.inl ⟨by rfl, ?_⟩) hHeld ?_
      rotate_left
      · (intro w hSw; (try dsimp only at hSw); go_simp; try with_reducible rfl)
      try simp only [Act.put, List.setIfInBounds_toArray, List.set_cons_zero, List.set_cons_succ, List.getElem_toArray, List.getElem_cons_succ, List.getElem_cons_zero]
      refine wpAnyH_take (i := 19) (v := ?_) rfl (by kernel_rfl) (by kernel_rfl) (by kernel_rfl) (fun _ _ _ h => h) (Or.inl ⟨by rfl, ?_⟩) hHeld ?_
      rotate_left
      · (intro w hSw; (try dsimp only at hSw); go_simp; try with_reducible rfl)
      try simp only [Act.put, List.setIfInBounds_toArray, List.set_cons_zero, List.set_cons_succ, List.getElem_toArray, List.getElem_cons_succ, List.getElem_cons_zero]
      refine wpAnyH_take (i := 20) (v := ?_) rfl (by kernel_rfl) (by kernel_rfl) (by kernel_rfl) (fun _ _ _ h => h) (Or.inl ⟨by rfl, ?_⟩) hHeld ?_
      rotate_left
      · (intro w hSw; (try dsimp only at hSw); go_simp; try with_reducible rfl)
      try simp only [Act.put, List.setIfInBounds_toArray, List.set_cons_zero, List.set_cons_succ, List.getElem_toArray, List.getElem_cons_succ, List.getElem_cons_zero]
      refine wpAnyH_take (i := 21) (v := ?_) rfl (by kernel_rfl) (by kernel_rfl) (by kernel_rfl) (fun _ _ _ h => h) (Or.inl ⟨by rfl, ?_⟩) hHeld ?_
      rotate_left
      · (intro w hSw; (try dsimp only at hSw); go_simp; try with_reducible rfl)
      try simp only [Act.put, List.setIfInBounds_toArray, List.set_cons_zero, List.set_cons_succ, List.getElem_toArray, List.getElem_cons_succ, List.getElem_cons_zero]
      refine wpAnyH_take (i := 22) (v := ?_) rfl (by kernel_rfl) (by kernel_rfl) (by kernel_rfl) (fun _ _ _ h => h) (Or.inl ⟨by rfl, ?_⟩) hHeld ?_
      rotate_left
      · (intro w hSw; (try dsimp only at hSw); go_simp; try with_reducible rfl)
      try simp only [Act.put, List.setIfInBounds_toArray, List.set_cons_zero, List.set_cons_succ, List.getElem_toArray, List.getElem_cons_succ, List.getElem_cons_zero]
      refine wpAnyH_take (i := 23) (v := ?_) rfl (by kernel_rfl) (by kernel_rfl) (by kernel_rfl) (fun _ _ _ h => h) (Or.inl ⟨by rfl, ?_⟩) hHeld ?_
      rotate_left
      · (intro w hSw; (try dsimp only at hSw); go_simp; try with_reducible rfl)
      try simp only [Act.put, List.setIfInBounds_toArray, List.set_cons_zero, List.set_cons_succ, List.getElem_toArray, List.getElem_cons_succ, List.getElem_cons_zero]
      refine wpAnyH_take (i := 24) (v := ?_) rfl (by kernel_rfl) (by kernel_rfl) (by kernel_rfl) (fun _ _ _ h => h) (Or.inl ⟨by rfl, ?_⟩) hHeld ?_
      rotate_left
      · (intro w hSw; (try dsimp only at hSw); go_simp; try with_reducible rfl)
      try simp only [Act.put, List.setIfInBounds_toArray, List.set_cons_zero, List.set_cons_succ, List.getElem_toArray, List.getElem_cons_succ, List.getElem_cons_zero]
      refine wpAnyH_take (i := 25) (v := ?_) rfl (by kernel_rfl) (by kernel_rfl) (by kernel_rfl) (fun _ _ _ h => h) (Or.inl ⟨by rfl, ?_⟩) hHeld ?_
      rotate_left
      · (intro w hSw; (try dsimp only at hSw); go_simp; try with_reducible rfl)
      try simp only [Act.put, List.setIfInBounds_toArray, List.set_cons_zero, List.set_cons_succ, List.getElem_toArray, List.getElem_cons_succ, List.getElem_cons_zero]
      refine wpAnyH_take (i := 26) (v := ?_) rfl (by kernel_rfl) (by kernel_rfl) (by kernel_rfl) (fun _ _ _ h => h) (Or.inl ⟨by rfl, ?_⟩) hHeld ?_
      rotate_left
      · (intro w hSw; (try dsimp only at hSw); go_simp; try with_reducible rfl)
      try simp only [Act.put, List.setIfInBounds_toArray, List.set_cons_zero, List.set_cons_succ, List.getElem_toArray, List.getElem_cons_succ, List.getElem_cons_zero]
      refine wpAnyH_ready (rs := [1, 27]) (by kernel_rfl) (by decide) (AllReadyH.cons (o := _) rfl (fun K hK' => ?_) (AllReadyH.cons (o := _) rfl (fun K hK' => ?_) AllReadyH.nil))
      · obtain ⟨o1, o2, o3, -⟩ := (hKd.front 2 rfl).cells
        go_simp
        clear o1 o2 o3
        have HG := Lib.hid (SP.out _ (hKd.sel [1] 99 (by decide) (by decide)))
        refine hK'.out _ _ HG.out (fun hHeld2 => ?_)
        clear hK' K hHeld
        have hHeld := hHeld2
        clear hHeld2
        try simp only [Act.put, List.setIfInBounds_toArray]
        refine wpAnyH_ready (rs := [27]) (by kernel_rfl) (by decide) (AllReadyH.cons (o := _) rfl (fun K hK' => ?_) AllReadyH.nil)
        go_simp
        have K9 := hKd.al [.int .i64 z] 2
        have HG := Lib.hid (SP.out _ (K9.sel [2] 99 (by decide) (by decide)))
        refine hK'.out _ _ HG.out (fun hHeld2 => ?_)
        clear hK' K hHeld
        have hHeld := hHeld2
        clear hHeld2
        try simp only [Act.put, List.setIfInBounds_toArray]
        refine wpAnyH_ready (rs := [28]) (by kernel_rfl) (by decide) (AllReadyH.cons (o := _) rfl (fun K hK' => ?_) AllReadyH.nil)
        refine kn_stepI (by rfl) _ _ (by rfl) vv _ (by rfl) (by rfl) K9 HL.out ?_
        intro v' w10 K10
        obtain ⟨A', c', rfl⟩ := row_form K10.at0
        obtain ⟨m9, hm9⟩ : ∃ m, (ss ++ [z]).length = m := ⟨_, rfl⟩
        rw [hm9] at K10
        try rw [hm9]
        have HM9 := Lib.hid hm9
        clear hm9
        have HG := Lib.hid (SP.out _ (K10.sel [1] 99 (by decide) (by decide)))
        refine hK'.out _ _ HG.out (fun hHeld2 => ?_)
        clear hK' K hHeld
        have hHeld := hHeld2
        clear hHeld2
        try simp only [Act.put, List.setIfInBounds_toArray]
        refine wpAnyH_take (i := 29) (v := ?_) rfl (by kernel_rfl) (by kernel_rfl) (by kernel_rfl) (fun _ _ _ h => h) (Or.inl ⟨by rfl, ?_⟩) hHeld ?_
        rotate_left
        · (intro w hSw; (try dsimp only at hSw); go_simp; try with_reducible rfl)
        try simp only [Act.put, List.setIfInBounds_toArray, List.set_cons_zero, List.set_cons_succ, List.getElem_toArray, List.getElem_cons_succ, List.getElem_cons_zero]
        refine wpAnyH_ready (rs := [30]) (by kernel_rfl) (by decide) (AllReadyH.cons (o := _) rfl (fun K hK' => ?_) AllReadyH.nil)
        obtain ⟨s1, s2, s3⟩ := (K10.front 2 rfl).blkAt
        have K11 := (K10.front 2 rfl).st 1 (.slice A' m9 c')
        go_simp
        have HG := Lib.hid (SP.out _ (K11.sel [2] 99 (by decide) (by decide)))
        refine hK'.out _ _ HG.out (fun hHeld2 => ?_)
        clear hK' K hHeld
        have hHeld := hHeld2
        clear hHeld2
        try simp only [Act.put, List.setIfInBounds_toArray]
        refine wpAnyH_done (by kernel_rfl) ?_ _
        clear s1 s2 s3 HG hHeld
        go_wp2_with fail
        go_roundw
        case rel => exact ⟨k + 1, _, by omega, by go_num, by rw [addD_succ, HSS.out, HZ.out, HM9.out]; exact K11.sel [1, 2, 0, 3] 99 (by decide) (by decide)⟩
        case measure => simp [intOf]; omega
      · go_simp
        have K9 := hKd.al [.int .i64 z] 2
        have HG := Lib.hid (SP.out _ (K9.sel [2] 99 (by decide) (by decide)))
        refine hK'.out _ _ HG.out (fun hHeld2 => ?_)
        clear hK' K hHeld
        have hHeld := hHeld2
        clear hHeld2
        try simp only [Act.put, List.setIfInBounds_toArray]
        refine wpAnyH_ready (rs := [1]) (by kernel_rfl) (by decide) (AllReadyH.cons (o := _) rfl (fun K hK' => ?_) AllReadyH.nil)
        obtain ⟨o1, o2, o3, -⟩ := (K9.front 3 rfl).cells
        go_simp
        clear o1 o2 o3
        have HG := Lib.hid (SP.out _ (K9.sel [2] 99 (by decide) (by decide)))
        refine hK'.out _ _ HG.out (fun hHeld2 => ?_)
        clear hK' K hHeld
        have hHeld := hHeld2
        clear hHeld2
        try simp only [Act.put, List.setIfInBounds_toArray]
        refine wpAnyH_ready (rs := [28]) (by kernel_rfl) (by decide) (AllReadyH.cons (o := _) rfl (fun K hK' => ?_) AllReadyH.nil)
        refine kn_stepI (by rfl) _ _ (by rfl) vv _ (by rfl) (by rfl) K9 HL.out ?_
        intro v' w10 K10
        obtain ⟨A', c', rfl⟩ := row_form K10.at0
        obtain ⟨m9, hm9⟩ : ∃ m, (ss ++ [z]).length = m := ⟨_, rfl⟩
        rw [hm9] at K10
        try rw [hm9]
        have HM9 := Lib.hid hm9
        clear hm9
        have HG := Lib.hid (SP.out _ (K10.sel [1] 99 (by decide) (by decide)))
        refine hK'.out _ _ HG.out (fun hHeld2 => ?_)
        clear hK' K hHeld
        have hHeld := hHeld2
        clear hHeld2
        try simp only [Act.put, List.setIfInBounds_toArray]
        refine wpAnyH_take (i := 29) (v := ?_) rfl (by kernel_rfl) (by kernel_rfl) (by kernel_rfl) (fun _ _ _ h => h) (Or.inl ⟨by rfl, ?_⟩) hHeld ?_
        rotate_left
        · (intro w hSw; (try dsimp only at hSw); go_simp; try with_reducible rfl)
        try simp only [Act.put, List.setIfInBounds_toArray, List.set_cons_zero, List.set_cons_succ, List.getElem_toArray, List.getElem_cons_succ, List.getElem_cons_zero]
        refine wpAnyH_ready (rs := [30]) (by kernel_rfl) (by decide) (AllReadyH.cons (o := _) rfl (fun K hK' => ?_) AllReadyH.nil)
        obtain ⟨s1, s2, s3⟩ := (K10.front 2 rfl).blkAt
        have K11 := (K10.front 2 rfl).st 1 (.slice A' m9 c')
        go_simp
        have HG := Lib.hid (SP.out _ (K11.sel [2] 99 (by decide) (by decide)))
        refine hK'.out _ _ HG.out (fun hHeld2 => ?_)
        clear hK' K hHeld
        have hHeld := hHeld2
        clear hHeld2
        try simp only [Act.put, List.setIfInBounds_toArray]
        refine wpAnyH_done (by kernel_rfl) ?_ _
        clear s1 s2 s3 HG hHeld
        go_wp2_with fail
        go_roundw
        case rel => exact ⟨k + 1, _, by omega, by go_num, by rw [addD_succ, HSS.out, HZ.out, HM9.out]; exact K11.sel [1, 2, 0, 3] 99 (by decide) (by decide)⟩
        case measure => simp [intOf]; omega
    · have i1 : ¬ (k : Int) < (xs.length : Int) := by omega
      obtain rfl : k = xs.length := by omega
      obtain ⟨A0, c0, rfl⟩ := row_form hK.at0
      have HL1 := Lib.hid (addD_len b xs ys xs.length)
      rw [addD_len] at hK
      have hce : (cs.map (Value.int .i64))[xs.length]? = some (.int .i64 (carK b xs ys xs.length)) := by rw [← hcg]; simp [hcl]
      obtain ⟨cr, hcr⟩ : ∃ y, carK b xs ys xs.length = y := ⟨_, rfl⟩
      rw [hcr] at hce
      have HCE := Lib.hid hce
      have HCR := Lib.hid hcr
      clear hcg hcl hce hcr hrx hry
      try rw [addD_len]
      have i3 : (xs.length : Int) < (xs.length : Int) + 1 := by omega
      have i4 : (0 : Int) ≤ (xs.length : Int) := by omega
      go_wp2_with fail
      clear x0 x1 y0 y1
      have HF := Lib.hid (fun W (h : Kn w [.row (.slice (some ⟨gc, 0, none⟩) (xs.length + 1) fc) 2 1 (xs.length + 1) (cs.map (Value.int .i64)), .blk gO [.int .i64 b, .slice A0 xs.length c0] 26] W) => And.intro (box2 (h.front 1 rfl)) (And.intro (HX.out W h.below).1.2 (Kn.rowCell h HCE.out).1))
      have HG := Lib.hid (HF.out _ ((hK.drew).sel [1, 2] 99 (by decide) (by decide)))
      have K9 := ((hK.front 3 rfl).st 0 (.int .i64 b)).st 1 (.slice A0 xs.length c0)
      have HT := Lib.hid (HF.out _ ((K9.drew).sel [2, 3] 99 (by decide) (by decide)))
      have HT2 := Lib.hid (HF.out _ (K9.sel [2, 3] 99 (by decide) (by decide)))
      obtain ⟨a1, a2, a3, -⟩ := (hK.front 3 rfl).cells
      go_region_held3 (fun W => (W.cell? ⟨gO, 0, none⟩ = some (.int .i64 b) ∧ W.cell? ⟨gO, 1, none⟩ = some (.slice A0 xs.length c0)) ∧ W.cell? ⟨g1, 1, none⟩ = some (.slice XA xs.length xc) ∧ W.cell? ⟨gc, xs.length, none⟩ = some (.int .i64 cr)) (first | with_reducible exact HG.out | with_reducible exact HT.out | with_reducible exact HT2.out) (fail)
      all_goals
        clear HG HT HT2 HF
        go_wp2_with fail
        first
          | (refine bodyPost.kn K9 ?_; clear K9; intro w9 K9)
          | (refine bodyPost.kn K9.drew ?_; clear K9; intro w9 K9)
        clear a1 a2 a3
        obtain ⟨a1, a2, a3, -⟩ := K9.cells
        refine bodyPost_ret (v := .tuple #[.agg #[.int .i64 b, .slice A0 xs.length c0], .int .i64 cr]) (by simp [results, Tryd.results135, go_sem, a1]) rfl ?_
        rw [HCR.out]
        exact ⟨A0, c0, rfl, by unfold rowI; rw [HL1.out]; exact K9.sel [1] 99 (by decide) (by decide)⟩
end Go.Proofs.YtafnebpbfmbgiaaDoor

namespace Go.Proofs.YtafnebpbfmbgiaaDoor
open Go.RowKit Go.Sort
theorem twoC_zero {b : Int} {xs ys : List Int} (h1 : vreg b xs = true) (h2 : vreg b ys = true) (hl : xs.length = ys.length) : twoC b xs b ys = 0 := by
  simp [twoC, h1, h2, hl]
set_option maxRecDepth 100000 in
set_option maxHeartbeats 3200000 in
theorem specAddRegisters_ok (b : Int) (XA : Option Addr) (xc : Nat) (xs : List Int) (YA : Option Addr) (yc : Nat) (ys : List Int) (w : World) (hx : RI w XA xs.length xs) (hy : RI w YA ys.length ys) (hv1 : vreg b xs = true) (hv2 : vreg b ys = true) (hl : xs.length = ys.length) (hp : pw b xs.length ≤ 1000000000001) :
    Calls Tryd.prog 42 #[.agg #[.int .i64 b, .slice XA xs.length xc], .agg #[.int .i64 b, .slice YA ys.length yc]] w (R3Ret b (addD b xs ys xs.length) (carK b xs ys xs.length) w) := by
  obtain ⟨⟨b1, b2⟩, ⟨n1, n2⟩, hdx, -⟩ := vreg_iff.1 hv1
  have hdy := (vreg_iff.1 hv2).2.2.1
  have HTW := Lib.hid (fun g1 g2 W (h1 : RegB W g1 b XA xc xs) (h2 : RegB W g2 b YA yc ys) => by
    have h := l02Two_any g1 g2 b XA xc xs b YA yc ys W h1 h2 (by omega) (by omega)
    rw [twoC_zero hv1 hv2 hl] at h
    exact h)
  have HAD := Lib.hid (fun g1 g2 W (h1 : RegB W g1 b XA xc xs) (h2 : RegB W g2 b YA yc ys) => l02Add_any g1 g2 b XA xc xs YA yc ys W h1 h2 b1 b2 hdx hdy hl n2)
  have hva := add_vreg b1 b2 ys n1 n2 hp
  have hal := addD_len b xs ys xs.length
  obtain ⟨ss, hss⟩ : ∃ s, addD b xs ys xs.length = s := ⟨_, rfl⟩
  obtain ⟨cr, hcr⟩ : ∃ s, carK b xs ys xs.length = s := ⟨_, rfl⟩
  rw [hss] at hva hal
  rw [hss, hcr] at HAD ⊢
  unfold R3Ret
  have HAL := Lib.hid hal
  have HOK := Lib.hid (fun (p : Addr) (E : Option Addr) ec W (hq : RegAt W p b E ss.length ec) (h : RI W E ss.length ss) => by
    have h := l02Ok_any p b E ss.length ec ss W hq h (by omega)
    rw [hva] at h
    exact h)
  have HX := Lib.hid (fun W (hW : Below w.heap.size w W) => hx.below hW)
  have HY := Lib.hid (fun W (hW : Below w.heap.size w W) => hy.below hW)
  clear hss hcr hal hva hdx hdy hv1 hv2 hl hp hx hy
  obtain ⟨g1, hg1⟩ : ∃ g, w.heap.size = g := ⟨_, rfl⟩
  have K0 := (((Kn.nil w).al [.int .i64 b, .slice XA xs.length xc] 26).al [.int .i64 b, .slice YA ys.length yc] 26).al [.int .i64 0, .slice none 0 0] 26
  simp only [World.size_alloc, hg1] at K0
  have HRX := Lib.hid (fun W (K : Kn w [.blk (g1 + 1 + 1) [.int .i64 0, .slice none 0 0] 26, .blk (g1 + 1) [.int .i64 b, .slice YA ys.length yc] 26, .blk g1 [.int .i64 b, .slice XA xs.length xc] 26] W) => (show RegB W g1 b XA xc xs from ⟨box2 (K.front 2 rfl), HX.out _ K.below⟩))
  have HRY := Lib.hid (fun W (K : Kn w [.blk (g1 + 1 + 1) [.int .i64 0, .slice none 0 0] 26, .blk (g1 + 1) [.int .i64 b, .slice YA ys.length yc] 26, .blk g1 [.int .i64 b, .slice XA xs.length xc] 26] W) => (show RegB W (g1 + 1) b YA yc ys from ⟨box2 (K.front 1 rfl), HY.out _ K.below⟩))
  rw [← hg1] at *
  go_enter Tryd.func42, Tryd.ntmps42
  go_wp2_with (first
    | (go_at_call 134; refine Calls.kn K0 ?_; intro w1 K1; refine (HTW.out _ _ _ (HRX.out _ K1) (HRY.out _ K1)).mono ?_; rintro e w2 ⟨rfl, hw⟩; have K2 := K1.keep hw; clear hw K1; obtain ⟨a1, a2, a3, c1, c2, c3, d1, d2, d3, -⟩ := K2.cells)
    | (go_at_call 135; refine (HAD.out _ _ _ (HRX.out _ K2) (HRY.out _ K2)).mono ?_; rintro e w3 ⟨E, ec, rfl, hK⟩; have K3 := K2.join hK; clear hK a1 a2 a3 c1 c2 c3 d1 d2 d3))
  obtain ⟨gs, hgs⟩ : ∃ g, w3.heap.size = g := ⟨_, rfl⟩
  obtain ⟨n, hn⟩ : ∃ n, xs.length = n := ⟨_, rfl⟩
  have hrow := (K3.front 0 rfl).riv
  unfold rowI at K3
  rw [HAL.out, hn] at K3
  rw [hn] at HAL
  try rw [hn]
  have hA2 := HAL.out
  rw [hA2] at HOK hrow
  clear hA2
  have K4 := K3.al [.int .i64 b, .slice E n ec] 26
  rw [hgs] at K4
  try rw [hgs]
  refine Calls.kn K4 ?_; clear K3 K4 hgs; intro w4 K4
  refine (HOK.out _ E ec _ (box2 (K4.front 0 rfl)) (by have h := (K4.front 1 rfl).ownI.ri; exact h)).mono ?_
  rintro e w5 ⟨rfl, m, rfl⟩
  have K5 := K4.keep (drewN_below m)
  clear K4 K0
  obtain ⟨p1, p2, p3, q1, q2, q3, -⟩ := K5.cells
  obtain ⟨r1, r2, r3, -⟩ := (K5.front 2 rfl).cells
  go_wp2_with fail
  have K7 := ((K5.front 2 rfl).st 0 (.int .i64 b)).st 1 (.slice E n ec)
  refine bodyPost.kn K7 ?_; intro w9 K9
  clear p1 p2 p3 q1 q2 q3 r1 r2 r3
  obtain ⟨a1, a2, a3, -⟩ := K9.cells
  refine bodyPost_ret (v := .tuple #[.agg #[.int .i64 b, .slice E n ec], .int .i64 cr, .int .i64 0]) (by simp [results, Tryd.results42, go_sem, a1]) rfl ⟨E, ec, by rw [HAL.out], ?_⟩
  unfold rowI
  rw [HAL.out]
  exact K9.sel [2] 99 (by decide) (by decide)
/-! the sum of a row of digits with faults -/
theorem sumL_vreg {b : Int} {xs ys : List Int} {fs : List Flt} (hb : 2 ≤ b) (hb16 : b ≤ 16) (hdx : Digs b xs) (hdy : Digs b ys) (n1 : 1 ≤ xs.length) (n2 : xs.length ≤ 16) (hp : pw b xs.length ≤ 1000000000001) : vreg b (sumL b xs ys fs xs.length) = true := by
  refine vreg_short hb hb16 ?_ (by rw [sumL_len]; exact n1) (by rw [sumL_len]; exact n2) (by rw [sumL_len]; exact hp)
  intro d hd
  obtain ⟨k, -, rfl⟩ := List.mem_map.1 hd
  have h1 := hdx.at hb k
  have h2 := hdy.at hb k
  have h3 := carryAt_bd b xs ys fs k
  unfold sumD
  rw [Int.tmod_eq_emod_of_nonneg (by omega)]
  exact ⟨Int.emod_nonneg _ (by omega), Int.emod_lt_of_pos _ (by omega)⟩
theorem cstep_none {b t c : Int} (hb : 2 ≤ b) (ht : 0 ≤ t) (hc : 0 ≤ c) (hc1 : c ≤ 1) (ht2 : t + c < 2 * b) : cstep b t c 0 = (t + c) / b := by
  unfold cstep
  rw [if_neg (by decide), if_neg (by decide), if_neg (by decide)]
  split
  · exact (Int.ediv_eq_zero_of_lt (by omega) (by omega)).symm
  · have e : t + c = (t + c - b) + 1 * b := by omega
    rw [e, Int.add_mul_ediv_right _ _ (by omega), Int.ediv_eq_zero_of_lt (by omega) (by omega)]
    rfl
theorem carryAt_none {b : Int} {xs ys : List Int} (hb : 2 ≤ b) (hdx : Digs b xs) (hdy : Digs b ys) (k : Nat) : carryAt b xs ys [] k = carK b xs ys k := by
  induction k with
  | zero => rfl
  | succ k ih =>
    have h1 := hdx.at hb k
    have h2 := hdy.at hb k
    have h3 := carryAt_bd b xs ys [] k
    rw [carryAt, carK, ← ih]
    exact cstep_none hb (by omega) h3.1 h3.2 (by omega)
theorem sumL_none {b : Int} {xs ys : List Int} (hb : 2 ≤ b) (hdx : Digs b xs) (hdy : Digs b ys) (n : Nat) : sumL b xs ys [] n = addD b xs ys n := by
  unfold sumL addD
  refine List.map_congr_left fun k _ => ?_
  have h1 := hdx.at hb k
  have h2 := hdy.at hb k
  have h3 := carryAt_bd b xs ys [] k
  unfold sumD sumK
  rw [Int.tmod_eq_emod_of_nonneg (by omega), carryAt_none hb hdx hdy]
end Go.Proofs.YtafnebpbfmbgiaaDoor

namespace Go.Proofs.YtafnebpbfmbgiaaDoor
open Go.RowKit Go.Sort
set_option maxRecDepth 100000 in
set_option maxHeartbeats 3200000 in
theorem AddWithFaults_ok (b : Int) (XA : Option Addr) (xc : Nat) (xs : List Int) (YA : Option Addr) (yc : Nat) (ys : List Int) (FA : Option Addr) (m fc : Nat) (fs : List Flt) (w : World) (hx : RI w XA xs.length xs) (hy : RI w YA ys.length ys) (hr : RL FltM 2 w FA m fs) (hv1 : vreg b xs = true) (hv2 : vreg b ys = true) (hl : xs.length = ys.length) (hp : pw b xs.length ≤ 1000000000001) (hg : GoodF xs.length fs) (ha : Asc fs) (hm : m ≤ 1000000) :
    Calls Tryd.prog 43 #[.agg #[.int .i64 b, .slice XA xs.length xc], .agg #[.int .i64 b, .slice YA ys.length yc], .slice FA m fc] w (R3Ret b (sumL b xs ys fs xs.length) (carryAt b xs ys fs xs.length) w) := by
  obtain ⟨⟨b1, b2⟩, ⟨n1, n2⟩, hdx, -⟩ := vreg_iff.1 hv1
  have hdy := (vreg_iff.1 hv2).2.2.1
  have KP := Lib.hid (fun W (hW : Below w.heap.size w W) => pairCode_ok b XA xc xs YA yc ys W (hx.below hW) (hy.below hW) hv1 hv2 hl)
  have KV := Lib.hid (fun W (hW : Below w.heap.size w W) => ValidFaults_true xs.length FA m fc fs W (hr.below steady_FltM hW) hg ha n1 n2 hm)
  have KA := Lib.hid (fun W (hW : Below w.heap.size w W) => addedWith_any ⟨b, xs⟩ ⟨b, ys⟩ XA YA xc yc FA m fc fs W (hx.below hW) (hy.below hW) (hr.below steady_FltM hW) hl n2 b1 b2 hdx hdy hg hm)
  have hva := sumL_vreg (fs := fs) b1 b2 hdx hdy n1 n2 hp
  have hal := sumL_len b xs ys fs xs.length
  dsimp only at KA
  obtain ⟨ss, hss⟩ : ∃ s, sumL b xs ys fs xs.length = s := ⟨_, rfl⟩
  obtain ⟨cr, hcr⟩ : ∃ s, carryAt b xs ys fs xs.length = s := ⟨_, rfl⟩
  rw [hss] at hva hal
  rw [hss, hcr] at KA ⊢
  unfold R3Ret
  rw [hal]
  have HAL := Lib.hid hal
  have KW := Lib.hid (fun (E : Option Addr) ec W (h : RI W E ss.length ss) => whole_ok b cr E ec ss W h hva)
  rw [hal] at KW
  clear hss hcr hal hva hdx hdy hv1 hv2 hl hp hx hy hr hg ha hm
  obtain ⟨g1, hg1⟩ : ∃ g, w.heap.size = g := ⟨_, rfl⟩
  have K0 := (((Kn.nil w).al [.int .i64 b, .slice XA xs.length xc] 26).al [.int .i64 b, .slice YA ys.length yc] 26).al [.int .i64 0, .slice none 0 0] 26
  simp only [World.size_alloc, hg1] at K0
  obtain ⟨n, hn⟩ : ∃ n, xs.length = n := ⟨_, rfl⟩
  rw [hn] at KP KV KA KW K0 HAL ⊢
  clear hn
  go_enter Tryd.func43, Tryd.ntmps43
  go_wp2_with (first
    | (go_at_call 118; refine Calls.kn K0 ?_; intro w1 K1; refine (KP.out _ K1.below).mono ?_; rintro e w2 ⟨rfl, hw⟩; have K2 := K1.keep hw; clear hw K1; obtain ⟨a1, a2, a3, c1, c2, c3, d1, d2, d3, -⟩ := K2.cells)
    | (go_at_call 121; (with_reducible refine (width_any _ _ _ _ _).mono ?_); rintro e w3 ⟨rfl, hw⟩; have K3 := K2.keep hw; clear hw K2)
    | (go_at_call 45; refine (KV.out _ K3.below).mono ?_; rintro e w4 ⟨rfl, hw⟩; have K4 := K3.keep hw; clear hw K3 a1 a2 a3 c1 c2 c3 d1 d2 d3; obtain ⟨a1, a2, a3, c1, c2, c3, d1, d2, d3, -⟩ := K4.cells)
    | (go_at_call 127; refine (KA.out _ K4.below).mono ?_; rintro e w5 ⟨E, ec, rfl, hO, hw⟩; have K5 := K4.addI hw hO; rw [HAL.out] at K5; clear hw K4 a1 a2 a3 c1 c2 c3 d1 d2 d3)
    | (go_at_call 120; refine (KW.out E ec _ (by have h := (K5.front 0 rfl).ownI.ri; exact h)).mono ?_; rintro e w6 ⟨rfl, hw⟩; have K6 := K5.keep hw; clear hw K5; obtain ⟨a1, a2, a3, c1, c2, c3, d1, d2, d3, -⟩ := K6.cells))
  have K7 := ((K6.front 1 rfl).st 0 (.int .i64 b)).st 1 (.slice E n ec)
  refine bodyPost.kn K7 ?_; intro w9 K9
  clear a1 a2 a3 c1 c2 c3 d1 d2 d3
  obtain ⟨a1, a2, a3, -⟩ := K9.cells
  refine bodyPost_ret (v := .tuple #[.agg #[.int .i64 b, .slice E n ec], .int .i64 cr, .int .i64 0]) (by simp [results, Tryd.results43, go_sem, a1]) rfl ⟨E, ec, by rfl, ?_⟩
  unfold rowI
  rw [HAL.out]
  exact K9.sel [1] 99 (by decide) (by decide)
/-! equal registers, whatever they are -/
theorem specSameRegister_any (r s : Reg) (A B : Option Addr) (c d : Nat) (w : World) (hr : RI w A r.digits.length r.digits) (hs : RI w B s.digits.length s.digits) (hm : SmallReg r) (hm2 : SmallReg s) :
    Calls Tryd.prog 27 #[.agg #[.int .i64 r.base, .slice A r.digits.length c], .agg #[.int .i64 s.base, .slice B s.digits.length d]] w fun e w' => e = .returned (.bool (sameR r s)) ∧ Below w.heap.size w w' := by
  have HR := Lib.hid (fun W (hW : Below w.heap.size w W) => hr.below hW)
  have HS := Lib.hid (fun W (hW : Below w.heap.size w W) => hs.below hW)
  have HM := Lib.hid hm
  have HM2 := Lib.hid hm2
  clear hr hs hm hm2
  go_enter Tryd.func27, Tryd.ntmps27
  go_wp2_with fail
  refine Calls.kn (((Kn.nil w).al [.int .i64 r.base, .slice A r.digits.length c] 26).al [.int .i64 s.base, .slice B s.digits.length d] 26) ?_; intro w1 K1
  simp only [World.size_alloc] at K1
  refine (l02Same_any ⟨w.heap.size, 0, none⟩ ⟨w.heap.size + 1, 0, none⟩ r s w1 ⟨A, c, box2 (K1.front 1 rfl), HR.out _ K1.below⟩ ⟨B, d, box2 (K1.front 0 rfl), HS.out _ K1.below⟩ HM.out HM2.out).mono ?_
  rintro e w2 ⟨rfl, q, rfl⟩
  have K2 := K1.drewN q
  go_wp2_with fail
  go_ret
  exact ⟨rfl, K2.below⟩
/-- the sum of levers differs from the true sum -/
def showsB (ss ts : List Int) (c d : Int) : Bool := !(decide (ss = ts)) || !(decide (c = d))
set_option maxRecDepth 100000 in
set_option maxHeartbeats 3200000 in
theorem ShowsFaults_ok (b : Int) (XA : Option Addr) (xc : Nat) (xs : List Int) (YA : Option Addr) (yc : Nat) (ys : List Int) (FA : Option Addr) (m fc : Nat) (fs : List Flt) (w : World) (hx : RI w XA xs.length xs) (hy : RI w YA ys.length ys) (hr : RL FltM 2 w FA m fs) (hv1 : vreg b xs = true) (hv2 : vreg b ys = true) (hl : xs.length = ys.length) (hp : pw b xs.length ≤ 1000000000001) (hg : GoodF xs.length fs) (ha : Asc fs) (hm : m ≤ 1000000) :
    Calls Tryd.prog 44 #[.agg #[.int .i64 b, .slice XA xs.length xc], .agg #[.int .i64 b, .slice YA ys.length yc], .slice FA m fc] w fun e w' => e = .returned (.bool (showsB (sumL b xs ys fs xs.length) (addD b xs ys xs.length) (carryAt b xs ys fs xs.length) (carK b xs ys xs.length))) ∧ Below w.heap.size w w' := by
  have KF := Lib.hid (fun W (hW : Below w.heap.size w W) => AddWithFaults_ok b XA xc xs YA yc ys FA m fc fs W (hx.below hW) (hy.below hW) (hr.below steady_FltM hW) hv1 hv2 hl hp hg ha hm)
  have KT := Lib.hid (fun W (hW : Below w.heap.size w W) => AddRegisters_ok b XA xc xs YA yc ys W (hx.below hW) (hy.below hW) hv1 hv2 hl hp)
  have hal := sumL_len b xs ys fs xs.length
  have hbl := addD_len b xs ys xs.length
  have hn2 := (vreg_iff.1 hv1).2.1.2
  unfold R3Ret at KF KT
  obtain ⟨ss, hss⟩ : ∃ s, sumL b xs ys fs xs.length = s := ⟨_, rfl⟩
  obtain ⟨cr, hcr⟩ : ∃ s, carryAt b xs ys fs xs.length = s := ⟨_, rfl⟩
  obtain ⟨ts, hts⟩ : ∃ s, addD b xs ys xs.length = s := ⟨_, rfl⟩
  obtain ⟨ct, hct⟩ : ∃ s, carK b xs ys xs.length = s := ⟨_, rfl⟩
  rw [hss, hcr] at KF
  rw [hts, hct] at KT
  rw [hss] at hal ⊢
  rw [hts] at hbl ⊢
  rw [hcr, hct]
  have KS := Lib.hid (fun (E F : Option Addr) (ec fc : Nat) W (h1 : RI W E ss.length ss) (h2 : RI W F ts.length ts) => SameRegister_any ⟨b, ss⟩ ⟨b, ts⟩ E F ec fc W h1 h2 (by unfold SmallReg; dsimp only; omega) (by unfold SmallReg; dsimp only; omega))
  clear hss hcr hts hct hv1 hv2 hl hp hx hy hr hg ha hm hal hbl hn2
  obtain ⟨g1, hg1⟩ : ∃ g, w.heap.size = g := ⟨_, rfl⟩
  have K0 := ((Kn.nil w).al [.int .i64 b, .slice XA xs.length xc] 26).al [.int .i64 b, .slice YA ys.length yc] 26
  simp only [World.size_alloc, hg1] at K0
  have hsame : sameR ⟨b, ss⟩ ⟨b, ts⟩ = decide (ss = ts) := by simp [sameR]
  rw [hsame] at KS
  clear hsame
  have hsh : showsB ss ts cr ct = (!(decide (ss = ts)) || !(decide (cr = ct))) := rfl
  rw [hsh]
  clear hsh
  obtain ⟨q, hq⟩ : ∃ q, decide (ss = ts) = q := ⟨_, rfl⟩
  rw [hq] at KS ⊢
  clear hq
  go_enter Tryd.func44, Tryd.ntmps44
  go_wp2_with (first
    | (go_at_call 43; refine Calls.kn K0 ?_; intro w1 K1; refine (KF.out _ K1.below).mono ?_; rintro e w2 ⟨E, ec, rfl, hK⟩; have K2 := K1.join hK; clear hK K1; obtain ⟨a1, a2, a3, -⟩ := (K2.front 1 rfl).cells; obtain ⟨c1, c2, c3, -⟩ := (K2.front 2 rfl).cells))
  obtain ⟨gs, hgs⟩ : ∃ g, w2.heap.size = g := ⟨_, rfl⟩
  have K3 := K2.al [.int .i64 b, .slice E ss.length ec] 26
  rw [hgs] at K3
  try rw [hgs]
  refine Calls.kn K3 ?_; clear K2 K3 K0 hgs a1 a2 a3 c1 c2 c3; intro w3 K3
  refine (KT.out _ K3.below).mono ?_
  rintro e w4 ⟨F, gc, rfl, hK⟩
  have K4 := K3.join hK
  clear hK K3
  obtain ⟨a1, a2, a3, -⟩ := (K4.front 1 rfl).cells
  obtain ⟨gt, hgt⟩ : ∃ g, w4.heap.size = g := ⟨_, rfl⟩
  have K5 := K4.al [.int .i64 b, .slice F ts.length gc] 26
  rw [hgt] at K5
  go_upto_region 3 with fail
  try rw [hgt]
  refine Code.wp.kn K5 ?_; clear K4 K5 hgt a1 a2 a3; intro w5 K6
  obtain ⟨a1, a2, a3, -⟩ := K6.cells
  obtain ⟨c1, c2, c3, -⟩ := (K6.front 2 rfl).cells
  by_cases hcc : cr = ct <;> cases q
  all_goals
    go_wp2_with (go_at_call 136; refine (KS.out E F ec gc _ (by have h := (K6.front 3 rfl).ownI.ri; exact h) (by have h := (K6.front 1 rfl).ownI.ri; exact h)).mono ?_; rintro e w7 ⟨rfl, hw⟩; have K7 := K6.keep hw)
    go_ret
    refine ⟨?_, K7.below⟩
    simp [hcc]
end Go.Proofs.YtafnebpbfmbgiaaDoor

namespace Go.Proofs.YtafnebpbfmbgiaaDoor
open Go.RowKit Go.Sort
def cellsFl (xs : List Flt) : List Value := xs.flatMap fun x => [.int .i64 x.kind, .int .i64 x.lever]
theorem cellsFl_len (xs : List Flt) : (cellsFl xs).length = xs.length * 2 := by
  induction xs with
  | nil => rfl
  | cons x xs ih => unfold cellsFl at *; rw [List.flatMap_cons, List.length_append, ih]; simp; omega
theorem cellsFl_snoc (xs : List Flt) (x : Flt) : cellsFl (xs ++ [x]) = cellsFl xs ++ [.int .i64 x.kind, .int .i64 x.lever] := by simp [cellsFl]
theorem cellsFl_get : ∀ (xs : List Flt) (k : Nat) (h : k < xs.length), (cellsFl xs)[k * 2]? = some (.int .i64 xs[k].kind) ∧ (cellsFl xs)[k * 2 + 1]? = some (.int .i64 xs[k].lever)
  | [], k, h => by simp at h
  | x :: xs, 0, h => by simp [cellsFl]
  | x :: xs, k + 1, h => by
    have h1 := cellsFl_get xs k (by simpa using h)
    have h2 : cellsFl (x :: xs) = .int .i64 x.kind :: .int .i64 x.lever :: cellsFl xs := by simp [cellsFl]
    rw [h2, show (k + 1) * 2 = k * 2 + 1 + 1 by omega]
    simp only [List.getElem?_cons_succ, List.getElem_cons_succ]
    exact h1
theorem cellsFl_one (xs : List Flt) : ∀ u ∈ cellsFl xs, u.oneCell' = true := by
  intro u hu
  obtain ⟨x, -, h⟩ := List.mem_flatMap.1 hu
  simp at h
  rcases h with rfl | rfl <;> rfl
def rowFl (v : Value) (xs : List Flt) : Ent := .row v 71 2 xs.length (cellsFl xs)
theorem tpFl : TP 60 71 (.agg #[.int .i64 0, .int .i64 0]) 2 16 := ⟨Tryd.underlying60, by kernel_rfl, rfl, by decide⟩
theorem Kn.rlFl {w0 w : World} {m : List Ent} {A : Option Addr} {n c : Nat} {xs : List Flt} (h : Kn w0 (rowFl (.slice A n c) xs :: m) w) : n = xs.length ∧ RL FltM 2 w A n xs := by
  have h0 : w.ownsRow 0 71 2 (.slice A n c) xs.length (cellsFl xs) := h.at0
  rcases h0.2 with ⟨hv, hn⟩ | ⟨g, cap, cur, hv, -, hg, -⟩
  · injection hv with h1 h2 h3
    exact ⟨by omega, by omega, fun h => by omega⟩
  · injection hv with h1 h2 h3
    refine ⟨h2, h2.symm, fun h => ⟨_, h1, (Array.getElem?_eq_some_iff.1 hg).1, fun k hk => ?_⟩⟩
    obtain ⟨c1, c2⟩ := cellsFl_get xs k hk
    rw [h1] at h0
    have d1 := h0.cells (g := g) rfl _ _ c1
    have d2 := h0.cells (g := g) rfl _ _ c2
    refine ⟨d1, ?_⟩
    rw [add_zero_block] at d2 ⊢
    exact d2
theorem Kn.nilFl {w0 w : World} {m : List Ent} (h : Kn w0 m w) : Kn w0 (rowFl (.slice none 0 0) [] :: m) w := h.nilRow _ _
def rowFlN (A : Option Addr) (n c : Nat) (xs : List Flt) : Ent := .row (.slice A n c) 71 2 n (cellsFl xs)
theorem Kn.rlFlN {w0 w : World} {m : List Ent} {A : Option Addr} {n c : Nat} {xs : List Flt} (h : Kn w0 (rowFlN A n c xs :: m) w) (hl : xs.length = n) : RL FltM 2 w A n xs := by
  subst hl
  exact (Kn.rlFl (m := m) h).2
/-- drawn faults -/
def DFlt (b M n : Nat) (w : World) (e : Ending) (w' : World) : Prop := ∃ (A : Option Addr) (c : Nat) (fs : List Flt), e = .returned (.slice A fs.length c) ∧ fs.length ≤ n ∧ GoodF n fs ∧ Asc fs ∧ DR b M w [rowFl (.slice A fs.length c) fs] w'
theorem Asc.snoc {fs : List Flt} {f : Flt} (h : Asc fs) (hf : ∀ x ∈ fs, x.lever < f.lever) : Asc (fs ++ [f]) := by
  intro k hk
  simp only [List.length_append, List.length_cons, List.length_nil] at hk
  by_cases hl : k + 1 < fs.length
  · rw [List.getElem_append_left (by omega), List.getElem_append_left hl]
    exact h k hl
  · have he : k + 1 = fs.length := by omega
    rw [List.getElem_append_left (by omega)]
    have : (fs ++ [f])[k + 1]'(by simp; omega) = f := by
      rw [List.getElem_append_right (by omega)]; simp [he]
    rw [this]
    exact hf _ (List.getElem_mem _)
theorem GoodF.snoc {n k : Nat} {fs : List Flt} {f : Flt} (h : GoodF k fs) (hk : k < n) (h1 : 1 ≤ f.kind) (h2 : f.kind ≤ 3) (h3 : f.lever = k) : GoodF (k + 1) (fs ++ [f]) := by
  intro x hx
  rcases List.mem_append.1 hx with hx | hx
  · obtain ⟨a, b, c, d⟩ := h x hx
    exact ⟨a, b, c, by omega⟩
  · rw [List.mem_singleton.1 hx]
    exact ⟨h1, h2, by omega, by omega⟩
theorem GoodF.up {n k : Nat} {fs : List Flt} (h : GoodF k fs) (hk : k ≤ n) : GoodF n fs := fun x hx => by
  obtain ⟨a, b, c, d⟩ := h x hx
  exact ⟨a, b, c, by omega⟩
set_option maxRecDepth 100000 in
set_option maxHeartbeats 1600000 in
theorem l08Draw_dr (b N n : Nat) (w : World) (h : Src w b N) (hN : N ≤ 600000) (hn : n ≤ 1000) :
    Calls Tryd.prog 125 #[.pointer (some ⟨b, 0, none⟩), .int .i64 (n : Int)] w (DFlt b (N + n * 4) n w) := by
  unfold DFlt
  have D0 := DR.nil h
  clear h
  go_enter Tryd.func125, Tryd.ntmps125
  go_upto_region 2 with fail
  refine Code.wp.dr (D0.al [] 71) ?_; intro w1 D1
  obtain ⟨g, hg⟩ : ∃ g, w.heap.size = g := ⟨_, rfl⟩
  rw [hg] at D1
  try rw [hg]
  have D2 : DR b _ w [rowFl (.slice (some ⟨g, 0, none⟩) 0 0) []] w1 := D1.kn (fun v hK => hK.litRow (size := 2) (n := 0) rfl (by decide))
  clear D0 D1 hg
  go_wp2_with fail
  go_loopw [5, 6] (fun ll kk wr => ∃ (k : Nat) (vv : Value) (fs : List Flt), kk = .int .i64 (k : Int) ∧ k ≤ n ∧ fs.length ≤ k ∧ GoodF k fs ∧ Asc fs ∧ vv = ll ∧ DR b (N + k * 4) w [rowFl vv fs] wr) (fun _ kk _ => n - (intOf kk).toNat)
  case atStart => exact ⟨0, _, [], rfl, by omega, Nat.le_refl _, (fun _ h => by cases h), (fun k h => by cases h), rfl, D2.mono (by omega)⟩
  case round =>
    obtain ⟨k, vv, fs, rfl, hk, hl, hgf, has, rfl, D⟩ := hrel
    clear D2
    by_cases hkn : k < n
    · have hk1 : (k : Int) < (n : Int) := by omega
      go_wp2_with fail
      refine (one_dr b _ 4 wr D.src (by omega)).mono ?_; rintro e w5 ⟨x, rfl, h5⟩
      have D5 : DR b _ w [rowFl vv fs] w5 := D.add h5
      clear D h5
      cases x
      · go_wp2_with fail
        go_roundw
        case rel => exact ⟨k + 1, _, fs, by go_num, by omega, by omega, hgf.up (by omega), has, rfl, D5.mono (by omega)⟩
        case measure => simp [intOf]; omega
      · go_wp2_with fail
        refine (pick_dr b _ 3 w5 D5.src (by omega)).mono ?_; rintro e w6 ⟨y, rfl, hy, h6⟩
        obtain ⟨v, hT, hS, hK⟩ : DR b _ w [rowFl vv fs] w6 := D5.add h6
        clear D5 h6
        have hy1 : 0 ≤ y ∧ y ≤ 2 := ⟨hy.1, by rcases hy.2 with h | h <;> omega⟩
        clear hy
        obtain ⟨z, hz⟩ : ∃ z, 1 + y = z := ⟨_, rfl⟩
        have hz1 : 1 ≤ z ∧ z ≤ 3 := by omega
        have hzw : IntKind.i64.wrap (1 + y) = z := by rw [wrapI64 (by omega)]; exact hz
        clear hz hy1
        unfold rowFl at hK
        go_wp2_with (at_builtin; refine kn_app tpFl rfl _ _ rfl _ fs.length (cellsFl fs) rfl rfl (hK.al [.int .i64 z, .int .i64 (k : Int)] 71) rfl (by simp [Value.oneCell']) (by omega) (by omega) ?_; intro v5 w7 hK9)
        go_roundw
        case rel => exact ⟨k + 1, v5, fs ++ [⟨z, k⟩], by go_num, by omega, by simp; omega, hgf.snoc hkn hz1.1 hz1.2 rfl, has.snoc (fun x hx => (hgf x hx).2.2.2), rfl, v, hT, hS.mono (by omega), by unfold rowFl; rw [cellsFl_snoc, List.length_append]; exact hK9⟩
        case measure => simp [intOf]; omega
    · have hk1 : ¬ (k : Int) < (n : Int) := by omega
      have hkk : k = n := by omega
      subst hkk
      obtain ⟨v, hT, hS, hK⟩ := D
      obtain ⟨A5, c5, rfl⟩ := row_form hK.at0
      go_wp2_with fail
      go_ret
      exact ⟨A5, c5, fs, rfl, hl, hgf, has, v, hT, hS, hK⟩
end Go.Proofs.YtafnebpbfmbgiaaDoor

namespace Go.Proofs.YtafnebpbfmbgiaaDoor
open Go.RowKit Go.Sort
set_option maxRecDepth 100000 in
set_option maxHeartbeats 1600000 in
theorem A2Faults_any (A : Option Addr) (n c m : Nat) (bs : List UInt8) (w : World) (hb : RB w A n bs) (hn : n ≤ 9223372036854775807) (hm : m ≤ 1000) :
    Calls Tryd.prog 35 #[.slice A n c, .int .i64 (m : Int)] w fun e w' => ∃ (B : Option Addr) (k : Nat) (fs : List Flt), e = .returned (.slice B fs.length k) ∧ fs.length ≤ m ∧ GoodF m fs ∧ Asc fs ∧ Kn w [rowFl (.slice B fs.length k) fs] w' := by
  go_enter Tryd.func35, Tryd.ntmps35
  go_wp2_with fail
  refine (l00From_any A n c bs w hb hn).mono ?_; rintro e w2 ⟨rfl, hs, hb2⟩
  have KD := l08Draw_dr _ _ m w2 hs (by omega) hm
  unfold DFlt at KD
  go_wp2_with fail
  refine KD.mono ?_; rintro e w3 ⟨B, k, fs, rfl, hl, hg, ha, h3⟩
  have K3 := Kn.ofDR hb2 (Nat.le_refl _) h3
  go_wp2_with fail
  go_ret
  exact ⟨B, k, fs, rfl, hl, hg, ha, K3⟩
end Go.Proofs.YtafnebpbfmbgiaaDoor

namespace Go.Proofs.YtafnebpbfmbgiaaDoor
open Go.RowKit Go.Sort
theorem faultNames_any (w : World) : Calls Tryd.prog 138 #[] w fun e w' => ∃ g, e = .returned (.slice (some ⟨g, 0, none⟩) 4 4) ∧ Kn w [.blk g [.string ⟨#[]⟩, .string ⟨#[109, 105, 115, 115, 105, 110, 103]⟩, .string ⟨#[115, 116, 117, 99, 107]⟩, .string ⟨#[108, 97, 116, 101]⟩] 9] w' := by
  go_enter Tryd.func138, Tryd.ntmps138
  go_wp2
  refine bodyPost.kn ((Kn.nil w).al [.string ⟨#[]⟩, .string ⟨#[109, 105, 115, 115, 105, 110, 103]⟩, .string ⟨#[115, 116, 117, 99, 107]⟩, .string ⟨#[108, 97, 116, 101]⟩] 9) ?_; intro w1 K1
  go_ret
  exact ⟨_, rfl, K1⟩
def nameF (k : Int) : List UInt8 := if k = 1 then [109, 105, 115, 115, 105, 110, 103] else if k = 2 then [115, 116, 117, 99, 107] else [108, 97, 116, 101]
theorem cat3 (A B : ByteArray) (l : List UInt8) : A ++ B ++ ⟨l.toArray⟩ = ⟨(A.data.toList ++ B.data.toList ++ l).toArray⟩ := by
  apply ByteArray.ext
  simp [ByteArray.data_append]
def textF (f : Flt) : List UInt8 := nameF f.kind ++ [32] ++ dec f.lever
set_option maxRecDepth 100000 in
set_option maxHeartbeats 1600000 in
theorem FaultText_ok (f : Flt) (w : World) (h1 : 1 ≤ f.kind) (h2 : f.kind ≤ 3) (h3 : 0 ≤ f.lever) (h4 : f.lever < 16) (ht : TB w) :
    Calls Tryd.prog 47 #[.agg #[.int .i64 f.kind, .int .i64 f.lever]] w fun e w' => e = .returned (.string ⟨(textF f).toArray⟩) ∧ Below w.heap.size w w' := by
  have KI := Lib.hid (fun W => isFault_any 16 f W (by omega) h1 h2 h3 h4)
  obtain ⟨k, l⟩ := f
  dsimp only at *
  obtain ⟨g, hg⟩ : ∃ g, w.heap.size = g := ⟨_, rfl⟩
  have K0 := (Kn.nil w).al [.int .i64 k, .int .i64 l] 71
  rw [hg] at K0
  obtain ⟨T, hT⟩ : ∃ T : ByteArray, ⟨(dec l).toArray⟩ = T := ⟨_, rfl⟩
  have KD := Lib.hid (fun W (hW : TB W) => by
    have h := Decimal_any l W (by omega) (by omega) hW
    rw [hT] at h
    exact h)
  have hTs : T.size ≤ 21 := by
    rw [← hT]
    show (dec l).toArray.size ≤ 21
    rw [List.size_toArray]
    exact dec_len l (by omega) (by omega)
  have HTT := Lib.hid hT
  clear hT
  have HTB := Lib.hid (fun W (hW : Below w.heap.size w W) => ht.below hW)
  go_enter Tryd.func47, Tryd.ntmps47
  go_wp2_with (first
    | (go_at_call 137; refine Calls.kn K0 ?_; intro w1 K1; refine (KI.out _).mono ?_; rintro e w2 ⟨rfl, hw⟩; have K2 := K1.keep hw; clear hw K1; obtain ⟨a1, a2, a3, -⟩ := K2.cells))
  have hk : k = 1 ∨ k = 2 ∨ k = 3 := by omega
  have HF := Lib.hid (fun (W : World) (h : Kn w [.blk g [.int .i64 k, .int .i64 l] 71] W) => box2 h)
  clear a1 a2 a3 K0
  rcases hk with rfl | rfl | rfl
  · skip
    have hcat : ¬ 9223372036854775807 < 8 + T.size := by omega
    have HG := Lib.hid (HF.out _ K2.drew)
    refine wp_region_held_drew (S := fun W => W.cell? ⟨g, 0, none⟩ = some (.int .i64 1) ∧ W.cell? ⟨g, 1, none⟩ = some (.int .i64 l)) (by kernel_rfl) ?_ (fun hHeld => ?_)
    · exact HG.out
    try dsimp only
    have hKd := K2.drew
    generalize w2.drew = wd at hKd HG hHeld ⊢
    refine wpAnyH_take (i := 1) (v := ?_) rfl (by kernel_rfl) (by kernel_rfl) (by kernel_rfl) (fun _ _ _ h => h) (Or.inl ⟨by rfl, ?_⟩) hHeld ?_
    rotate_left
    · (intro w hSw; (try dsimp only at hSw); go_simp; try with_reducible rfl)
    try simp only [Act.put, List.setIfInBounds_toArray, List.set_cons_zero, List.set_cons_succ, List.getElem_toArray, List.getElem_cons_succ, List.getElem_cons_zero]
    refine wpAnyH_take (i := 2) (v := ?_) rfl (by kernel_rfl) (by kernel_rfl) (by kernel_rfl) (fun _ _ _ h => h) (Or.inl ⟨by rfl, ?_⟩) hHeld ?_
    rotate_left
    · (intro w hSw; (try dsimp only at hSw); go_simp; try with_reducible rfl)
    try simp only [Act.put, List.setIfInBounds_toArray, List.set_cons_zero, List.set_cons_succ, List.getElem_toArray, List.getElem_cons_succ, List.getElem_cons_zero]
    refine wpAnyH_take (i := 6) (v := ?_) rfl (by kernel_rfl) (by kernel_rfl) (by kernel_rfl) (fun _ _ _ h => h) (Or.inl ⟨by rfl, ?_⟩) hHeld ?_
    rotate_left
    · (intro w hSw; (try dsimp only at hSw); go_simp; try with_reducible rfl)
    try simp only [Act.put, List.setIfInBounds_toArray, List.set_cons_zero, List.set_cons_succ, List.getElem_toArray, List.getElem_cons_succ, List.getElem_cons_zero]
    refine wpAnyH_take (i := 7) (v := ?_) rfl (by kernel_rfl) (by kernel_rfl) (by kernel_rfl) (fun _ _ _ h => h) (Or.inl ⟨by rfl, ?_⟩) hHeld ?_
    rotate_left
    · (intro w hSw; (try dsimp only at hSw); go_simp; try with_reducible rfl)
    try simp only [Act.put, List.setIfInBounds_toArray, List.set_cons_zero, List.set_cons_succ, List.getElem_toArray, List.getElem_cons_succ, List.getElem_cons_zero]
    refine wpAnyH_ready (rs := [0]) (by kernel_rfl) (by decide) (AllReadyH.cons (o := _) rfl (fun K hK' => ?_) AllReadyH.nil)
    go_simp
    go_at_call 138
    refine (faultNames_any _).mono ?_
    rintro e w3 ⟨gn, rfl, hK⟩
    have K3 := hKd.join hK
    clear hK HG
    have HG3 := Lib.hid (HF.out _ (K3.drop))
    obtain ⟨a1, a2, a3, -⟩ := K3.cells
    refine hK'.out _ _ HG3.out (fun hHeld2 => ?_)
    clear hK' K hHeld
    have hHeld := hHeld2
    clear hHeld2
    try simp only [Act.put, List.setIfInBounds_toArray]
    refine wpAnyH_take (i := 3) (v := ?_) rfl (by kernel_rfl) (by kernel_rfl) (by kernel_rfl) (fun _ _ _ h => h) (Or.inl ⟨by rfl, ?_⟩) hHeld ?_
    rotate_left
    · (intro w hSw; (try dsimp only at hSw); go_simp; try with_reducible rfl)
    try simp only [Act.put, List.setIfInBounds_toArray, List.set_cons_zero, List.set_cons_succ, List.getElem_toArray, List.getElem_cons_succ, List.getElem_cons_zero]
    refine wpAnyH_ready (rs := [4, 8]) (by kernel_rfl) (by decide) (AllReadyH.cons (o := _) rfl (fun K hK' => ?_) (AllReadyH.cons (o := _) rfl (fun K hK' => ?_) AllReadyH.nil))
    · go_simp
      refine hK'.out _ _ HG3.out (fun hHeld2 => ?_)
      clear hK' K hHeld
      have hHeld := hHeld2
      clear hHeld2
      try simp only [Act.put, List.setIfInBounds_toArray]
      refine wpAnyH_take (i := 5) (v := ?_) rfl (by kernel_rfl) (by kernel_rfl) (by kernel_rfl) (fun _ _ _ h => h) (Or.inl ⟨by rfl, ?_⟩) hHeld ?_
      rotate_left
      · (intro w hSw; (try dsimp only at hSw); go_simp; try with_reducible rfl)
      try simp only [Act.put, List.setIfInBounds_toArray, List.set_cons_zero, List.set_cons_succ, List.getElem_toArray, List.getElem_cons_succ, List.getElem_cons_zero]
      refine wpAnyH_ready (rs := [8]) (by kernel_rfl) (by decide) (AllReadyH.cons (o := _) rfl (fun K hK' => ?_) AllReadyH.nil)
      go_simp
      go_at_call 116
      refine (KD.out _ (HTB.out _ K3.below)).mono ?_
      rintro e w4 ⟨rfl, hw⟩
      have K4 := K3.keep hw
      clear hw
      have HG4 := Lib.hid (HF.out _ K4.drop)
      refine hK'.out _ _ HG4.out (fun hHeld2 => ?_)
      clear hK' K hHeld
      have hHeld := hHeld2
      clear hHeld2
      try simp only [Act.put, List.setIfInBounds_toArray]
      refine wpAnyH_take (i := 9) (v := ?_) rfl (by kernel_rfl) (by kernel_rfl) (by kernel_rfl) (fun _ _ _ h => h) (Or.inl ⟨by rfl, ?_⟩) hHeld ?_
      rotate_left
      · (intro w hSw; (try dsimp only at hSw); go_simp; try with_reducible rfl)
      try simp only [Act.put, List.setIfInBounds_toArray, List.set_cons_zero, List.set_cons_succ, List.getElem_toArray, List.getElem_cons_succ, List.getElem_cons_zero]
      refine wpAnyH_take (i := 10) (v := ?_) rfl (by kernel_rfl) (by kernel_rfl) (by kernel_rfl) (fun _ _ _ h => h) (Or.inl ⟨by rfl, ?_⟩) hHeld ?_
      rotate_left
      · (intro w hSw; (try dsimp only at hSw); go_simp; try with_reducible rfl)
      try simp only [Act.put, List.setIfInBounds_toArray, List.set_cons_zero, List.set_cons_succ, List.getElem_toArray, List.getElem_cons_succ, List.getElem_cons_zero]
      refine wpAnyH_done (by kernel_rfl) ?_ _
      go_wp2_with fail
      go_ret
      refine ⟨?_, K4.below⟩
      exact congrArg (fun s => Ending.returned (Value.string s)) (by rw [← HTT.out, cat3]; rfl)
    · skip
      go_simp
      go_at_call 116
      refine (KD.out _ (HTB.out _ K3.below)).mono ?_
      rintro e w4 ⟨rfl, hw⟩
      have K4 := K3.keep hw
      clear hw
      have HG4 := Lib.hid (HF.out _ K4.drop)
      refine hK'.out _ _ HG4.out (fun hHeld2 => ?_)
      clear hK' K hHeld
      have hHeld := hHeld2
      clear hHeld2
      try simp only [Act.put, List.setIfInBounds_toArray]
      clear a1 a2 a3
      obtain ⟨a1, a2, a3, -⟩ := K4.cells
      refine wpAnyH_ready (rs := [4]) (by kernel_rfl) (by decide) (AllReadyH.cons (o := _) rfl (fun K hK' => ?_) AllReadyH.nil)
      go_simp
      refine hK'.out _ _ HG4.out (fun hHeld2 => ?_)
      clear hK' K hHeld
      have hHeld := hHeld2
      clear hHeld2
      try simp only [Act.put, List.setIfInBounds_toArray]
      refine wpAnyH_take (i := 5) (v := ?_) rfl (by kernel_rfl) (by kernel_rfl) (by kernel_rfl) (fun _ _ _ h => h) (Or.inl ⟨by rfl, ?_⟩) hHeld ?_
      rotate_left
      · (intro w hSw; (try dsimp only at hSw); go_simp; try with_reducible rfl)
      try simp only [Act.put, List.setIfInBounds_toArray, List.set_cons_zero, List.set_cons_succ, List.getElem_toArray, List.getElem_cons_succ, List.getElem_cons_zero]
      refine wpAnyH_take (i := 9) (v := ?_) rfl (by kernel_rfl) (by kernel_rfl) (by kernel_rfl) (fun _ _ _ h => h) (Or.inl ⟨by rfl, ?_⟩) hHeld ?_
      rotate_left
      · (intro w hSw; (try dsimp only at hSw); go_simp; try with_reducible rfl)
      try simp only [Act.put, List.setIfInBounds_toArray, List.set_cons_zero, List.set_cons_succ, List.getElem_toArray, List.getElem_cons_succ, List.getElem_cons_zero]
      refine wpAnyH_take (i := 10) (v := ?_) rfl (by kernel_rfl) (by kernel_rfl) (by kernel_rfl) (fun _ _ _ h => h) (Or.inl ⟨by rfl, ?_⟩) hHeld ?_
      rotate_left
      · (intro w hSw; (try dsimp only at hSw); go_simp; try with_reducible rfl)
      try simp only [Act.put, List.setIfInBounds_toArray, List.set_cons_zero, List.set_cons_succ, List.getElem_toArray, List.getElem_cons_succ, List.getElem_cons_zero]
      refine wpAnyH_done (by kernel_rfl) ?_ _
      go_wp2_with fail
      go_ret
      refine ⟨?_, K4.below⟩
      exact congrArg (fun s => Ending.returned (Value.string s)) (by rw [← HTT.out, cat3]; rfl)
  · skip
    have hcat : ¬ 9223372036854775807 < 6 + T.size := by omega
    have HG := Lib.hid (HF.out _ K2.drew)
    refine wp_region_held_drew (S := fun W => W.cell? ⟨g, 0, none⟩ = some (.int .i64 2) ∧ W.cell? ⟨g, 1, none⟩ = some (.int .i64 l)) (by kernel_rfl) ?_ (fun hHeld => ?_)
    · exact HG.out
    try dsimp only
    have hKd := K2.drew
    generalize w2.drew = wd at hKd HG hHeld ⊢
    refine wpAnyH_take (i := 1) (v := ?_) rfl (by kernel_rfl) (by kernel_rfl) (by kernel_rfl) (fun _ _ _ h => h) (Or.inl ⟨by rfl, ?_⟩) hHeld ?_
    rotate_left
    · (intro w hSw; (try dsimp only at hSw); go_simp; try with_reducible rfl)
    try simp only [Act.put, List.setIfInBounds_toArray, List.set_cons_zero, List.set_cons_succ, List.getElem_toArray, List.getElem_cons_succ, List.getElem_cons_zero]
    refine wpAnyH_take (i := 2) (v := ?_) rfl (by kernel_rfl) (by kernel_rfl) (by kernel_rfl) (fun _ _ _ h => h) (Or.inl ⟨by rfl, ?_⟩) hHeld ?_
    rotate_left
    · (intro w hSw; (try dsimp only at hSw); go_simp; try with_reducible rfl)
    try simp only [Act.put, List.setIfInBounds_toArray, List.set_cons_zero, List.set_cons_succ, List.getElem_toArray, List.getElem_cons_succ, List.getElem_cons_zero]
    refine wpAnyH_take (i := 6) (v := ?_) rfl (by kernel_rfl) (by kernel_rfl) (by kernel_rfl) (fun _ _ _ h => h) (Or.inl ⟨by rfl, ?_⟩) hHeld ?_
    rotate_left
    · (intro w hSw; (try dsimp only at hSw); go_simp; try with_reducible rfl)
    try simp only [Act.put, List.setIfInBounds_toArray, List.set_cons_zero, List.set_cons_succ, List.getElem_toArray, List.getElem_cons_succ, List.getElem_cons_zero]
    refine wpAnyH_take (i := 7) (v := ?_) rfl (by kernel_rfl) (by kernel_rfl) (by kernel_rfl) (fun _ _ _ h => h) (Or.inl ⟨by rfl, ?_⟩) hHeld ?_
    rotate_left
    · (intro w hSw; (try dsimp only at hSw); go_simp; try with_reducible rfl)
    try simp only [Act.put, List.setIfInBounds_toArray, List.set_cons_zero, List.set_cons_succ, List.getElem_toArray, List.getElem_cons_succ, List.getElem_cons_zero]
    refine wpAnyH_ready (rs := [0]) (by kernel_rfl) (by decide) (AllReadyH.cons (o := _) rfl (fun K hK' => ?_) AllReadyH.nil)
    go_simp
    go_at_call 138
    refine (faultNames_any _).mono ?_
    rintro e w3 ⟨gn, rfl, hK⟩
    have K3 := hKd.join hK
    clear hK HG
    have HG3 := Lib.hid (HF.out _ (K3.drop))
    obtain ⟨a1, a2, a3, -⟩ := K3.cells
    refine hK'.out _ _ HG3.out (fun hHeld2 => ?_)
    clear hK' K hHeld
    have hHeld := hHeld2
    clear hHeld2
    try simp only [Act.put, List.setIfInBounds_toArray]
    refine wpAnyH_take (i := 3) (v := ?_) rfl (by kernel_rfl) (by kernel_rfl) (by kernel_rfl) (fun _ _ _ h => h) (Or.inl ⟨by rfl, ?_⟩) hHeld ?_
    rotate_left
    · (intro w hSw; (try dsimp only at hSw); go_simp; try with_reducible rfl)
    try simp only [Act.put, List.setIfInBounds_toArray, List.set_cons_zero, List.set_cons_succ, List.getElem_toArray, List.getElem_cons_succ, List.getElem_cons_zero]
    refine wpAnyH_ready (rs := [4, 8]) (by kernel_rfl) (by decide) (AllReadyH.cons (o := _) rfl (fun K hK' => ?_) (AllReadyH.cons (o := _) rfl (fun K hK' => ?_) AllReadyH.nil))
    · go_simp
      refine hK'.out _ _ HG3.out (fun hHeld2 => ?_)
      clear hK' K hHeld
      have hHeld := hHeld2
      clear hHeld2
      try simp only [Act.put, List.setIfInBounds_toArray]
      refine wpAnyH_take (i := 5) (v := ?_) rfl (by kernel_rfl) (by kernel_rfl) (by kernel_rfl) (fun _ _ _ h => h) (Or.inl ⟨by rfl, ?_⟩) hHeld ?_
      rotate_left
      · (intro w hSw; (try dsimp only at hSw); go_simp; try with_reducible rfl)
      try simp only [Act.put, List.setIfInBounds_toArray, List.set_cons_zero, List.set_cons_succ, List.getElem_toArray, List.getElem_cons_succ, List.getElem_cons_zero]
      refine wpAnyH_ready (rs := [8]) (by kernel_rfl) (by decide) (AllReadyH.cons (o := _) rfl (fun K hK' => ?_) AllReadyH.nil)
      go_simp
      go_at_call 116
      refine (KD.out _ (HTB.out _ K3.below)).mono ?_
      rintro e w4 ⟨rfl, hw⟩
      have K4 := K3.keep hw
      clear hw
      have HG4 := Lib.hid (HF.out _ K4.drop)
      refine hK'.out _ _ HG4.out (fun hHeld2 => ?_)
      clear hK' K hHeld
      have hHeld := hHeld2
      clear hHeld2
      try simp only [Act.put, List.setIfInBounds_toArray]
      refine wpAnyH_take (i := 9) (v := ?_) rfl (by kernel_rfl) (by kernel_rfl) (by kernel_rfl) (fun _ _ _ h => h) (Or.inl ⟨by rfl, ?_⟩) hHeld ?_
      rotate_left
      · (intro w hSw; (try dsimp only at hSw); go_simp; try with_reducible rfl)
      try simp only [Act.put, List.setIfInBounds_toArray, List.set_cons_zero, List.set_cons_succ, List.getElem_toArray, List.getElem_cons_succ, List.getElem_cons_zero]
      refine wpAnyH_take (i := 10) (v := ?_) rfl (by kernel_rfl) (by kernel_rfl) (by kernel_rfl) (fun _ _ _ h => h) (Or.inl ⟨by rfl, ?_⟩) hHeld ?_
      rotate_left
      · (intro w hSw; (try dsimp only at hSw); go_simp; try with_reducible rfl)
      try simp only [Act.put, List.setIfInBounds_toArray, List.set_cons_zero, List.set_cons_succ, List.getElem_toArray, List.getElem_cons_succ, List.getElem_cons_zero]
      refine wpAnyH_done (by kernel_rfl) ?_ _
      go_wp2_with fail
      go_ret
      refine ⟨?_, K4.below⟩
      exact congrArg (fun s => Ending.returned (Value.string s)) (by rw [← HTT.out, cat3]; rfl)
    · skip
      go_simp
      go_at_call 116
      refine (KD.out _ (HTB.out _ K3.below)).mono ?_
      rintro e w4 ⟨rfl, hw⟩
      have K4 := K3.keep hw
      clear hw
      have HG4 := Lib.hid (HF.out _ K4.drop)
      refine hK'.out _ _ HG4.out (fun hHeld2 => ?_)
      clear hK' K hHeld
      have hHeld := hHeld2
      clear hHeld2
      try simp only [Act.put, List.setIfInBounds_toArray]
      clear a1 a2 a3
      obtain ⟨a1, a2, a3, -⟩ := K4.cells
      refine wpAnyH_ready (rs := [4]) (by kernel_rfl) (by decide) (AllReadyH.cons (o := _) rfl (fun K hK' => ?_) AllReadyH.nil)
      go_simp
      refine hK'.out _ _ HG4.out (fun hHeld2 => ?_)
      clear hK' K hHeld
      have hHeld := hHeld2
      clear hHeld2
      try simp only [Act.put, List.setIfInBounds_toArray]
      refine wpAnyH_take (i := 5) (v := ?_) rfl (by kernel_rfl) (by kernel_rfl) (by kernel_rfl) (fun _ _ _ h => h) (Or.inl ⟨by rfl, ?_⟩) hHeld ?_
      rotate_left
      · (intro w hSw; (try dsimp only at hSw); go_simp; try with_reducible rfl)
      try simp only [Act.put, List.setIfInBounds_toArray, List.set_cons_zero, List.set_cons_succ, List.getElem_toArray, List.getElem_cons_succ, List.getElem_cons_zero]
      refine wpAnyH_take (i := 9) (v := ?_) rfl (by kernel_rfl) (by kernel_rfl) (by kernel_rfl) (fun _ _ _ h => h) (Or.inl ⟨by rfl, ?_⟩) hHeld ?_
      rotate_left
      · (intro w hSw; (try dsimp only at hSw); go_simp; try with_reducible rfl)
      try simp only [Act.put, List.setIfInBounds_toArray, List.set_cons_zero, List.set_cons_succ, List.getElem_toArray, List.getElem_cons_succ, List.getElem_cons_zero]
      refine wpAnyH_take (i := 10) (v := ?_) rfl (by kernel_rfl) (by kernel_rfl) (by kernel_rfl) (fun _ _ _ h => h) (Or.inl ⟨by rfl, ?_⟩) hHeld ?_
      rotate_left
      · (intro w hSw; (try dsimp only at hSw); go_simp; try with_reducible rfl)
      try simp only [Act.put, List.setIfInBounds_toArray, List.set_cons_zero, List.set_cons_succ, List.getElem_toArray, List.getElem_cons_succ, List.getElem_cons_zero]
      refine wpAnyH_done (by kernel_rfl) ?_ _
      go_wp2_with fail
      go_ret
      refine ⟨?_, K4.below⟩
      exact congrArg (fun s => Ending.returned (Value.string s)) (by rw [← HTT.out, cat3]; rfl)
  · skip
    have hcat : ¬ 9223372036854775807 < 5 + T.size := by omega
    have HG := Lib.hid (HF.out _ K2.drew)
    refine wp_region_held_drew (S := fun W => W.cell? ⟨g, 0, none⟩ = some (.int .i64 3) ∧ W.cell? ⟨g, 1, none⟩ = some (.int .i64 l)) (by kernel_rfl) ?_ (fun hHeld => ?_)
    · exact HG.out
    try dsimp only
    have hKd := K2.drew
    generalize w2.drew = wd at hKd HG hHeld ⊢
    refine wpAnyH_take (i := 1) (v := ?_) rfl (by kernel_rfl) (by kernel_rfl) (by kernel_rfl) (fun _ _ _ h => h) (Or.inl ⟨by rfl, ?_⟩) hHeld ?_
    rotate_left
    · (intro w hSw; (try dsimp only at hSw); go_simp; try with_reducible rfl)
    try simp only [Act.put, List.setIfInBounds_toArray, List.set_cons_zero, List.set_cons_succ, List.getElem_toArray, List.getElem_cons_succ, List.getElem_cons_zero]
    refine wpAnyH_take (i := 2) (v := ?_) rfl (by kernel_rfl) (by kernel_rfl) (by kernel_rfl) (fun _ _ _ h => h) (Or.inl ⟨by rfl, ?_⟩) hHeld ?_
    rotate_left
    · (intro w hSw; (try dsimp only at hSw); go_simp; try with_reducible rfl)
    try simp only [Act.put, List.setIfInBounds_toArray, List.set_cons_zero, List.set_cons_succ, List.getElem_toArray, List.getElem_cons_succ, List.getElem_cons_zero]
    refine wpAnyH_take (i := 6) (v := ?_) rfl (by kernel_rfl) (by kernel_rfl) (by kernel_rfl) (fun _ _ _ h => h) (Or.inl ⟨by rfl, ?_⟩) hHeld ?_
    rotate_left
    · (intro w hSw; (try dsimp only at hSw); go_simp; try with_reducible rfl)
    try simp only [Act.put, List.setIfInBounds_toArray, List.set_cons_zero, List.set_cons_succ, List.getElem_toArray, List.getElem_cons_succ, List.getElem_cons_zero]
    refine wpAnyH_take (i := 7) (v := ?_) rfl (by kernel_rfl) (by kernel_rfl) (by kernel_rfl) (fun _ _ _ h => h) (Or.inl ⟨by rfl, ?_⟩) hHeld ?_
    rotate_left
    · (intro w hSw; (try dsimp only at hSw); go_simp; try with_reducible rfl)
    try simp only [Act.put, List.setIfInBounds_toArray, List.set_cons_zero, List.set_cons_succ, List.getElem_toArray, List.getElem_cons_succ, List.getElem_cons_zero]
    refine wpAnyH_ready (rs := [0]) (by kernel_rfl) (by decide) (AllReadyH.cons (o := _) rfl (fun K hK' => ?_) AllReadyH.nil)
    go_simp
    go_at_call 138
    refine (faultNames_any _).mono ?_
    rintro e w3 ⟨gn, rfl, hK⟩
    have K3 := hKd.join hK
    clear hK HG
    have HG3 := Lib.hid (HF.out _ (K3.drop))
    obtain ⟨a1, a2, a3, -⟩ := K3.cells
    refine hK'.out _ _ HG3.out (fun hHeld2 => ?_)
    clear hK' K hHeld
    have hHeld := hHeld2
    clear hHeld2
    try simp only [Act.put, List.setIfInBounds_toArray]
    refine wpAnyH_take (i := 3) (v := ?_) rfl (by kernel_rfl) (by kernel_rfl) (by kernel_rfl) (fun _ _ _ h => h) (Or.inl ⟨by rfl, ?_⟩) hHeld ?_
    rotate_left
    · (intro w hSw; (try dsimp only at hSw); go_simp; try with_reducible rfl)
    try simp only [Act.put, List.setIfInBounds_toArray, List.set_cons_zero, List.set_cons_succ, List.getElem_toArray, List.getElem_cons_succ, List.getElem_cons_zero]
    refine wpAnyH_ready (rs := [4, 8]) (by kernel_rfl) (by decide) (AllReadyH.cons (o := _) rfl (fun K hK' => ?_) (AllReadyH.cons (o := _) rfl (fun K hK' => ?_) AllReadyH.nil))
    · go_simp
      refine hK'.out _ _ HG3.out (fun hHeld2 => ?_)
      clear hK' K hHeld
      have hHeld := hHeld2
      clear hHeld2
      try simp only [Act.put, List.setIfInBounds_toArray]
      refine wpAnyH_take (i := 5) (v := ?_) rfl (by kernel_rfl) (by kernel_rfl) (by kernel_rfl) (fun _ _ _ h => h) (Or.inl ⟨by rfl, ?_⟩) hHeld ?_
      rotate_left
      · (intro w hSw; (try dsimp only at hSw); go_simp; try with_reducible rfl)
      try simp only [Act.put, List.setIfInBounds_toArray, List.set_cons_zero, List.set_cons_succ, List.getElem_toArray, List.getElem_cons_succ, List.getElem_cons_zero]
      refine wpAnyH_ready (rs := [8]) (by kernel_rfl) (by decide) (AllReadyH.cons (o := _) rfl (fun K hK' => ?_) AllReadyH.nil)
      go_simp
      go_at_call 116
      refine (KD.out _ (HTB.out _ K3.below)).mono ?_
      rintro e w4 ⟨rfl, hw⟩
      have K4 := K3.keep hw
      clear hw
      have HG4 := Lib.hid (HF.out _ K4.drop)
      refine hK'.out _ _ HG4.out (fun hHeld2 => ?_)
      clear hK' K hHeld
      have hHeld := hHeld2
      clear hHeld2
      try simp only [Act.put, List.setIfInBounds_toArray]
      refine wpAnyH_take (i := 9) (v := ?_) rfl (by kernel_rfl) (by kernel_rfl) (by kernel_rfl) (fun _ _ _ h => h) (Or.inl ⟨by rfl, ?_⟩) hHeld ?_
      rotate_left
      · (intro w hSw; (try dsimp only at hSw); go_simp; try with_reducible rfl)
      try simp only [Act.put, List.setIfInBounds_toArray, List.set_cons_zero, List.set_cons_succ, List.getElem_toArray, List.getElem_cons_succ, List.getElem_cons_zero]
      refine wpAnyH_take (i := 10) (v := ?_) rfl (by kernel_rfl) (by kernel_rfl) (by kernel_rfl) (fun _ _ _ h => h) (Or.inl ⟨by rfl, ?_⟩) hHeld ?_
      rotate_left
      · (intro w hSw; (try dsimp only at hSw); go_simp; try with_reducible rfl)
      try simp only [Act.put, List.setIfInBounds_toArray, List.set_cons_zero, List.set_cons_succ, List.getElem_toArray, List.getElem_cons_succ, List.getElem_cons_zero]
      refine wpAnyH_done (by kernel_rfl) ?_ _
      go_wp2_with fail
      go_ret
      refine ⟨?_, K4.below⟩
      exact congrArg (fun s => Ending.returned (Value.string s)) (by rw [← HTT.out, cat3]; rfl)
    · skip
      go_simp
      go_at_call 116
      refine (KD.out _ (HTB.out _ K3.below)).mono ?_
      rintro e w4 ⟨rfl, hw⟩
      have K4 := K3.keep hw
      clear hw
      have HG4 := Lib.hid (HF.out _ K4.drop)
      refine hK'.out _ _ HG4.out (fun hHeld2 => ?_)
      clear hK' K hHeld
      have hHeld := hHeld2
      clear hHeld2
      try simp only [Act.put, List.setIfInBounds_toArray]
      clear a1 a2 a3
      obtain ⟨a1, a2, a3, -⟩ := K4.cells
      refine wpAnyH_ready (rs := [4]) (by kernel_rfl) (by decide) (AllReadyH.cons (o := _) rfl (fun K hK' => ?_) AllReadyH.nil)
      go_simp
      refine hK'.out _ _ HG4.out (fun hHeld2 => ?_)
      clear hK' K hHeld
      have hHeld := hHeld2
      clear hHeld2
      try simp only [Act.put, List.setIfInBounds_toArray]
      refine wpAnyH_take (i := 5) (v := ?_) rfl (by kernel_rfl) (by kernel_rfl) (by kernel_rfl) (fun _ _ _ h => h) (Or.inl ⟨by rfl, ?_⟩) hHeld ?_
      rotate_left
      · (intro w hSw; (try dsimp only at hSw); go_simp; try with_reducible rfl)
      try simp only [Act.put, List.setIfInBounds_toArray, List.set_cons_zero, List.set_cons_succ, List.getElem_toArray, List.getElem_cons_succ, List.getElem_cons_zero]
      refine wpAnyH_take (i := 9) (v := ?_) rfl (by kernel_rfl) (by kernel_rfl) (by kernel_rfl) (fun _ _ _ h => h) (Or.inl ⟨by rfl, ?_⟩) hHeld ?_
      rotate_left
      · (intro w hSw; (try dsimp only at hSw); go_simp; try with_reducible rfl)
      try simp only [Act.put, List.setIfInBounds_toArray, List.set_cons_zero, List.set_cons_succ, List.getElem_toArray, List.getElem_cons_succ, List.getElem_cons_zero]
      refine wpAnyH_take (i := 10) (v := ?_) rfl (by kernel_rfl) (by kernel_rfl) (by kernel_rfl) (fun _ _ _ h => h) (Or.inl ⟨by rfl, ?_⟩) hHeld ?_
      rotate_left
      · (intro w hSw; (try dsimp only at hSw); go_simp; try with_reducible rfl)
      try simp only [Act.put, List.setIfInBounds_toArray, List.set_cons_zero, List.set_cons_succ, List.getElem_toArray, List.getElem_cons_succ, List.getElem_cons_zero]
      refine wpAnyH_done (by kernel_rfl) ?_ _
      go_wp2_with fail
      go_ret
      refine ⟨?_, K4.below⟩
      exact congrArg (fun s => Ending.returned (Value.string s)) (by rw [← HTT.out, cat3]; rfl)
end Go.Proofs.YtafnebpbfmbgiaaDoor

namespace Go.Proofs.YtafnebpbfmbgiaaDoor
open Go.RowKit Go.Sort
theorem arr_of_strB {x : ByteArray} {l : List UInt8} (h : strB x = l) : x = ⟨l.toArray⟩ := by
  subst h
  apply ByteArray.ext
  simp [strB]
theorem cut_text (k : Int) (D : List UInt8) (hk : k = 1 ∨ k = 2 ∨ k = 3) : cutB [32] (nameF k ++ [32] ++ D) = some (nameF k, D) := by
  rcases hk with rfl | rfl | rfl <;> rfl
theorem text_len (f : Flt) (h3 : 0 ≤ f.lever) (h4 : f.lever < 16) : (textF f).length ≤ 40 := by
  have h := dec_len f.lever (by omega) (by omega)
  unfold textF nameF
  simp only [List.length_append]
  split
  · simp; omega
  · split <;> simp <;> omega
set_option maxRecDepth 100000 in
set_option maxHeartbeats 1600000 in
theorem ReadFault_ok (f : Flt) (w : World) (h1 : 1 ≤ f.kind) (h2 : f.kind ≤ 3) (h3 : 0 ≤ f.lever) (h4 : f.lever < 16) (ht : TB w) :
    Calls Tryd.prog 46 #[.string ⟨(textF f).toArray⟩] w fun e w' => e = .returned (.tuple #[.agg #[.int .i64 f.kind, .int .i64 f.lever], .bool true]) ∧ Below w.heap.size w w' := by
  have hlen := text_len f h3 h4
  have HTB := Lib.hid (fun W (hW : Below w.heap.size w W) => ht.below hW)
  have KI := Lib.hid (fun W => isFault_any 16 f W (by omega) h1 h2 h3 h4)
  have hcut := cut_text f.kind (dec f.lever) (by omega)
  have KC := Lib.hid (fun W => by
    have h := cut_any ⟨(textF f).toArray⟩ ⟨#[32]⟩ W (by show (textF f).toArray.size ≤ _; rw [List.size_toArray]; omega) (by decide) (by decide)
    rw [show strB ⟨#[32]⟩ = [32] from rfl, strB_mk, show cutB [32] (textF f) = some (nameF f.kind, dec f.lever) from hcut] at h
    exact h)
  have hX : cutX [32] (textF f) = nameF f.kind := by unfold cutX; rw [show cutB [32] (textF f) = some (nameF f.kind, dec f.lever) from hcut]; rfl
  have hY : cutY [32] (textF f) = dec f.lever := by unfold cutY; rw [show cutB [32] (textF f) = some (nameF f.kind, dec f.lever) from hcut]; rfl
  rw [hX, hY] at KC
  have hdl := dec_len f.lever (by omega) (by omega)
  have KD := Lib.hid (fun (W : World) (hW : TB W) => by
    have h := ReadDecimal_any ⟨(dec f.lever).toArray⟩ W (by show (dec f.lever).toArray.size ≤ _; rw [List.size_toArray]; omega) hW
    rw [strB_mk, (rd_some (rdDec_dec f.lever (by omega))).1, (rd_some (rdDec_dec f.lever (by omega))).2] at h
    exact h)
  clear hX hY hcut hlen hdl
  obtain ⟨S, hS⟩ : ∃ S : ByteArray, ⟨(textF f).toArray⟩ = S := ⟨_, rfl⟩
  rw [hS] at KC ⊢
  clear hS
  obtain ⟨g, hg⟩ : ∃ g, w.heap.size = g := ⟨_, rfl⟩
  have K0 := (Kn.nil w).al [.int .i64 0, .int .i64 0] 71
  rw [hg] at K0
  go_enter Tryd.func46, Tryd.ntmps46
  go_wp2_with (first
    | (go_at_call 114; refine Calls.kn K0 ?_; intro w1 K1; refine (KC.out _).mono ?_; rintro e w2 ⟨x, y, rfl, hx, hy, hw⟩; obtain rfl := arr_of_strB hx; obtain rfl := arr_of_strB hy; have K2 := K1.keep hw; clear hw K1 hx hy)
    | (go_at_call 115; refine (KD.out _ (HTB.out _ K2.below)).mono ?_; rintro e w3 ⟨rfl, hw⟩; have K3 := K2.keep hw; clear hw K2)
    | (go_at_call 138; refine (faultNames_any _).mono ?_; rintro e w4 ⟨gn, rfl, hK⟩; have K4 : Kn w [.blk gn [.string ⟨#[]⟩, .string ⟨#[109, 105, 115, 115, 105, 110, 103]⟩, .string ⟨#[115, 116, 117, 99, 107]⟩, .string ⟨#[108, 97, 116, 101]⟩] 9, .blk g [.int .i64 0, .int .i64 0] 71] w4 := K3.join hK; clear hK K3))
  obtain ⟨kk, l⟩ := f
  dsimp only at *
  have hk : kk = 1 ∨ kk = 2 ∨ kk = 3 := by omega
  clear KC KD HTB K0 hg h1 h2
  have HF := Lib.hid (fun (W : World) (h : Kn w [.blk gn [.string ⟨#[]⟩, .string ⟨#[109, 105, 115, 115, 105, 110, 103]⟩, .string ⟨#[115, 116, 117, 99, 107]⟩, .string ⟨#[108, 97, 116, 101]⟩] 9, .blk g [.int .i64 0, .int .i64 0] 71] W) => box2 (h.front 1 rfl))
  rcases hk with rfl | rfl | rfl
  · try rw [show nameF 1 = [109, 105, 115, 115, 105, 110, 103] from rfl]
    go_loopw [25] (fun ii wr => ∃ k : Nat, k ≤ 1 ∧ ii = .int .i64 (k : Int) ∧ Kn w [.blk gn [.string ⟨#[]⟩, .string ⟨#[109, 105, 115, 115, 105, 110, 103]⟩, .string ⟨#[115, 116, 117, 99, 107]⟩, .string ⟨#[108, 97, 116, 101]⟩] 9, .blk g [.int .i64 0, .int .i64 0] 71] wr) (fun ii _ => 1 - (intOf ii).toNat)
    case atStart => exact ⟨0, by omega, rfl, K4⟩
    case round =>
      clear K4
      obtain ⟨k, hk, rfl, K⟩ := hrel
      rcases (show k = 0 ∨ k = 1 by omega) with rfl | rfl
      · skip
        obtain ⟨a1, a2, a3, b1, b2, b3, -⟩ := K.cells
        go_wp2_with fail
        go_roundw
        case rel => exact ⟨1, by omega, rfl, K.al_ _⟩
        case measure => simp [intOf]
      · skip
        obtain ⟨a1, a2, a3, b1, b2, b3, -⟩ := K.cells
        go_wp2_with fail
        obtain ⟨gs, hgs⟩ : ∃ g, wr.heap.size = g := ⟨_, rfl⟩
        have K5 := K.al [.int .i64 1, .int .i64 l] 71
        rw [hgs] at K5
        try rw [hgs]
        refine Calls.kn K5 ?_; clear K K5 hgs a1 a2 a3 b1 b2 b3; intro w5 K5
        refine (KI.out _).mono ?_
        rintro e w6 ⟨rfl, hw⟩
        have K6 := K5.keep hw
        clear hw K5
        obtain ⟨a1, a2, a3, -⟩ := K6.cells
        obtain ⟨b1, b2, b3, -⟩ := (K6.front 2 rfl).cells
        go_wp2_with fail
        have K7 := ((K6.front 2 rfl).st 0 (.int .i64 1)).st 1 (.int .i64 l)
        refine bodyPost.kn K7 ?_; intro w9 K9
        clear a1 a2 a3 b1 b2 b3
        obtain ⟨a1, a2, a3, -⟩ := K9.cells
        exact bodyPost_ret (v := .tuple #[.agg #[.int .i64 1, .int .i64 l], .bool true]) (by simp [results, Tryd.results46, go_sem, a1]) rfl ⟨rfl, K9.below⟩
  · try rw [show nameF 2 = [115, 116, 117, 99, 107] from rfl]
    go_loopw [25] (fun ii wr => ∃ k : Nat, k ≤ 2 ∧ ii = .int .i64 (k : Int) ∧ Kn w [.blk gn [.string ⟨#[]⟩, .string ⟨#[109, 105, 115, 115, 105, 110, 103]⟩, .string ⟨#[115, 116, 117, 99, 107]⟩, .string ⟨#[108, 97, 116, 101]⟩] 9, .blk g [.int .i64 0, .int .i64 0] 71] wr) (fun ii _ => 2 - (intOf ii).toNat)
    case atStart => exact ⟨0, by omega, rfl, K4⟩
    case round =>
      clear K4
      obtain ⟨k, hk, rfl, K⟩ := hrel
      rcases (show k = 0 ∨ k = 1 ∨ k = 2 by omega) with rfl | rfl | rfl
      · skip
        obtain ⟨a1, a2, a3, b1, b2, b3, -⟩ := K.cells
        go_wp2_with fail
        go_roundw
        case rel => exact ⟨1, by omega, rfl, K.al_ _⟩
        case measure => simp [intOf]
      · skip
        obtain ⟨a1, a2, a3, b1, b2, b3, -⟩ := K.cells
        go_wp2_with fail
        go_roundw
        case rel => exact ⟨2, by omega, rfl, K.al_ _⟩
        case measure => simp [intOf]
      · skip
        obtain ⟨a1, a2, a3, b1, b2, b3, -⟩ := K.cells
        go_wp2_with fail
        obtain ⟨gs, hgs⟩ : ∃ g, wr.heap.size = g := ⟨_, rfl⟩
        have K5 := K.al [.int .i64 2, .int .i64 l] 71
        rw [hgs] at K5
        try rw [hgs]
        refine Calls.kn K5 ?_; clear K K5 hgs a1 a2 a3 b1 b2 b3; intro w5 K5
        refine (KI.out _).mono ?_
        rintro e w6 ⟨rfl, hw⟩
        have K6 := K5.keep hw
        clear hw K5
        obtain ⟨a1, a2, a3, -⟩ := K6.cells
        obtain ⟨b1, b2, b3, -⟩ := (K6.front 2 rfl).cells
        go_wp2_with fail
        have K7 := ((K6.front 2 rfl).st 0 (.int .i64 2)).st 1 (.int .i64 l)
        refine bodyPost.kn K7 ?_; intro w9 K9
        clear a1 a2 a3 b1 b2 b3
        obtain ⟨a1, a2, a3, -⟩ := K9.cells
        exact bodyPost_ret (v := .tuple #[.agg #[.int .i64 2, .int .i64 l], .bool true]) (by simp [results, Tryd.results46, go_sem, a1]) rfl ⟨rfl, K9.below⟩
  · try rw [show nameF 3 = [108, 97, 116, 101] from rfl]
    go_loopw [25] (fun ii wr => ∃ k : Nat, k ≤ 3 ∧ ii = .int .i64 (k : Int) ∧ Kn w [.blk gn [.string ⟨#[]⟩, .string ⟨#[109, 105, 115, 115, 105, 110, 103]⟩, .string ⟨#[115, 116, 117, 99, 107]⟩, .string ⟨#[108, 97, 116, 101]⟩] 9, .blk g [.int .i64 0, .int .i64 0] 71] wr) (fun ii _ => 3 - (intOf ii).toNat)
    case atStart => exact ⟨0, by omega, rfl, K4⟩
    case round =>
      clear K4
      obtain ⟨k, hk, rfl, K⟩ := hrel
      rcases (show k = 0 ∨ k = 1 ∨ k = 2 ∨ k = 3 by omega) with rfl | rfl | rfl | rfl
      · skip
        obtain ⟨a1, a2, a3, b1, b2, b3, -⟩ := K.cells
        go_wp2_with fail
        go_roundw
        case rel => exact ⟨1, by omega, rfl, K.al_ _⟩
        case measure => simp [intOf]
      · skip
        obtain ⟨a1, a2, a3, b1, b2, b3, -⟩ := K.cells
        go_wp2_with fail
        go_roundw
        case rel => exact ⟨2, by omega, rfl, K.al_ _⟩
        case measure => simp [intOf]
      · skip
        obtain ⟨a1, a2, a3, b1, b2, b3, -⟩ := K.cells
        go_wp2_with fail
        go_roundw
        case rel => exact ⟨3, by omega, rfl, K.al_ _⟩
        case measure => simp [intOf]
      · skip
        obtain ⟨a1, a2, a3, b1, b2, b3, -⟩ := K.cells
        go_wp2_with fail
        obtain ⟨gs, hgs⟩ : ∃ g, wr.heap.size = g := ⟨_, rfl⟩
        have K5 := K.al [.int .i64 3, .int .i64 l] 71
        rw [hgs] at K5
        try rw [hgs]
        refine Calls.kn K5 ?_; clear K K5 hgs a1 a2 a3 b1 b2 b3; intro w5 K5
        refine (KI.out _).mono ?_
        rintro e w6 ⟨rfl, hw⟩
        have K6 := K5.keep hw
        clear hw K5
        obtain ⟨a1, a2, a3, -⟩ := K6.cells
        obtain ⟨b1, b2, b3, -⟩ := (K6.front 2 rfl).cells
        go_wp2_with fail
        have K7 := ((K6.front 2 rfl).st 0 (.int .i64 3)).st 1 (.int .i64 l)
        refine bodyPost.kn K7 ?_; intro w9 K9
        clear a1 a2 a3 b1 b2 b3
        obtain ⟨a1, a2, a3, -⟩ := K9.cells
        exact bodyPost_ret (v := .tuple #[.agg #[.int .i64 3, .int .i64 l], .bool true]) (by simp [results, Tryd.results46, go_sem, a1]) rfl ⟨rfl, K9.below⟩
end Go.Proofs.YtafnebpbfmbgiaaDoor

namespace Go.Proofs.YtafnebpbfmbgiaaDoor
open Go.RowKit Go.Sort
theorem pw_seven2 {b : Int} (b1 : 2 ≤ b) (b2 : b ≤ 12) {k : Nat} (hk : k ≤ 7) : pw b k ≤ 35831808 := by
  have h1 := pw_12 b1 b2 k
  have h2 := pw_mono 12 (by omega) k 7 hk
  have h3 : pw 12 7 = 35831808 := by decide
  omega
theorem rlF_nil (w : World) (A : Option Addr) : RL FltM 2 w A 0 [] := ⟨rfl, fun h => by omega⟩
theorem asc_nil : Asc [] := fun k h => by cases h
theorem good_nil (n : Nat) : GoodF n [] := fun f h => by cases h
set_option maxRecDepth 100000 in
set_option maxHeartbeats 12800000 in
theorem law_Levers (A : Option Addr) (n c : Nat) (bs : List UInt8) (A2 : Option Addr) (n2 c2 : Nat) (bs2 : List UInt8) (w : World) (hb : RB w A n bs) (hn : n ≤ 9223372036854775807) (hb2 : RB w A2 n2 bs2) (hn2 : n2 ≤ 9223372036854775807) (ht : TB w) :
    Calls Tryd.prog 6 #[.slice A n c, .slice A2 n2 c2] w fun e w' => e = .returned (.bool true) ∧ Below w.heap.size w w' := by
  have KD := Lib.hid (A2Registers_any A n c bs w hb hn)
  have KE := Lib.hid (fun (m : Nat) (hm : m ≤ 1000) W (hW : Below w.heap.size w W) => A2Faults_any A2 n2 c2 m bs2 W (hb2.below hW) hn2 hm)
  have HTB := Lib.hid (fun W (hW : Below w.heap.size w W) => TB.below ht hW)
  unfold A2R at KD
  clear hb hb2 ht
  have KG := (fun W => a2Long2_any A A2 n c n2 c2 W hn hn2)
  obtain ⟨bg, hbg⟩ : ∃ b, (decide (3000 < n) || decide (3000 < n2)) = b := ⟨_, rfl⟩
  rw [hbg] at KG
  replace KG := Lib.hid KG
  clear hbg
  rcases bg with _ | _
  rotate_left
  · go_enter Tryd.func6, Tryd.ntmps6
    go_wp2_with (go_at_call 11; refine (KG.out _).mono ?_; rintro e w' ⟨rfl, rfl⟩)
    go_ret
    exact ⟨rfl, Below.refl _ _⟩
  go_enter Tryd.func6, Tryd.ntmps6
  go_wp2_with (go_at_call 11; refine (KG.out _).mono ?_; rintro e w' ⟨rfl, rfl⟩)
  refine KD.out.mono ?_; rintro e w1 ⟨b, A, c, ds, B, k, es, rfl, ⟨⟨b1, b2⟩, ⟨n1, n3⟩, hl, hda, hde⟩, K1⟩
  clear KD
  have hp7 := pw_seven2 b1 b2 n3
  have hp : pw b ds.length ≤ 1000000000001 := by omega
  have hv1 : vreg b ds = true := vreg_short b1 (by omega) hda n1 (by omega) hp
  have hv2 : vreg b es = true := vreg_short b1 (by omega) hde (by omega) (by omega) (by rw [hl]; exact hp)
  have hsl := addD_len b ds es ds.length
  have K3a := (fun W r1 r2 => specAddRegisters_ok b A c ds B k es W r1 r2 hv1 hv2 hl.symm hp)
  have K5a := (fun X xc W r1 r2 => AddWithFaults_ok b A c ds B k es X 0 xc [] W r1 r2 (rlF_nil W X) hv1 hv2 hl.symm hp (good_nil _) asc_nil (by omega))
  have K6a := (fun X xc W r1 r2 => ShowsFaults_ok b A c ds B k es X 0 xc [] W r1 r2 (rlF_nil W X) hv1 hv2 hl.symm hp (good_nil _) asc_nil (by omega))
  rw [sumL_none b1 hda hde, carryAt_none b1 hda hde] at K5a K6a
  rw [show showsB (addD b ds es ds.length) (addD b ds es ds.length) (carK b ds es ds.length) (carK b ds es ds.length) = false by simp [showsB]] at K6a
  have K9a := (fun X m xc fs W r1 r2 r3 hg ha hm => AddWithFaults_ok b A c ds B k es X m xc fs W r1 r2 r3 hv1 hv2 hl.symm hp hg ha hm)
  have K10a := (fun X m xc fs W r1 r2 r3 hg ha hm => ShowsFaults_ok b A c ds B k es X m xc fs W r1 r2 r3 hv1 hv2 hl.symm hp hg ha hm)
  have hsll := fun fs => sumL_len b ds es fs ds.length
  obtain ⟨SF, hSF⟩ : ∃ S : List Flt → List Int, (fun fs => sumL b ds es fs ds.length) = S := ⟨_, rfl⟩
  obtain ⟨CF, hCF⟩ : ∃ S : List Flt → Int, (fun fs => carryAt b ds es fs ds.length) = S := ⟨_, rfl⟩
  have hSF2 : ∀ fs, sumL b ds es fs ds.length = SF fs := fun fs => by rw [← hSF]
  have hCF2 : ∀ fs, carryAt b ds es fs ds.length = CF fs := fun fs => by rw [← hCF]
  simp only [hSF2, hCF2] at K9a K10a hsll
  unfold R3Ret at K3a K5a K9a
  obtain ⟨SS, hSS⟩ : ∃ s, addD b ds es ds.length = s := ⟨_, rfl⟩
  obtain ⟨cr, hcr⟩ : ∃ s, carK b ds es ds.length = s := ⟨_, rfl⟩
  simp only [hSS, hcr, hl] at K3a K5a K6a K9a K10a
  rw [hSS] at hsl
  replace K3a := Lib.hid K3a
  replace K5a := Lib.hid K5a
  replace K6a := Lib.hid K6a
  replace K9a := Lib.hid K9a
  replace K10a := Lib.hid K10a
  have HSL := Lib.hid hsl
  have HSLL := Lib.hid hsll
  have HRB := Lib.hid (fun W m (h : Kn w (rowI B k es :: m) W) => (show RI W B ds.length es by have h2 := h.riv; rw [hl] at h2; exact h2))
  clear hSF hCF hSF2 hCF2 hSS hcr hsl hsll hl hv1 hv2 hp hp7 hda hde
  obtain ⟨g, hg⟩ : ∃ g, w1.heap.size = g := ⟨_, rfl⟩
  have K2 := (K1.al [.int .i64 b, .slice A ds.length c] 26).al [.int .i64 b, .slice B ds.length k] 26
  simp only [World.size_alloc, hg] at K2
  go_upto_region 4 with fail
  refine Code.wp.kn K2 ?_; clear K1 K2; intro w2 K2
  try rw [hg]
  clear hg
  obtain ⟨a1, a2, a3, c1, c2, c3, -⟩ := K2.cells
  go_wp2_with fail
  refine (K3a.out _ (K2.front 2 rfl).riv (HRB.out _ _ (K2.front 3 rfl))).mono ?_; rintro e w3 ⟨E, ec, rfl, hK⟩
  have K3 := K2.join hK
  clear K2 hK a1 a2 a3 c1 c2 c3 K3a
  obtain ⟨g7, hg⟩ : ∃ g, w3.heap.size = g := ⟨_, rfl⟩
  go_upto_region 5 with fail
  refine Code.wp.kn (K3.al [.int .i64 b, .slice E SS.length ec] 26) ?_; clear K3; intro w4 K4
  rw [hg] at K4
  try rw [hg]
  clear hg
  obtain ⟨a1, a2, a3, -⟩ := (K4.front 2 rfl).cells
  obtain ⟨c1, c2, c3, -⟩ := (K4.front 3 rfl).cells
  go_wp2_with fail
  refine Calls.kn (K4.al_ _) ?_; clear K4 a1 a2 a3 c1 c2 c3; intro w5 K5
  refine (K5a.out _ _ _ (K5.front 4 rfl).riv (HRB.out _ _ (K5.front 5 rfl))).mono ?_; rintro e w6 ⟨F, fc, rfl, hK⟩
  have K6 := K5.join hK
  clear K5 hK K5a
  obtain ⟨g10, hg⟩ : ∃ g, w6.heap.size = g := ⟨_, rfl⟩
  go_upto_region 6 with fail
  refine Code.wp.kn (K6.al [.int .i64 b, .slice F SS.length fc] 26) ?_; clear K6; intro w7 K7
  rw [hg] at K7
  try rw [hg]
  clear hg
  obtain ⟨a1, a2, a3, -⟩ := K7.cells
  obtain ⟨c1, c2, c3, -⟩ := (K7.front 2 rfl).cells
  go_wp2_with fail
  refine (specSameRegister_same b F E fc ec SS w7 (K7.front 1 rfl).riv (K7.front 3 rfl).riv (by have := HSL.out; omega)).mono ?_; rintro e w8 ⟨rfl, hw⟩
  have K8 := K7.keep hw
  clear K7 hw a1 a2 a3 c1 c2 c3
  obtain ⟨a1, a2, a3, -⟩ := (K8.front 4 rfl).cells
  obtain ⟨c1, c2, c3, -⟩ := (K8.front 5 rfl).cells
  go_wp2_with fail
  refine Calls.kn (K8.al_ _) ?_; clear K8 a1 a2 a3 c1 c2 c3; intro w9 K9
  refine (K6a.out _ _ _ (K9.front 6 rfl).riv (HRB.out _ _ (K9.front 7 rfl))).mono ?_; rintro e w10 ⟨rfl, hw⟩
  have K10 := K9.keep hw
  clear K9 hw K6a
  obtain ⟨c1, c2, c3, -⟩ := (K10.front 5 rfl).cells
  go_wp2_with fail
  refine (KE.out ds.length (by omega) _ K10.below).mono ?_; rintro e w11 ⟨X, xc, fs, rfl, hfl, hgf, has, hK⟩
  have K11 := K10.join hK
  clear K10 hK c1 c2 c3 KE
  obtain ⟨a1, a2, a3, -⟩ := (K11.front 5 rfl).cells
  obtain ⟨c1, c2, c3, -⟩ := (K11.front 6 rfl).cells
  go_wp2_with fail
  refine (K9a.out X fs.length xc fs _ (K11.front 7 rfl).riv (HRB.out _ _ (K11.front 8 rfl)) (Kn.rlFl (K11.front 0 rfl)).2 hgf has (by omega)).mono ?_; rintro e w12 ⟨Y, yc, rfl, hK⟩
  have K12 := K11.join hK
  clear K11 hK a1 a2 a3 c1 c2 c3 K9a
  obtain ⟨YS, hYS⟩ : ∃ s, SF fs = s := ⟨_, rfl⟩
  obtain ⟨cy, hcy⟩ : ∃ s, CF fs = s := ⟨_, rfl⟩
  obtain ⟨g14, hg⟩ : ∃ g, w12.heap.size = g := ⟨_, rfl⟩
  have hyl := HSLL.out fs
  have hsh : showsB (SF fs) SS (CF fs) cr = !(decide (YS = SS) && decide (cy = cr)) := by rw [hYS, hcy]; unfold showsB; cases decide (YS = SS) <;> cases decide (cy = cr) <;> rfl
  have K10b := (fun W r1 r2 r3 => K10a.out X fs.length xc fs W r1 r2 r3 hgf has (by omega))
  rw [hsh] at K10b
  rw [hYS] at K12 hyl
  replace K10b := Lib.hid K10b
  have HYL := Lib.hid hyl
  clear hsh K10a hyl
  go_upto_region 10 with fail
  refine Code.wp.kn (K12.al [.int .i64 b, .slice Y YS.length yc] 26) ?_; clear K12; intro w13 K13
  rw [hg] at K13
  try rw [hg]
  clear hg
  clear hYS hcy
  have R1 := Lib.hid (fun W (hW : Below w13.heap.size w13 W) => K10b.out W ((K13.front 9 rfl).riv.below hW) ((HRB.out _ _ (K13.front 10 rfl)).below hW) ((Kn.rlFl (K13.front 2 rfl)).2.below steady_FltM hW))
  have R2 := Lib.hid (fun W (hW : Below w13.heap.size w13 W) => ValidFaults_true ds.length X fs.length xc fs W ((Kn.rlFl (K13.front 2 rfl)).2.below steady_FltM hW) hgf has n1 (by omega) (by omega))
  have R3 := (fun W (hW : Below w13.heap.size w13 W) => specSameRegister_any ⟨b, YS⟩ ⟨b, SS⟩ Y E yc ec W ((K13.front 1 rfl).riv.below hW) ((K13.front 6 rfl).riv.below hW) (by have := HYL.out; unfold SmallReg; dsimp only; omega) (by have := HSL.out; unfold SmallReg; dsimp only; omega))
  rw [show sameR ⟨b, YS⟩ ⟨b, SS⟩ = decide (YS = SS) by simp [sameR]] at R3
  replace R3 := Lib.hid R3
  have R1b := R1.out
  have R3b := R3.out
  obtain ⟨q, hq⟩ : ∃ q, decide (YS = SS) = q := ⟨_, rfl⟩
  rw [hq] at R1b R3b
  clear hq R1 R3 K10b
  have x0 := cell_regrown (show w13.cell? ⟨g, 0, none⟩ = some (.int .i64 b) from (K13.front 8 rfl).blkAt.1 0)
  have x1 := cell_regrown (show w13.cell? ⟨g, 1, none⟩ = some (.slice A ds.length c) from (K13.front 8 rfl).blkAt.1 1)
  have x2 := cell_regrown (show w13.cell? ⟨g + 1, 0, none⟩ = some (.int .i64 b) from (K13.front 7 rfl).blkAt.1 0)
  have x3 := cell_regrown (show w13.cell? ⟨g + 1, 1, none⟩ = some (.slice B ds.length k) from (K13.front 7 rfl).blkAt.1 1)
  have x4 := cell_regrown (show w13.cell? ⟨g7, 0, none⟩ = some (.int .i64 b) from (K13.front 5 rfl).blkAt.1 0)
  have x5 := cell_regrown (show w13.cell? ⟨g7, 1, none⟩ = some (.slice E SS.length ec) from (K13.front 5 rfl).blkAt.1 1)
  have x6 := cell_regrown (show w13.cell? ⟨g14, 0, none⟩ = some (.int .i64 b) from (K13.front 0 rfl).blkAt.1 0)
  have x7 := cell_regrown (show w13.cell? ⟨g14, 1, none⟩ = some (.slice Y YS.length yc) from (K13.front 0 rfl).blkAt.1 1)
  by_cases hcc : cy = cr <;> cases q
  all_goals
    simp only [hcc, decide_true, decide_false, Bool.true_and, Bool.false_and, Bool.not_true, Bool.not_false] at R1b
    have R1 := Lib.hid R1b
    have R3 := Lib.hid R3b
    clear R1b R3b
    refine wp_region_quiet_below (by kernel_rfl) (by kernel_rfl) ?_
    repeat (go_big_quiet_step (first | (go_at_call 45; exact quietB R2.out) | (go_at_call 44; exact quietB R1.out) | (go_at_call 27; exact quietB R3.out)))
    refine wpQuiet_nil ?_
    intro _ hw'
    obtain ⟨⟨dq, osq⟩, hw''⟩ := hw'
    subst hw''
    obtain ⟨w14, hw3⟩ : ∃ W, grow (redrawn w13 dq) osq = W := ⟨_, rfl⟩
    have K14 := K13.keep (below_regrown w13 dq osq)
    dsimp only
    rw [hw3] at K14 ⊢
    clear x0 x1 x2 x3 x4 x5 x6 x7 hw3
    go_wp2_with fail
    have KL : Kn w [rowFl (.slice X fs.length xc) fs] w14 := K14.sel [2] 99 (by decide) (by decide)
    clear K14 R1 R2 R3 K13
    go_loopw [17] (fun ii wr => ∃ k : Nat, k ≤ fs.length ∧ ii = .int .i64 (k : Int) ∧ Kn w [rowFl (.slice X fs.length xc) fs] wr) (fun ii _ => fs.length - (intOf ii).toNat)
    case atStart => exact ⟨0, Nat.zero_le _, rfl, KL⟩
    case round =>
      clear KL
      obtain ⟨k, hk, rfl, K⟩ := hrel
      by_cases hkn : k < fs.length
      · obtain ⟨ad, hA, hlt, hkl, f1, f2⟩ := (Kn.rlFl (K.front 0 rfl)).2.at_ hkn
        obtain ⟨q1, q2, q3, q4⟩ := hgf fs[k] (List.getElem_mem _)
        have hi0 : (0 : Int) ≤ (k : Int) := by omega
        have hi1 : (k : Int) < (fs.length : Int) := by omega
        obtain ⟨f, hf⟩ : ∃ f, fs[k] = f := ⟨_, rfl⟩
        rw [hf] at f1 f2 q1 q2 q3 q4
        have KT := Lib.hid (FaultText_ok f wr q1 q2 q3 (by omega) (HTB.out _ K.below))
        have KR := Lib.hid (fun W (hW : Below w.heap.size w W) => ReadFault_ok f W q1 q2 q3 (by omega) (HTB.out _ hW))
        obtain ⟨T, hT⟩ : ∃ T : ByteArray, ⟨(textF f).toArray⟩ = T := ⟨_, rfl⟩
        rw [hT] at KT KR
        have HFE := Lib.hid hf
        subst hA
        clear hT hf
        go_wp2_with (first
          | (go_at_call 47; refine KT.out.mono ?_; rintro e w15 ⟨rfl, hw⟩; have K1 := K.keep hw; clear hw)
          | (go_at_call 46; refine (KR.out _ K1.below).mono ?_; rintro e w16 ⟨rfl, hw⟩; have K2 := K1.keep hw; clear hw K1))
        obtain ⟨gf, hg⟩ : ∃ g, w16.heap.size = g := ⟨_, rfl⟩
        have K3 := K2.al [.int .i64 f.kind, .int .i64 f.lever] 71
        rw [hg] at K3
        try rw [hg]
        refine Code.wp.kn K3 ?_; clear K2 K3 K hg f1 f2 KT KR; intro w17 K3
        obtain ⟨ad2, hA2, hlt2, hkl2, f1, f2⟩ := (Kn.rlFl (K3.front 1 rfl)).2.at_ hkn
        injection hA2 with hA2
        subst hA2
        rw [HFE.out] at f1 f2
        have x0 := cell_regrown f1
        have x1 := cell_regrown f2
        have x2 := cell_regrown (show w17.cell? ⟨gf, 0, none⟩ = some (.int .i64 f.kind) from (K3.front 0 rfl).blkAt.1 0)
        have x3 := cell_regrown (show w17.cell? ⟨gf, 1, none⟩ = some (.int .i64 f.lever) from (K3.front 0 rfl).blkAt.1 1)
        clear f1 f2
        refine wp_region_quiet_below (by kernel_rfl) (by kernel_rfl) ?_
        repeat (go_big_quiet_step (fail))
        refine wpQuiet_nil ?_
        intro _ hw'
        obtain ⟨⟨dq, osq⟩, hw''⟩ := hw'
        subst hw''
        obtain ⟨w18, hw3⟩ : ∃ W, grow (redrawn w17 dq) osq = W := ⟨_, rfl⟩
        have K4 := K3.keep (below_regrown w17 dq osq)
        dsimp only
        rw [hw3] at K4 ⊢
        clear x0 x1 x2 x3 hw3 K3
        go_wp2_with fail
        go_roundw
        case rel => exact ⟨k + 1, by omega, by go_num, K4.drop⟩
        case measure => simp [intOf]; omega
      · have hkk : k = fs.length := by omega
        have hi1 : ¬ (k : Int) < (fs.length : Int) := by omega
        go_wp2_with fail
        go_ret
        exact ⟨rfl, K.below⟩
end Go.Proofs.YtafnebpbfmbgiaaDoor

namespace Go.Proofs.YtafnebpbfmbgiaaDoor.fnLevers
open Go.ChangeShapes Go.WideShapes Go.ChangeAt Go.RowKit
set_option maxRecDepth 100000 in
theorem contract (H : Type) (enc : TypeId × Value → H) (W : World) (base : Nat) (args : Array Value) (ds gs : List (DataW H)) (before : List MemPlace)
    (hval : ∀ (j : Nat) t v, Tryd.f6.params[j]? = some t → args[j]? = some v → Value.okWide Tryd.prog W .any base t v)
    (hW : DataW.Whole enc Tryd.prog Tryd.f6.params.toList Rows.fnLeversSpec.vars false W args.toList ds gs before) (hL : laidMetH Tryd.prog Rows.fnLeversRow.laid W) :
    Calls Tryd.prog 6 args W fun e W' => ∃ v, e = .returned v ∧ Rows.fnLeversSpec.post enc Tryd.prog Tryd.f6 false true false false W args v W' := by
  have hW' := hW
  obtain ⟨p, q, hA0, hV, rfl, hfz, hnd⟩ := hW
  have hA : DataW.TrodAll enc Tryd.prog W 0 (fun _ => true) true Tryd.f6.params.toList args.toList ds p := hA0
  rw [Tryd.params6] at hA hval
  obtain ⟨v0, vs0, d0, ds0, p0, q0, hargs, rfl, rfl, h0, r0⟩ := trodAll_cons hA
  obtain ⟨v1, vs1, d1, ds1, p1, q1, rfl, rfl, rfl, h1, r1⟩ := trodAll_cons r0
  obtain ⟨rfl, rfl, rfl⟩ := trodAll_nil r1
  obtain rfl : args = #[v0, v1] := by cases args; simp_all
  obtain ⟨rfl, rfl⟩ := trodVars_none hV
  clear hA0
  simp only [List.append_nil] at hW'
  have hlt : ∀ x ∈ p0 ++ (p1), x.block < W.heap.size := fun x hx => by
    have := hW'.lt x (by simpa using hx)
    simpa using this
  obtain ⟨Y0A, Y0n, Y0c, rfl⟩ := okWide_slice Tryd.underlying22 (hval 0 _ _ rfl rfl)
  have t0 := h0
  obtain ⟨fuel0, hf0⟩ := h0
  obtain ⟨QA0, Qn0, Qc0, Y0xs, hcs0, hr0, hn0⟩ := rd_bytes hf0
  obtain ⟨rfl, rfl, rfl⟩ : QA0 = Y0A ∧ Qn0 = Y0n ∧ Qc0 = Y0c := by
    have : [Value.slice Y0A Y0n Y0c] = [.slice QA0 Qn0 Qc0] := hcs0
    injection this with this
    injection this with e1 e2 e3
    exact ⟨e1.symm, e2.symm, e3.symm⟩
  obtain ⟨Y1A, Y1n, Y1c, rfl⟩ := okWide_slice Tryd.underlying22 (hval 1 _ _ rfl rfl)
  have t1 := h1
  obtain ⟨fuel1, hf1⟩ := h1
  obtain ⟨QA1, Qn1, Qc1, Y1xs, hcs1, hr1, hn1⟩ := rd_bytes hf1
  obtain ⟨rfl, rfl, rfl⟩ : QA1 = Y1A ∧ Qn1 = Y1n ∧ Qc1 = Y1c := by
    have : [Value.slice Y1A Y1n Y1c] = [.slice QA1 Qn1 Qc1] := hcs1
    injection this with this
    injection this with e1 e2 e3
    exact ⟨e1.symm, e2.symm, e3.symm⟩
  have walk : Calls Tryd.prog 6 #[.slice QA0 Qn0 Qc0, .slice QA1 Qn1 Qc1] W fun e w' => e = .returned (.bool true) ∧ Below W.heap.size W w' :=
    law_Levers QA0 Qn0 Qc0 Y0xs QA1 Qn1 Qc1 Y1xs W hr0 hn0 hr1 hn1 (tb_of_laid hL)
  refine walk.mono fun e W' ⟨he, hb⟩ => ?_
  subst he
  have u0 := Below.trod laidOut (by kernel_rfl) (of_decide_eq_true (by kernel_rfl)) t0 hb (fun x hx => hlt x (by simp only [List.mem_append]; simp [hx]))
  have u1 := Below.trod laidOut (by kernel_rfl) (of_decide_eq_true (by kernel_rfl)) t1 hb (fun x hx => hlt x (by simp only [List.mem_append]; simp [hx]))
  exact ⟨_, rfl, [d0, d1], [], p0 ++ (p1 ++ []), [], p0 ++ (p1 ++ []), [], by simpa using hW', trodAll_cons_mk (shut_bool Tryd.underlying4 _) trodAll_mk0, (trodAll_cons_mk u0 (trodAll_cons_mk u1 trodAll_mk0)), rfl, hb.frame _, fun h => by cases h⟩
theorem reads (os : Os) {H : Type} (enc : TypeId × Value → H) : ∃ places, DataW.whole enc Tryd.prog ((laidWorld os).forCall (fun _ _ => 0) ⟨#[], #[.slice none 0 0, .slice none 0 0], []⟩).memory Tryd.f6.params.toList Rows.fnLeversSpec.vars false (#[.slice none 0 0, .slice none 0 0] : Array Value).toList 8 = some ([.nil, .nil], [], places) :=
  ⟨[], by kernel_rfl⟩
set_option maxRecDepth 100000 in
theorem lifted (os : Os) (started : os.Started) (H : Type) (enc : TypeId × Value → H) (F : Stop.Interp) :
    ReturnsInHanded {} Tryd.checked os 6 .any ((OpenSpec.ofChange Rows.fnLeversSpec).preRow enc Tryd.prog Tryd.f6 Rows.fnLeversRow.domain false Rows.fnLeversRow.laid) (((OpenSpec.ofChange Rows.fnLeversSpec).at F).post enc Tryd.prog Tryd.f6 false true false false) := by
  obtain ⟨places, hx⟩ := reads os enc
  refine returnsInHanded_of_row (C := Tryd.checked) (s := OpenSpec.ofChange Rows.fnLeversSpec) own started (by kernel_rfl) Tryd.func6
    (witness_row_at (enc := enc) (C := Tryd.checked) false (laidWorld os) #[.slice none 0 0, .slice none 0 0] rfl (by kernel_rfl) (by kernel_rfl) (by kernel_rfl)
      (OpenSpec.preRow_of_cond 8 hx (by kernel_rfl) (fun k hk => by cases hk) (by kernel_rfl) (laid_met os _))) ?_
  intro W base args ds gs before hval hW _ _ _ hL _ _
  exact contract H enc W base args ds gs before hval hW hL
theorem said : Rows.FnLeversSaid :=
  OpenClaim.holds_of_cond 6 Tryd.f6 rfl rfl rfl rfl rfl rfl rfl ⟨rfl, rfl, rfl, rfl, rfl⟩ rfl rfl rfl rfl rfl (by kernel_rfl) Tryd.func6 (by kernel_rfl)
    (of_decide_eq_true (by kernel_rfl)) (by unfold Func.isWrapper; first | (rw [if_pos (by decide +kernel)]; kernel_rfl) | (rw [if_neg (by decide +kernel)]; exact ⟨rfl, rfl⟩))
    (fun os started H enc _ F => by rw [OpenClaim.pre_eq_preRow]; exact lifted os started H enc F)
theorem plain (f : FuncId) (fn : Func) (hf : Tryd.pinned.checked.prog.funcNamed "loop.example/g00930/laws.FnLevers" = some f) (hfn : Tryd.pinned.checked.prog.funcs[f]? = some fn) :
    false = Tryd.pinned.checked.prog.looks [] ∧ ∀ (j : Nat) t, fn.params[j]? = some t → Tryd.pinned.checked.prog.wantsStandIn t = false := by
  obtain rfl : f = 6 := Option.some.inj ((show Tryd.prog.funcNamed "loop.example/g00930/laws.FnLevers" = some 6 by kernel_rfl).symm.trans hf) |>.symm
  obtain rfl : fn = Tryd.f6 := (Option.some.inj (Tryd.func6.symm.trans hfn)).symm
  refine ⟨by kernel_rfl, fun j t ht => ?_⟩
  rw [Tryd.params6] at ht
  have s0 : Tryd.prog.wantsStandIn 22 = false := by kernel_rfl
  have hm := Array.mem_of_getElem? ht
  have hm' : t = 22 := by simp at hm; exact hm
  subst hm'
  exact s0
/-- THE CARD. -/
theorem card : Rows.FnLeversCardSaid :=
  Claim7.holds_tied_plain_at .later [] _ _ _ _ said (fun _ h => by cases h) (by kernel_rfl) (fun _ h => by cases h) fnLevers_row_tie rfl ⟨rfl, rfl⟩ (by kernel_rfl) rfl plain (by kernel_rfl)
end Go.Proofs.YtafnebpbfmbgiaaDoor.fnLevers
