/- Part 4: lemmas and contracts of the claim's functions. -/
import Derived.Test.YtmmiahgmdllgdaaZC1
import Derived.Test.YtmmiahgmdllgdaaZC2
import Derived.Test.YtmmiahgmdllgdaaZC3
import Derived.Deep.RegionLaw
import Derived.Deep.AppendLies
import Derived.Maps.OwnOps
import Derived.Maps.OwnSet
import Derived.Maps.Views
namespace Go.Proofs.Ytmmiahgmdllgdaa
open Go.RowKit Go.Sort
def carryAt (base : Int) (A B : List Int) (fs : List Flt) : Nat → Int
  | 0 => 0
  | k + 1 => cstep base (A.getD k 0 + B.getD k 0) (carryAt base A B fs k) (kindAt fs k)
def sumD (base : Int) (A B : List Int) (fs : List Flt) (k : Nat) : Int := (A.getD k 0 + B.getD k 0 + carryAt base A B fs k).tmod base
def sumL (base : Int) (A B : List Int) (fs : List Flt) (n : Nat) : List Int := (List.range n).map (sumD base A B fs)
theorem sumL_succ (base : Int) (A B : List Int) (fs : List Flt) (n : Nat) : sumL base A B fs (n + 1) = sumL base A B fs n ++ [sumD base A B fs n] := by simp [sumL, List.range_succ]
theorem sumL_len (base : Int) (A B : List Int) (fs : List Flt) (n : Nat) : (sumL base A B fs n).length = n := by simp [sumL]
theorem cstep_bd (base t c k : Int) : 0 ≤ cstep base t c k ∧ cstep base t c k ≤ 1 := by unfold cstep; split <;> (try split) <;> (try split) <;> (try split) <;> omega
theorem carryAt_bd (base : Int) (A B : List Int) (fs : List Flt) (k : Nat) : 0 ≤ carryAt base A B fs k ∧ carryAt base A B fs k ≤ 1 := by
  cases k with
  | zero => simp [carryAt]
  | succ k => exact cstep_bd _ _ _ _
set_option maxRecDepth 100000 in
set_option maxHeartbeats 1600000 in
theorem l08Add_any (p q : Addr) (a b : Reg) (A : Option Addr) (m c : Nat) (fs : List Flt) (w : World) (hp : RegM w p a) (hq : RegM w q b) (hpl : p.block < w.heap.size) (hql : q.block < w.heap.size) (hr : RL FltM 2 w A m fs)
    (hab : a.digits.length = b.digits.length) (hn : a.digits.length ≤ 16) (hb1 : 2 ≤ a.base) (hb2 : a.base ≤ 16) (hda : ∀ d ∈ a.digits, 0 ≤ d ∧ d < a.base) (hdb : ∀ d ∈ b.digits, 0 ≤ d ∧ d < a.base)
    (hg : GoodF a.digits.length fs) (hm : m ≤ 9223372036854775807) :
    Calls Try.prog 106 #[.pointer (some p), .pointer (some q), .slice A m c] w fun e w' => ∃ A' c', e = .returned (.tuple #[.agg #[.int .i64 a.base, .slice A' a.digits.length c'], .int .i64 (carryAt a.base a.digits b.digits fs a.digits.length)]) ∧
      OwnI w' w.heap.size (.slice A' a.digits.length c') (sumL a.base a.digits b.digits fs a.digits.length) ∧ Below w.heap.size w w' := by
  obtain ⟨A1, c1, ⟨ha0, ha1⟩, hra⟩ := hp
  obtain ⟨A2, c2, ⟨hq0, hq1⟩, hrb⟩ := hq
  obtain ⟨i0, hi, hz0, hz1, hz2⟩ := info_parts info_i64
  have HAB := Lib.hid hab; clear hab
  have hb0 : Below w.heap.size w (w.alloc (.cells #[.int .i64 0, .slice none 0 0] 26)) := (Below.refl _ _).alloc (Nat.le_refl _) _
  have u1 : (w.alloc (.cells #[.int .i64 0, .slice none 0 0] 26)).cell? ⟨p.block, p.off + 1, none⟩ = some (.slice A1 a.digits.length c1) := by rw [hb0.cell (by exact hpl)]; exact ha1
  go_enter Try.func106, Try.ntmps106
  go_wp2_with fail
  refine (l08Kinds_any a.digits.length A m c fs _ (hr.below steady_FltM hb0) hg hn hm).mono ?_; rintro e w1 ⟨X, x, rfl, ox, hw1⟩
  have hbA : Below w.heap.size w w1 := hb0.trans (hw1.mono (by simp))
  obtain ⟨hc, hf⟩ := bcellB (B := w.heap.size + 1) (hw1.mono (by simp))
  have q0 : w1.cell? ⟨w.heap.size, 0, none⟩ = some (.int .i64 0) := by go_simp
  have q1 : w1.cell? ⟨w.heap.size, 1, none⟩ = some (.slice none 0 0) := by go_simp
  have q2 : w1.frozen? ⟨w.heap.size, 0, none⟩ = false := by go_simp
  have q3 : w1.frozen? ⟨w.heap.size, 1, none⟩ = false := by go_simp
  have z1 : w.heap.size + 1 ≤ w1.heap.size := by have := hw1.size; simpa using this
  have y0 : w1.cell? p = some (.int .i64 a.base) := by rw [hbA.cell hpl]; exact ha0
  have y1 : w1.cell? ⟨p.block, p.off + 1, none⟩ = some (.slice A1 a.digits.length c1) := by rw [hbA.cell (by exact hpl)]; exact ha1
  have y2 : w1.cell? ⟨q.block, q.off + 1, none⟩ = some (.slice A2 b.digits.length c2) := by rw [hbA.cell (by exact hql)]; exact hq1
  have rX : RI w1 X a.digits.length (kindsL fs a.digits.length) := ox.ri
  have rA := hra.below hbA
  have rB := hrb.below hbA
  have pl1 : p.block < w1.heap.size := by omega
  have ql1 : q.block < w1.heap.size := by omega
  clear ha0 ha1 hq0 hq1 hra hrb hr ox u1
  go_wp2_with fail
  go_loopw [11, 10] (fun i cy wr => ∃ (k : Nat) (v : Value), k ≤ a.digits.length ∧ i = .int .i64 k ∧ cy = .int .i64 (carryAt a.base a.digits b.digits fs k) ∧ SumAt wr w1.heap.size a.base v (sumL a.base a.digits b.digits fs k) ∧ Below w1.heap.size w1 wr) (fun i _ _ => a.digits.length - (intOf i).toNat)
  case atStart => exact ⟨0, _, Nat.zero_le _, rfl, rfl, ⟨heap_alloc_new _ _, OwnI.nil _ _⟩, (Below.refl _ _).alloc (Nat.le_refl _) _⟩
  case round =>
    obtain ⟨k, v, hk, rfl, rfl, hS, hbr⟩ := hrel
    have HX := Lib.hid (carryAt_bd a.base a.digits b.digits fs k)
    by_cases hkn : k < a.digits.length
    · obtain ⟨ad1, hA1, hlt1, hk1, hd1⟩ := rA.at_ hkn
      rw [← hbr.cell (by rw [block_of_add]; exact hlt1)] at hd1
      obtain ⟨ad2, hA2, hlt2, hk2, hd2⟩ := rB.at_ (show k < b.digits.length from HAB.out ▸ hkn)
      rw [← hbr.cell (by rw [block_of_add]; exact hlt2)] at hd2
      obtain ⟨ad3, hA3, hlt3, hk3, hd3⟩ := rX.at_ hkn
      rw [← hbr.cell (by rw [block_of_add]; exact hlt3)] at hd3
      have e3 : (kindsL fs a.digits.length)[k] = kindAt fs (k : Int) := by simp [kindsL]
      rw [e3] at hd3
      have b1 := hda _ (List.getElem_mem hk1)
      have b2 := hdb _ (List.getElem_mem hk2)
      have v0 : wr.cell? p = some (.int .i64 a.base) := by rw [hbr.cell pl1]; exact y0
      have v1 : wr.cell? ⟨p.block, p.off + 1, none⟩ = some (.slice A1 a.digits.length c1) := by rw [hbr.cell (by exact pl1)]; exact y1
      have v2 : wr.cell? ⟨q.block, q.off + 1, none⟩ = some (.slice A2 b.digits.length c2) := by rw [hbr.cell (by exact ql1)]; exact y2
      obtain ⟨s1, s2, s3⟩ := hS.cells
      have HC := Lib.hid (show carryAt a.base a.digits b.digits fs (k + 1) = cstep a.base (a.digits[k] + b.digits[k]) (carryAt a.base a.digits b.digits fs k) (kindAt fs k) by rw [← getD_of hk1, ← getD_of hk2]; rfl)
      have HD := Lib.hid (show sumD a.base a.digits b.digits fs k = (a.digits[k] + b.digits[k] + carryAt a.base a.digits b.digits fs k).tmod a.base by rw [← getD_of hk1, ← getD_of hk2]; rfl)
      have hkb : (k : Int) < (b.digits.length : Int) := by have := HAB.out; omega
      have hka : (k : Int) < (a.digits.length : Int) := by omega
      have hk0 : (0 : Int) ≤ (k : Int) := by omega
      obtain ⟨cy, hcy⟩ : ∃ cy, cy = carryAt a.base a.digits b.digits fs k := ⟨_, rfl⟩
      obtain ⟨h0, h1⟩ := HX.out
      obtain ⟨kd, hkd⟩ : ∃ kd, kd = kindAt fs (k : Int) := ⟨_, rfl⟩
      obtain ⟨ak, hak⟩ : ∃ ak, ak = a.digits[k] := ⟨_, rfl⟩
      obtain ⟨bk, hbk⟩ : ∃ bk, bk = b.digits[k] := ⟨_, rfl⟩
      rw [← hcy] at h0 h1
      rw [← hcy, ← hkd, ← hak, ← hbk] at HC
      rw [← hcy, ← hak, ← hbk] at HD
      rw [← hak] at hd1 b1
      rw [← hbk] at hd2 b2
      rw [← hkd] at hd3
      rw [← hcy]
      clear hcy hkd hak hbk e3
      subst hA1; subst hA2; subst hA3
      have hS' := Lib.hid hS
      have HO := Lib.hid (fun (n : Nat) (o : Obj) => World.ownsRow.alloc (w := (wr.drewN n).drew) hS.2 o)
      have hbr' := Lib.hid hbr
      have hGl := hS.lt
      clear hS hbr
      have hB1 := Lib.hid hlt3
      go_wp2
      go_quiet (fail)
      go_wp2
      have nz1 : a.base ≠ 0 := by omega
      have nz2 : (a.base == 0) = false := by simp; omega
      have nz3 : ¬ a.base = 0 := by omega
      have wr2 : IntKind.i64.wrap (ak + bk + cy) = ak + bk + cy := wrapI64 (by omega)
      have sA : ((wr.drewN (nq + 1)).alloc (.cells #[.int .i64 ((ak + bk + cy).tmod a.base)] 2)).cell? ⟨w1.heap.size, 1, none⟩ = some v := by rw [World.cell?_alloc_lt _ _ _ (by exact hGl)]; exact s2
      go_region_law (refine step_append_lies _ rfl (.tmp 50) (.tmp 59) 24 rfl (w1.heap.size + 1) 2 i0 _ 1 8 Try.underlying24 hi hz0 hz1 hz2 rfl (by decide) v _ _ (by simp [Act.eval]) (HO.out _ _) ⟨wr.heap.size, 0, none⟩ 1 1 [.int .i64 ((ak + bk + cy).tmod a.base)] (by simp [Act.eval, Act.put]) rfl (World.news_of_block (heap_alloc_new _ _)) (by simp [Value.oneCell']) (by decide) (by rw [sumL_len]; unfold maxLen; omega) (by rw [sumL_len]; omega) (by simp; omega) _ rfl ?_; intro gg cap w2 hown2 hgrow2 hat2 hlt2; obtain ⟨t1, t2, t3, t4⟩ := SumAt.far (w := (wr.drewN nq).drew) hS'.out hgrow2)
      all_goals
        obtain ⟨hS3, hB3⟩ := SumAt.step (w := (wr.drewN nq).drew) hS'.out hgrow2 hown2
        obtain ⟨w3, hw3⟩ : ∃ w3, w3 = w2.setCell ⟨w1.heap.size, 1, none⟩ (.slice (some ⟨gg, 0, none⟩) ((sumL a.base a.digits b.digits fs k).length + 1) cap) := ⟨_, rfl⟩
        rw [← hw3] at hS3 hB3
        have hb3 : Below w1.heap.size wr w3 := (below_drewN (Below.refl w1.heap.size wr) (nq + 1)).trans (hB3 _ (Nat.le_refl _))
        have x0 : w3.cell? p = some (.int .i64 a.base) := by rw [hb3.cell pl1]; exact v0
        have x3 : w3.cell? (ad3.add k) = some (.int .i64 kd) := by rw [hb3.cell (by rw [block_of_add]; exact hB1.out)]; exact hd3
        clear hgrow2 hown2 t1 t2 t3 t4 sA hat2
        rw [← hw3]
        clear hw3
        go_wp2
        go_quiet ((go_at_call 127; exact quiet_left (l08Carry_any _ _ _ _ _ (by omega) (by omega) h0 h1)))
        go_wp2
        go_roundw
        case rel => exact ⟨k + 1, _, by omega, by go_num, by rw [HC.out], by rw [sumL_succ, HD.out]; exact hS3, hbr'.out.trans (below_drewN hb3 _)⟩
        case measure => simp [intOf]; omega
    · have HK : Hid (k = a.digits.length) := by simp only [Hid]; omega
      have v1 : wr.cell? ⟨p.block, p.off + 1, none⟩ = some (.slice A1 a.digits.length c1) := by rw [hbr.cell (by exact pl1)]; exact y1
      obtain ⟨s1, s2, s3⟩ := hS.cells
      have m0 : wr.cell? ⟨w.heap.size, 0, none⟩ = some (.int .i64 0) := by rw [hbr.cell (by exact z1)]; exact q0
      have m1 : wr.cell? ⟨w.heap.size, 1, none⟩ = some (.slice none 0 0) := by rw [hbr.cell (by exact z1)]; exact q1
      have m2 : wr.frozen? ⟨w.heap.size, 0, none⟩ = false := by rw [hbr.frozen (by exact z1)]; exact q2
      have m3 : wr.frozen? ⟨w.heap.size, 1, none⟩ = false := by rw [hbr.frozen (by exact z1)]; exact q3
      obtain ⟨A', c', rfl, hri, hge⟩ := hS.2.reads
      have hO := Lib.hid hS.2
      have hbr' := Lib.hid hbr
      clear hS hbr
      go_wp2_with fail
      refine bodyPost_ret (v := .tuple #[.agg #[.int .i64 a.base, .slice A' (sumL a.base a.digits b.digits fs k).length c'], .int .i64 (carryAt a.base a.digits b.digits fs k)]) (by simp [results, Try.results106, go_sem, m0, m1, m2, m3]) rfl ⟨A', c', ?_, ?_, ?_⟩
      · rw [HK.out, sumL_len]
      · have h1 := hO.out
        rw [HK.out] at h1
        rw [sumL_len] at h1
        exact (((h1.setBelow (by simp <;> omega) _).setBelow (by simp <;> omega) _)).mono (by omega)
      · exact ((hbA.trans (hbr'.out.mono (by omega))).setCell (by simp) _).setCell (by simp) _
end Go.Proofs.Ytmmiahgmdllgdaa

namespace Go.Proofs.Ytmmiahgmdllgdaa
open Go.RowKit Go.Sort Go.Maps
theorem law_i64 : Keyed Try.prog 2 := int_keyed Try.underlying2
theorem zero_i64 (w : World) : (zeroValue 2).run Try.prog w = .ok (.int .i64 0) w := by kernel_rfl
def MapIs (D : DataW Unit) (fs : List Flt) : Prop := IsMap D ∧ ∀ j : Int, D.atKey (.int .i64 j) (.lit (.int .i64 0)) = .lit (.int .i64 (kindAt fs j))
theorem MapIs.nil : MapIs (.map []) [] := ⟨⟨_, rfl⟩, fun _ => rfl⟩
theorem MapIs.put {D : DataW Unit} {fs : List Flt} {k : Nat} (h : MapIs D (fs.take k)) (hk : k < fs.length) : MapIs (D.put (.int .i64 fs[k].lever) (.lit (.int .i64 fs[k].kind))) (fs.take (k + 1)) := by
  obtain ⟨h1, h2⟩ := h
  refine ⟨?_, fun j => ?_⟩
  · obtain ⟨es, rfl⟩ := h1
    exact ⟨_, rfl⟩
  · rw [kindAt_succ hk]
    by_cases g : fs[k].lever = j
    · rw [if_pos g, g, atKey_put_same h1 (by trivial)]
    · rw [if_neg g, atKey_put_other (by intro e; injection e with _ e; exact g e.symm), h2]
theorem qstep (base t c : Int) (h0 : 0 ≤ t + c) (h1 : t + c < 2 * base) : (t + c) / base = if t + c < base then 0 else 1 := by
  split
  · rename_i h; exact Int.ediv_eq_zero_of_lt h0 h
  · rename_i h
    have hb : 0 < base := by omega
    rw [show t + c = (t + c - base) + 1 * base by omega, Int.add_mul_ediv_right _ _ (by omega), Int.ediv_eq_zero_of_lt (by omega) (by omega)]; rfl
theorem carry_1 {base t c cc : Int} (h : (cc == 1) = true) : cstep base t c cc = 0 := by unfold cstep; rw [if_pos (by simpa using h)]
theorem carry_2 {base t c cc : Int} (h1 : (cc == 1) = false) (h : (cc == 2) = true) : cstep base t c cc = 1 := by unfold cstep; rw [if_neg (by simpa using h1), if_pos (by simpa using h)]
theorem carry_3 {base t c cc : Int} (h1 : (cc == 1) = false) (h2 : (cc == 2) = false) (h : (cc == 3) = true) (hq : t / base = if t < base then 0 else 1) : cstep base t c cc = t / base := by
  unfold cstep; rw [if_neg (by simpa using h1), if_neg (by simpa using h2), if_pos (by simpa using h), hq]
theorem carry_4 {base t c cc : Int} (h1 : (cc == 1) = false) (h2 : (cc == 2) = false) (h : (cc == 3) = false) (hq : (t + c) / base = if t + c < base then 0 else 1) : cstep base t c cc = (t + c) / base := by
  unfold cstep; rw [if_neg (by simpa using h1), if_neg (by simpa using h2), if_neg (by simpa using h), hq]
theorem ownsMap_below {w w' : World} {k e : TypeId} {b n : Nat} {D : DataW Unit} (h : w.ownsMap Try.prog k (plainElem Try.prog e) b n D) (hb : Below w.heap.size w w') : w'.ownsMap Try.prog k (plainElem Try.prog e) b n D := by
  have hlt := h.lt
  obtain ⟨es, clock, h1, F, hs, hD⟩ := h
  exact ⟨es, clock, (hb.block b hlt).trans h1, F, hs, hD⟩
set_option maxRecDepth 100000 in
set_option maxHeartbeats 3200000 in
theorem addedWith_any (a b : Reg) (A1 A2 : Option Addr) (c1 c2 : Nat) (A : Option Addr) (m c : Nat) (fs : List Flt) (w : World) (hra : RI w A1 a.digits.length a.digits) (hrb : RI w A2 b.digits.length b.digits) (hr : RL FltM 2 w A m fs)
    (hab : a.digits.length = b.digits.length) (hn : a.digits.length ≤ 16) (hb1 : 2 ≤ a.base) (hb2 : a.base ≤ 16) (hda : ∀ d ∈ a.digits, 0 ≤ d ∧ d < a.base) (hdb : ∀ d ∈ b.digits, 0 ≤ d ∧ d < a.base)
    (hg : GoodF a.digits.length fs) (hm : m ≤ 1000000) :
    Calls Try.prog 58 #[.agg #[.int .i64 a.base, .slice A1 a.digits.length c1], .agg #[.int .i64 b.base, .slice A2 b.digits.length c2], .slice A m c] w fun e w' => ∃ A' c', e = .returned (.tuple #[.agg #[.int .i64 a.base, .slice A' a.digits.length c'], .int .i64 (carryAt a.base a.digits b.digits fs a.digits.length)]) ∧
      OwnI w' w.heap.size (.slice A' a.digits.length c') (sumL a.base a.digits b.digits fs a.digits.length) ∧ Below w.heap.size w w' := by
  have hmm := @run_makeMap Try.prog
  have HL := Lib.hid hr.1
  obtain ⟨i0, hi, hz0, hz1, hz2⟩ := info_parts info_i64
  have HAB := Lib.hid hab; clear hab
  have hb0 : Below w.heap.size w (((w.alloc (.cells #[.int .i64 a.base, .slice A1 a.digits.length c1] 26)).alloc (.cells #[.int .i64 b.base, .slice A2 b.digits.length c2] 26)).alloc (.cells #[.int .i64 0, .slice none 0 0] 26)) := (((Below.refl _ _).alloc (Nat.le_refl _) _).alloc (by simp) _).alloc (by simp <;> omega) _
  go_enter Try.func58, Try.ntmps58
  go_wp2_with fail
  go_loopw [20] (fun i wr => ∃ (k : Nat) (D : DataW Unit), k ≤ m ∧ i = .int .i64 k ∧ wr.ownsMap Try.prog 2 (plainElem Try.prog 2) (w.heap.size + 3) k D ∧ MapIs D (fs.take k) ∧ Below (w.heap.size + 3) (((w.alloc (.cells #[.int .i64 a.base, .slice A1 a.digits.length c1] 26)).alloc (.cells #[.int .i64 b.base, .slice A2 b.digits.length c2] 26)).alloc (.cells #[.int .i64 0, .slice none 0 0] 26)) wr) (fun i _ => m - (intOf i).toNat)
  case atStart => exact ⟨0, .map [], Nat.zero_le _, rfl, by have h := World.ownsMap_made (((w.alloc (.cells #[.int .i64 a.base, .slice A1 a.digits.length c1] 26)).alloc (.cells #[.int .i64 b.base, .slice A2 b.digits.length c2] 26)).alloc (.cells #[.int .i64 0, .slice none 0 0] 26)) Try.prog 2 (plainElem (H := Unit) Try.prog 2); rw [show ((((w.alloc (.cells #[.int .i64 a.base, .slice A1 a.digits.length c1] 26)).alloc (.cells #[.int .i64 b.base, .slice A2 b.digits.length c2] 26)).alloc (.cells #[.int .i64 0, .slice none 0 0] 26))).heap.size = w.heap.size + 3 by simp] at h; exact h, by rw [List.take_zero]; exact MapIs.nil, (Below.refl _ _).alloc (by simp) _⟩
  case round =>
    obtain ⟨k, D, hk, rfl, hown, hMI, hbr⟩ := hrel
    have hbw : Below w.heap.size w wr := hb0.trans (hbr.mono (by omega))
    by_cases hkn : k < m
    · obtain ⟨ad, hA, hlt, hkl, f1, f2⟩ := (hr.below steady_FltM hbw).at_ hkn
      obtain ⟨q1, q2, q3, q4⟩ := hg fs[k] (List.getElem_mem _)
      have hi0 : (0 : Int) ≤ (k : Int) := by omega
      have hi1 : (k : Int) < (m : Int) := by omega
      subst hA
      have hz : w.heap.size + 3 ≤ wr.heap.size := by have := hbr.size; simpa using this
      go_wp2_with (at_mapUpdate; refine wpList_mapUpdate_own _ rfl _ _ _ 148 rfl 2 2 law_i64 Try.underlying148 _ (w.heap.size + 3) k _ rfl (hown.alloc _) (by unfold maxLen; omega) _ _ _ rfl rfl (keyOf_int_mk Try.underlying2 (WalkArith.wf_i64 (by omega))) _ [] (plainElem_int Try.underlying2 (WalkArith.wf_i64 (by omega))) ?_; intro w1 hown1 hgrow1)
      go_roundw
      case rel => exact ⟨k + 1, _, by omega, by go_num, hown1, hMI.put hkl, (hbr.alloc (by omega) _).grown hgrow1 (by simp; omega) (fun j hj => by cases hj; omega)⟩
      case measure => simp [intOf]; omega
    · have HK : Hid (k = m) := by simp only [Hid]; omega
      have hMI' : MapIs D fs := by have := hMI; rwa [HK.out, List.take_of_length_le (by have := HL.out; omega)] at this
      clear hMI
      have hz : w.heap.size + 3 ≤ wr.heap.size := by have := hbr.size; simpa using this
      obtain ⟨hc, hf⟩ := bcellB hbr
      have y0 : wr.cell? ⟨w.heap.size, 0, none⟩ = some (.int .i64 a.base) := by go_simp
      have y1 : wr.cell? ⟨w.heap.size, 1, none⟩ = some (.slice A1 a.digits.length c1) := by go_simp
      have y2 : wr.cell? ⟨w.heap.size + 1, 1, none⟩ = some (.slice A2 b.digits.length c2) := by go_simp
      have q0 : wr.cell? ⟨w.heap.size + 2, 0, none⟩ = some (.int .i64 0) := by go_simp
      have q1 : wr.cell? ⟨w.heap.size + 2, 1, none⟩ = some (.slice none 0 0) := by go_simp
      have q2 : wr.frozen? ⟨w.heap.size + 2, 0, none⟩ = false := by go_simp
      have q3 : wr.frozen? ⟨w.heap.size + 2, 1, none⟩ = false := by go_simp
      have rA := hra.below hbw
      have rB := hrb.below hbw
      clear hc hf hra hrb hr hbr hmm hg
      obtain ⟨w1, rfl⟩ : ∃ w1 : World, w1 = wr := ⟨_, rfl⟩
      have yA : (w1.alloc (.cells #[.int .i64 a.base, .slice none 0 0] 26)).cell? ⟨w.heap.size, 1, none⟩ = some (.slice A1 a.digits.length c1) := by rw [World.cell?_alloc_lt _ _ _ (by exact (by omega : w.heap.size < w1.heap.size))]; exact y1
      go_wp2_with fail
      clear yA
      go_loopw [36, 12] (fun i cy wr => ∃ (k : Nat) (v : Value), k ≤ a.digits.length ∧ i = .int .i64 k ∧ cy = .int .i64 (carryAt a.base a.digits b.digits fs k) ∧ SumAt wr w1.heap.size a.base v (sumL a.base a.digits b.digits fs k) ∧ Below w1.heap.size w1 wr) (fun i _ _ => a.digits.length - (intOf i).toNat)
      case atStart => exact ⟨0, _, Nat.zero_le _, rfl, rfl, ⟨heap_alloc_new _ _, OwnI.nil _ _⟩, (Below.refl _ _).alloc (Nat.le_refl _) _⟩
      case round =>
        obtain ⟨k, v, hk, rfl, rfl, hS, hbr⟩ := hrel
        have HX := Lib.hid (carryAt_bd a.base a.digits b.digits fs k)
        by_cases hkn : k < a.digits.length
        · obtain ⟨ad1, hA1, hlt1, hk1, hd1⟩ := rA.at_ hkn
          rw [← hbr.cell (by rw [block_of_add]; exact hlt1)] at hd1
          obtain ⟨ad2, hA2, hlt2, hk2, hd2⟩ := rB.at_ (show k < b.digits.length from HAB.out ▸ hkn)
          rw [← hbr.cell (by rw [block_of_add]; exact hlt2)] at hd2
          have b1 := hda _ (List.getElem_mem hk1)
          have b2 := hdb _ (List.getElem_mem hk2)
          have v0 : wr.cell? ⟨w.heap.size, 0, none⟩ = some (.int .i64 a.base) := by rw [hbr.cell (by exact (by omega : w.heap.size < w1.heap.size))]; exact y0
          have v2 : wr.cell? ⟨w.heap.size + 1, 1, none⟩ = some (.slice A2 b.digits.length c2) := by rw [hbr.cell (by exact (by omega : w.heap.size + 1 < w1.heap.size))]; exact y2
          obtain ⟨s1, s2, s3⟩ := hS.cells
          have HC := Lib.hid (show carryAt a.base a.digits b.digits fs (k + 1) = cstep a.base (a.digits[k] + b.digits[k]) (carryAt a.base a.digits b.digits fs k) (kindAt fs k) by rw [← getD_of hk1, ← getD_of hk2]; rfl)
          have HD := Lib.hid (show sumD a.base a.digits b.digits fs k = (a.digits[k] + b.digits[k] + carryAt a.base a.digits b.digits fs k).tmod a.base by rw [← getD_of hk1, ← getD_of hk2]; rfl)
          have hkb : (k : Int) < (b.digits.length : Int) := by have := HAB.out; omega
          have hka : (k : Int) < (a.digits.length : Int) := by omega
          have hk0 : (0 : Int) ≤ (k : Int) := by omega
          obtain ⟨cy, hcy⟩ : ∃ cy, cy = carryAt a.base a.digits b.digits fs k := ⟨_, rfl⟩
          obtain ⟨h0, h1⟩ := HX.out
          obtain ⟨ak, hak⟩ : ∃ ak, ak = a.digits[k] := ⟨_, rfl⟩
          obtain ⟨bk, hbk⟩ : ∃ bk, bk = b.digits[k] := ⟨_, rfl⟩
          rw [← hcy] at h0 h1
          rw [← hcy, ← hak, ← hbk] at HC
          rw [← hcy, ← hak, ← hbk] at HD
          rw [← hak] at hd1 b1
          rw [← hbk] at hd2 b2
          rw [← hcy]
          clear hcy hak hbk
          subst hA1; subst hA2
          have hS' := Lib.hid hS
          have HO := Lib.hid (fun (o : Obj) => World.ownsRow.alloc (w := wr.drew) hS.2 o)
          have hbr' := Lib.hid hbr
          have hGl := hS.lt
          clear hS hbr
          go_wp2
          have nz1 : a.base ≠ 0 := by omega
          have wr2 : IntKind.i64.wrap (ak + bk + cy) = ak + bk + cy := wrapI64 (by omega)
          have sA : (wr.drew.alloc (.cells #[.int .i64 ((ak + bk + cy).tmod a.base)] 2)).cell? ⟨w1.heap.size, 1, none⟩ = some v := by rw [World.cell?_alloc_lt _ _ _ (by exact hGl)]; exact s2
          have sB : (wr.drew.alloc (.cells #[.int .i64 ((ak + bk + cy).tmod a.base)] 2)).cell? ⟨w.heap.size, 0, none⟩ = some (.int .i64 a.base) := by rw [World.cell?_alloc_lt _ _ _ (by exact (by omega : w.heap.size < wr.heap.size))]; exact v0
          go_region_law (refine step_append_lies _ rfl (.tmp 49) (.tmp 56) 24 rfl (w1.heap.size + 1) 2 i0 _ 1 8 Try.underlying24 hi hz0 hz1 hz2 rfl (by decide) v _ _ (by simp [Act.eval]) (HO.out _) ⟨wr.heap.size, 0, none⟩ 1 1 [.int .i64 ((ak + bk + cy).tmod a.base)] (by simp [Act.eval]) rfl (World.news_of_block (heap_alloc_new _ _)) (by simp [Value.oneCell']) (by decide) (by rw [sumL_len]; unfold maxLen; omega) (by rw [sumL_len]; omega) (by simp; omega) _ rfl ?_; intro gg cap w2 hown2 hgrow2 hat2 hlt2; obtain ⟨t1, t2, t3, t4⟩ := SumAt.far (w := wr.drew) hS'.out hgrow2)
          all_goals
            obtain ⟨hS3, hB3⟩ := SumAt.step (w := wr.drew) hS'.out hgrow2 hown2
            obtain ⟨w3, hw3⟩ : ∃ w3, w3 = w2.setCell ⟨w1.heap.size, 1, none⟩ (.slice (some ⟨gg, 0, none⟩) ((sumL a.base a.digits b.digits fs k).length + 1) cap) := ⟨_, rfl⟩
            rw [← hw3] at hS3 hB3
            have hb3 : Below w1.heap.size wr w3 := (below_drewN (Below.refl w1.heap.size wr) 1).trans (hB3 _ (Nat.le_refl _))
            have x0 : w3.cell? ⟨w.heap.size, 0, none⟩ = some (.int .i64 a.base) := by rw [hb3.cell (by exact (by omega : w.heap.size < w1.heap.size))]; exact v0
            have hM3 := ownsMap_below hown (hbr'.out.trans hb3)
            clear hgrow2 hown2 t1 t2 t3 t4 sA sB hat2
            rw [← hw3]
            clear hw3
            go_wp2_with (at_lookup; refine wpList_lookup_own_int _ rfl _ _ 148 rfl 2 2 .i64 law_i64 Try.underlying148 Try.underlying2 (zero_i64 _) (w.heap.size + 3) _ _ rfl hM3 _ _ rfl (keyOf_int_mk Try.underlying2 (WalkArith.wf_i64 (by omega))) ?_; intro cc hat hwc)
            all_goals
              have hcc : kindAt fs (k : Int) = cc := by
                have h := hMI'.2 (k : Int)
                rw [hat] at h
                injection h with h; injection h with _ h; exact h.symm
              rw [hcc] at HC
              have g1 := qstep a.base (ak + bk) cy (by omega) (by omega)
              have g2 := qstep a.base (ak + bk) 0 (by omega) (by omega)
              rw [Int.add_zero] at g2
              have HQ := Lib.hid g1
              have HQ2 := Lib.hid g2
              clear g1 g2
              go_roundw
              case rel =>
                refine ⟨k + 1, _, by omega, by go_num, ?_, by rw [sumL_succ, HD.out]; exact hS3, hbr'.out.trans hb3⟩
                rw [HC.out]
                first
                  | exact congrArg (Value.int .i64) (carry_1 (by assumption)).symm
                  | exact congrArg (Value.int .i64) (carry_2 (by assumption) (by assumption)).symm
                  | exact congrArg (Value.int .i64) (carry_3 (by assumption) (by assumption) (by assumption) HQ2.out).symm
                  | exact congrArg (Value.int .i64) (carry_4 (by assumption) (by assumption) (by assumption) HQ.out).symm
              case measure => simp [intOf]; omega
        · have HK : Hid (k = a.digits.length) := by simp only [Hid]; omega
          have m0 : wr.cell? ⟨w.heap.size + 2, 0, none⟩ = some (.int .i64 0) := by rw [hbr.cell (by exact (by omega : w.heap.size + 2 < w1.heap.size))]; exact q0
          have m1 : wr.cell? ⟨w.heap.size + 2, 1, none⟩ = some (.slice none 0 0) := by rw [hbr.cell (by exact (by omega : w.heap.size + 2 < w1.heap.size))]; exact q1
          have m2 : wr.frozen? ⟨w.heap.size + 2, 0, none⟩ = false := by rw [hbr.frozen (by exact (by omega : w.heap.size + 2 < w1.heap.size))]; exact q2
          have m3 : wr.frozen? ⟨w.heap.size + 2, 1, none⟩ = false := by rw [hbr.frozen (by exact (by omega : w.heap.size + 2 < w1.heap.size))]; exact q3
          obtain ⟨s1, s2, s3⟩ := hS.cells
          obtain ⟨A', c', rfl, hri, hge⟩ := hS.2.reads
          have hO := Lib.hid hS.2
          have hbr' := Lib.hid hbr
          clear hS hbr
          go_wp2_with fail
          refine bodyPost_ret (v := .tuple #[.agg #[.int .i64 a.base, .slice A' (sumL a.base a.digits b.digits fs k).length c'], .int .i64 (carryAt a.base a.digits b.digits fs k)]) (by simp [results, Try.results58, go_sem, m0, m1, m2, m3]) rfl ⟨A', c', ?_, ?_, ?_⟩
          · rw [HK.out, sumL_len]
          · have h1 := hO.out
            rw [HK.out] at h1
            rw [sumL_len] at h1
            exact (((h1.setBelow (by simp <;> omega) _).setBelow (by simp <;> omega) _)).mono (by omega)
          · exact ((hbw.trans (hbr'.out.mono (by omega))).setCell (by simp <;> omega) _).setCell (by simp <;> omega) _
end Go.Proofs.Ytmmiahgmdllgdaa

namespace Go.Proofs.Ytmmiahgmdllgdaa
open Go.RowKit Go.Sort
def TOK (t : Tri) : Prop := t.a.digits.length = t.b.digits.length ∧ t.a.digits.length ≤ 16 ∧ 2 ≤ t.a.base ∧ t.a.base ≤ 16 ∧ (∀ d ∈ t.a.digits, 0 ≤ d ∧ d < t.a.base) ∧ (∀ d ∈ t.b.digits, 0 ≤ d ∧ d < t.a.base) ∧ SmallTri t
theorem tok_of {r0 : Reg} {t : Tri} (h : triGood r0 t = true) (hs : SmallTri t) : TOK t := by
  simp only [triGood, vlike, Bool.and_eq_true, decide_eq_true_eq, beq_iff_eq] at h
  obtain ⟨⟨⟨⟨⟨h1, h2⟩, h3⟩, ⟨h4, h5⟩, h6⟩, -⟩, -⟩ := h
  obtain ⟨⟨p1, p2⟩, ⟨-, p4⟩, p5, -⟩ := vreg_iff.1 h1
  obtain ⟨-, -, q5, -⟩ := vreg_iff.1 h4
  refine ⟨by omega, by omega, p1, p2, p5, ?_, hs⟩
  rw [h2, ← h5]; exact q5
def sumReg (t : Tri) (fs : List Flt) : Reg := ⟨t.a.base, sumL t.a.base t.a.digits t.b.digits fs t.a.digits.length⟩
def expl (t : Tri) (fs : List Flt) : Bool := sameR (sumReg t fs) t.s && (carryAt t.a.base t.a.digits t.b.digits fs t.a.digits.length == t.carry)
end Go.Proofs.Ytmmiahgmdllgdaa

namespace Go.Proofs.Ytmmiahgmdllgdaa
open Go.RowKit Go.Sort
def Asc (fs : List Flt) : Prop := ∀ (k : Nat) (h : k + 1 < fs.length), (fs[k]'(by omega)).lever < fs[k + 1].lever
def vexpl (ts : List Tri) (fs : List Flt) : Bool := ts.all (fun t => expl t fs)
theorem between_b (a b c : Int) (w : World) : Calls Try.prog 74 #[.int .i64 a, .int .i64 b, .int .i64 c] w fun e w' => e = .returned (.bool (betB a b c)) ∧ Below w.heap.size w w' :=
  (between_any a b c w).mono fun _ _ ⟨h, e⟩ => ⟨h, e ▸ Below.refl _ _⟩
theorem isFault_any (n : Nat) (f : Flt) (w : World) (hn : n ≤ 16) (h1 : 1 ≤ f.kind) (h2 : f.kind ≤ 3) (h3 : 0 ≤ f.lever) (h4 : f.lever < n) :
    Calls Try.prog 56 #[.int .i64 n, .agg #[.int .i64 f.kind, .int .i64 f.lever]] w fun e w' => e = .returned (.bool true) ∧ Below w.heap.size w w' := by
  have k1 : betB f.kind 1 3 = true := betB_iff.2 ⟨h1, h2⟩
  have k2 : betB f.lever 0 (n - 1) = true := betB_iff.2 ⟨h3, by omega⟩
  have K1 := Lib.hid k1; have K2 := Lib.hid k2
  clear k1 k2
  go_enter Try.func56, Try.ntmps56
  go_wp2_with (go_at_call 74; refine (between_any _ _ _ _).mono ?_; rintro e w' ⟨rfl, rfl⟩; first | rw [K1.out] | rw [K2.out])
  go_ret
  exact ⟨rfl, (Below.refl _ _).alloc (Nat.le_refl _) _⟩
end Go.Proofs.Ytmmiahgmdllgdaa

namespace Go.Proofs.Ytmmiahgmdllgdaa
open Go.RowKit Go.Sort
set_option maxRecDepth 100000 in
set_option maxHeartbeats 3200000 in
theorem l02Carries_any (g1 g2 : Nat) (b : Int) (XA : Option Addr) (xc : Nat) (xs : List Int) (YA : Option Addr) (yc : Nat) (ys : List Int) (w : World) (hx : RegB w g1 b XA xc xs) (hy : RegB w g2 b YA yc ys) (hb : 2 ≤ b) (hb16 : b ≤ 16) (hdx : Digs b xs) (hdy : Digs b ys) (hl : xs.length = ys.length) (hm : xs.length ≤ 16) :
    Calls Try.prog 96 #[.pointer (some ⟨g1, 0, none⟩), .pointer (some ⟨g2, 0, none⟩)] w fun e w' => ∃ F fc, e = .returned (.slice F (xs.length + 1) fc) ∧ Kn w [rowI F fc (carL b xs ys (xs.length + 1))] w' := by
  have HX := Lib.hid (fun W (hW : Below w.heap.size w W) => RegB.below hx hW)
  have HY := Lib.hid (fun W (hW : Below w.heap.size w W) => RegB.below hy hW)
  have HDX := Lib.hid hdx
  have HDY := Lib.hid hdy
  have HLL := Lib.hid hl
  have HCB := Lib.hid (carK_bd hb hdx hdy)
  clear hdx hdy hl hx hy
  have K0 : Kn w [.row (.slice (some ⟨w.heap.size, 0, none⟩) 1 1) 2 1 1 ((carL b xs ys 1).map (Value.int .i64))] _ := ((Kn.nil w).al [.int .i64 0] 2).litRow (size := 1) (n := 1) rfl (by decide)
  go_enter Try.func96, Try.ntmps96
  go_upto_region 2 with fail
  refine Code.wp.kn K0 ?_; clear K0; intro w1 K1
  go_wp2_with fail
  go_loopw [5, 6, 7] (fun cv cc ii wr => ∃ (k : Nat) (cw : Value), k ≤ xs.length ∧ ii = .int .i64 (k : Int) ∧ cc = .int .i64 (carK b xs ys k) ∧ cv = cw ∧ Kn w [.row cw 2 1 (carL b xs ys (k + 1)).length ((carL b xs ys (k + 1)).map (Value.int .i64))] wr) (fun _ _ ii _ => xs.length - (intOf ii).toNat)
  case atStart => exact ⟨0, _, Nat.zero_le _, rfl, rfl, rfl, K1⟩
  case round =>
    clear K1
    obtain ⟨k, vv, hk, rfl, rfl, rfl, hK⟩ := hrel
    obtain ⟨⟨x0, x1⟩, hrx⟩ := HX.out _ hK.below
    obtain ⟨⟨y0, y1⟩, hry⟩ := HY.out _ hK.below
    by_cases hkn : k < xs.length
    · have i1 : (k : Int) < (xs.length : Int) := by omega
      have i0 : (0 : Int) ≤ (k : Int) := by omega
      have hkny : k < ys.length := by have := HLL.out; omega
      have i2 : (k : Int) < (ys.length : Int) := by omega
      obtain ⟨adx, hA, hltx, hkx, hcx⟩ := hrx.at_ hkn
      obtain ⟨ady, hB, hlty, hky, hcy⟩ := hry.at_ hkny
      have bx := HDX.out xs[k] (List.getElem_mem hkn)
      have bY := HDY.out ys[k] (List.getElem_mem hkny)
      have hcb := HCB.out k
      have hcb2 := HCB.out (k + 1)
      have hQ : carK b xs ys (k + 1) = (xs[k] + ys[k] + carK b xs ys k) / b := by rw [carK, getD_of hkn, getD_of hkny]
      obtain ⟨x, hxx⟩ : ∃ x, xs[k] = x := ⟨_, rfl⟩
      obtain ⟨y, hyy⟩ : ∃ y, ys[k] = y := ⟨_, rfl⟩
      obtain ⟨cr, hcr⟩ : ∃ y, carK b xs ys k = y := ⟨_, rfl⟩
      rw [hxx] at hcx bx hQ
      rw [hyy] at hcy bY hQ
      rw [hcr] at hcb hQ
      try rw [hcr]
      have q1 : IntKind.i64.wrap (x + y) = x + y := wrapI (by omega)
      obtain ⟨s0, hs0⟩ : ∃ s, x + y + cr = s := ⟨_, rfl⟩
      have q2 : IntKind.i64.wrap (x + y + cr) = s0 := by rw [hs0]; exact wrapI (by omega)
      rw [hs0] at hQ
      have hs1 : 0 ≤ s0 ∧ s0 ≤ 40 := by omega
      obtain ⟨qq, hqq⟩ : ∃ z, s0 / b = z := ⟨_, rfl⟩
      rw [hqq] at hQ
      have r2 : Int.tdiv s0 b = qq := by rw [Int.tdiv_eq_ediv_of_nonneg (by omega)]; exact hqq
      rw [hQ] at hcb2
      have r3 : IntKind.i64.wrap (Int.tdiv s0 b) = qq := by rw [r2]; exact wrapI (by omega)
      have r0 : ¬ b = 0 := by omega
      have r4 : b ≠ 0 := by omega
      have HQ := Lib.hid hQ
      have hcl := carL_len b xs ys (k + 1)
      obtain ⟨cs, hcs⟩ : ∃ cs, carL b xs ys (k + 1) = cs := ⟨_, rfl⟩
      rw [hcs] at hK hcl
      have HCS := Lib.hid hcs
      have HL := Lib.hid (show cs.length ≤ 10000000 by omega)
      subst hA
      subst hB
      clear hxx hyy hcr hQ hqq hs0 hcl hcs
      go_wp2_with fail
      go_quiet (fail)
      go_upto_region 7 with fail
      first
        | (refine Code.wp.kn hK ?_; clear hK; intro w7 hK)
        | (refine Code.wp.kn (hK.drewN _) ?_; clear hK; intro w7 hK)
      clear x0 x1 y0 y1 hrx hry hcx hcy
      go_wp2_with (at_builtin; refine kn_pushI rfl _ _ rfl _ cs rfl rfl (hK.al [.int .i64 qq] 2) HL.out ?_; intro v' w' K10)
      go_roundw
      case rel => exact ⟨k + 1, _, by omega, by go_num, by rw [HQ.out], rfl, by rw [carL_succ, HCS.out, HQ.out]; exact K10⟩
      case measure => simp [intOf]; omega
    · have i1 : ¬ (k : Int) < (xs.length : Int) := by omega
      obtain rfl : k = xs.length := by omega
      obtain ⟨A0, c0, rfl⟩ := row_form hK.at0
      have HL2 := Lib.hid (carL_len b xs ys (xs.length + 1))
      rw [carL_len] at hK
      try rw [carL_len]
      go_wp2_with fail
      go_ret
      exact ⟨A0, c0, rfl, by unfold rowI; rw [HL2.out]; exact hK⟩
end Go.Proofs.Ytmmiahgmdllgdaa

namespace Go.Proofs.Ytmmiahgmdllgdaa
open Go.RowKit Go.Sort
set_option maxRecDepth 100000 in
set_option maxHeartbeats 6400000 in
theorem l02Add_any (g1 g2 : Nat) (b : Int) (XA : Option Addr) (xc : Nat) (xs : List Int) (YA : Option Addr) (yc : Nat) (ys : List Int) (w : World) (hx : RegB w g1 b XA xc xs) (hy : RegB w g2 b YA yc ys) (hb : 2 ≤ b) (hb16 : b ≤ 16) (hdx : Digs b xs) (hdy : Digs b ys) (hl : xs.length = ys.length) (hm : xs.length ≤ 16) :
    Calls Try.prog 38 #[.pointer (some ⟨g1, 0, none⟩), .pointer (some ⟨g2, 0, none⟩)] w fun e w' => ∃ E ec, e = .returned (.tuple #[.agg #[.int .i64 b, .slice E xs.length ec], .int .i64 (carK b xs ys xs.length)]) ∧ Kn w [rowI E ec (addD b xs ys xs.length)] w' := by
  have HX := Lib.hid (fun W (hW : Below w.heap.size w W) => RegB.below hx hW)
  have HY := Lib.hid (fun W (hW : Below w.heap.size w W) => RegB.below hy hW)
  have KC := Lib.hid (fun W (hW : Below w.heap.size w W) => l02Carries_any g1 g2 b XA xc xs YA yc ys W (RegB.below hx hW) (RegB.below hy hW) hb hb16 hdx hdy hl hm)
  have HDX := Lib.hid hdx
  have HDY := Lib.hid hdy
  have HLL := Lib.hid hl
  have HCB := Lib.hid (carK_bd hb hdx hdy)
  have HSB := Lib.hid (fun i => sumK_bd hb xs ys i)
  have HCG := Lib.hid (fun k (h : k < xs.length + 1) => carL_get b xs ys h)
  clear hdx hdy hl hx hy
  obtain ⟨g4, hg4⟩ : ∃ g, w.heap.size = g := ⟨_, rfl⟩
  have K0 := (Kn.nil w).al [.int .i64 0, .slice none 0 0] 26
  rw [hg4] at K0
  go_enter Try.func38, Try.ntmps38
  go_upto_region 2 with (go_at_call 96; refine Calls.kn K0 ?_; intro w1 K1; refine (KC.out _ K1.below).mono ?_; rintro e w2 ⟨F, fc, rfl, hK⟩; have K2 := K1.join hK; clear hK K1)
  have K2 : Kn w [.row (.slice F (carL b xs ys (xs.length + 1)).length fc) 2 1 (carL b xs ys (xs.length + 1)).length ((carL b xs ys (xs.length + 1)).map (Value.int .i64)), .blk g4 [.int .i64 0, .slice none 0 0] 26] w2 := K2
  rw [carL_len] at K2
  obtain ⟨gc, cc, hFe⟩ := K2.rowForm (by omega)
  injection hFe with hFe _ hfk
  subst hFe
  subst hfk
  obtain ⟨cs, hcs⟩ : ∃ cs, carL b xs ys (xs.length + 1) = cs := ⟨_, rfl⟩
  rw [hcs] at K2 HCG
  clear hcs
  obtain ⟨gO, hgO⟩ : ∃ g, w2.heap.size = g := ⟨_, rfl⟩
  obtain ⟨⟨p0, p1⟩, -⟩ := HX.out _ K2.below
  go_upto_region 3 with fail
  have K3 := K2.al [.int .i64 b, .slice none 0 0] 26
  rw [hgO] at K3
  try rw [hgO]
  refine Code.wp.kn K3 ?_; clear K2 K3 hgO p0 p1; intro w3 K3
  go_wp2_with fail
  have K4 : Kn w [.row (.slice none 0 0) 2 1 (addD b xs ys 0).length ((addD b xs ys 0).map (Value.int .i64)), .row (.slice (some ⟨gc, 0, none⟩) (xs.length + 1) fc) 2 1 (xs.length + 1) (cs.map (Value.int .i64)), .blk gO [.int .i64 b, .slice none 0 0] 26, .blk g4 [.int .i64 0, .slice none 0 0] 26] w3 := (K3.nilRow 2 1).sel [0, 2, 1, 3] 99 (by decide) (by decide)
  clear K3
  go_loopw [8] (fun ii wr => ∃ (k : Nat) (vv : Value), k ≤ xs.length ∧ ii = .int .i64 (k : Int) ∧ Kn w [.row vv 2 1 (addD b xs ys k).length ((addD b xs ys k).map (Value.int .i64)), .row (.slice (some ⟨gc, 0, none⟩) (xs.length + 1) fc) 2 1 (xs.length + 1) (cs.map (Value.int .i64)), .blk gO [.int .i64 b, vv] 26, .blk g4 [.int .i64 0, .slice none 0 0] 26] wr) (fun ii _ => xs.length - (intOf ii).toNat)
  case atStart => exact ⟨0, _, Nat.zero_le _, rfl, K4⟩
  case round =>
    clear K4
    obtain ⟨k, vv, hk, rfl, hK⟩ := hrel
    obtain ⟨⟨x0, x1⟩, hrx⟩ := HX.out _ hK.below
    obtain ⟨⟨y0, y1⟩, hry⟩ := HY.out _ hK.below
    obtain ⟨hcl, hcg⟩ := HCG.out k (by omega)
    by_cases hkn : k < xs.length
    · have i1 : (k : Int) < (xs.length : Int) := by omega
      have i0 : (0 : Int) ≤ (k : Int) := by omega
      have hkny : k < ys.length := by have := HLL.out; omega
      have i2 : (k : Int) < (ys.length : Int) := by omega
      have i3 : (k : Int) < (xs.length : Int) + 1 := by omega
      obtain ⟨adx, hA, hltx, hkx, hcx⟩ := hrx.at_ hkn
      obtain ⟨ady, hB, hlty, hky, hcy⟩ := hry.at_ hkny
      have bx := HDX.out xs[k] (List.getElem_mem hkn)
      have bY := HDY.out ys[k] (List.getElem_mem hkny)
      have hcb := HCB.out k
      have hsb := HSB.out k
      have hce : (cs.map (Value.int .i64))[k]? = some (.int .i64 (carK b xs ys k)) := by rw [← hcg]; simp [hcl]
      have hZ : sumK b xs ys k = (xs[k] + ys[k] + carK b xs ys k) % b := by rw [sumK, getD_of hkn, getD_of hkny]
      obtain ⟨x, hxx⟩ : ∃ x, xs[k] = x := ⟨_, rfl⟩
      obtain ⟨y, hyy⟩ : ∃ y, ys[k] = y := ⟨_, rfl⟩
      obtain ⟨cr, hcr⟩ : ∃ y, carK b xs ys k = y := ⟨_, rfl⟩
      rw [hxx] at bx hZ
      rw [hyy] at bY hZ
      rw [hcr] at hcb hZ hce
      have q1 : IntKind.i64.wrap (x + y) = x + y := wrapI (by omega)
      obtain ⟨s0, hs0⟩ : ∃ s, x + y + cr = s := ⟨_, rfl⟩
      have q2 : IntKind.i64.wrap (x + y + cr) = s0 := by rw [hs0]; exact wrapI (by omega)
      rw [hs0] at hZ
      obtain ⟨z, hz⟩ : ∃ z, s0 % b = z := ⟨_, rfl⟩
      rw [hz] at hZ
      have r1 : Int.tmod s0 b = z := by rw [Int.tmod_eq_emod_of_nonneg (by omega)]; exact hz
      have r0 : ¬ b = 0 := by omega
      rw [hZ] at hsb
      have HZ := Lib.hid hZ
      subst hA
      subst hB
      obtain ⟨ss, hss⟩ : ∃ ss, addD b xs ys k = ss := ⟨_, rfl⟩
      have hL : ss.length ≤ 10000000 := by rw [← hss, addD_len]; omega
      rw [hss] at hK
      have HSS := Lib.hid hss
      have HL := Lib.hid hL
      have HXE := Lib.hid hxx
      have HYE := Lib.hid hyy
      have HCE := Lib.hid hce
      clear hxx hyy hcr hZ hcg hz hs0 hss hL hce hcx hcy hrx hry hcl
      have SP := Lib.hid (fun W (h : Kn w [.row (.slice (some ⟨gc, 0, none⟩) (xs.length + 1) fc) 2 1 (xs.length + 1) (cs.map (Value.int .i64))] W) => (show (W.cell? ⟨g1, 0, none⟩ = some (.int .i64 b) ∧ W.cell? ⟨g1, 1, none⟩ = some (.slice (some adx) xs.length xc) ∧ W.cell? ⟨g2, 1, none⟩ = some (.slice (some ady) ys.length yc) ∧ W.cell? (adx.add k) = some (.int .i64 x) ∧ W.cell? (ady.add k) = some (.int .i64 y) ∧ W.cell? ⟨gc, k, none⟩ = some (.int .i64 cr)) from by
        obtain ⟨⟨q0, q1⟩, hq⟩ := HX.out W h.below
        obtain ⟨⟨q2, q3⟩, hq2⟩ := HY.out W h.below
        obtain ⟨ad, ha, _, hk1, e1⟩ := hq.at_ hkn
        obtain ⟨ad2, ha2, _, hk2, e2⟩ := hq2.at_ hkny
        injection ha with ha
        injection ha2 with ha2
        subst ha
        subst ha2
        rw [HXE.out] at e1
        rw [HYE.out] at e2
        exact ⟨q0, q1, q3, e1, e2, (Kn.rowCell h HCE.out).1⟩))
      go_wp2_with fail
      clear x0 x1 y0 y1
      have hKd := hK.drew
      have HG := Lib.hid (SP.out _ (hKd.sel [1] 99 (by decide) (by decide)))
      refine wp_region_held_drew (S := (fun W => (W.cell? ⟨g1, 0, none⟩ = some (.int .i64 b) ∧ W.cell? ⟨g1, 1, none⟩ = some (.slice (some adx) xs.length xc) ∧ W.cell? ⟨g2, 1, none⟩ = some (.slice (some ady) ys.length yc) ∧ W.cell? (adx.add k) = some (.int .i64 x) ∧ W.cell? (ady.add k) = some (.int .i64 y) ∧ W.cell? ⟨gc, k, none⟩ = some (.int .i64 cr)))) (by kernel_rfl) ?_ (fun hHeld => ?_)
      · exact HG.out
      try dsimp only
      generalize wr.drew = wd at hKd HG hHeld ⊢
      clear hK
      refine wpAnyH_take (i := 0) (v := ?_) rfl (by kernel_rfl) (by kernel_rfl) (by kernel_rfl) (fun _ _ _ h => h) (Or.inl ⟨by rfl, ?_⟩) hHeld ?_
      rotate_left
      · (intro w hSw; (try dsimp only at hSw); go_simp; try with_reducible rfl)
      try simp only [Act.put, List.setIfInBounds_toArray, List.set_cons_zero, List.set_cons_succ, List.getElem_toArray, List.getElem_cons_zero]
      refine wpAnyH_take (i := 2) (v := ?_) rfl (by kernel_rfl) (by kernel_rfl) (by kernel_rfl) (fun _ _ _ h => h) (Or.inl ⟨by rfl, ?_⟩) hHeld ?_
      rotate_left
      · (intro w hSw; (try dsimp only at hSw); go_simp; try with_reducible rfl)
      try simp only [Act.put, List.setIfInBounds_toArray, List.set_cons_zero, List.set_cons_succ, List.getElem_toArray, List.getElem_cons_succ, List.getElem_cons_zero]
      refine wpAnyH_take (i := 3) (v := ?_) rfl (by kernel_rfl) (by kernel_rfl) (by kernel_rfl) (fun _ _ _ h => h) (Or.inl ⟨by rfl, ?_⟩) hHeld ?_
      rotate_left
      · (intro w hSw; (try dsimp only at hSw); go_simp; try with_reducible rfl)
      try simp only [Act.put, List.setIfInBounds_toArray, List.set_cons_zero, List.set_cons_succ, List.getElem_toArray, List.getElem_cons_succ, List.getElem_cons_zero]
      refine wpAnyH_take (i := 4) (v := ?_) rfl (by kernel_rfl) (by kernel_rfl) (by kernel_rfl) (fun _ _ _ h => h) (Or.inl ⟨by rfl, ?_⟩) hHeld ?_
      rotate_left
      · (intro w hSw; (try dsimp only at hSw); go_simp; try with_reducible rfl)
      try simp only [Act.put, List.setIfInBounds_toArray, List.set_cons_zero, List.set_cons_succ, List.getElem_toArray, List.getElem_cons_succ, List.getElem_cons_zero]
      refine wpAnyH_take (i := 5) (v := ?_) rfl (by kernel_rfl) (by kernel_rfl) (by kernel_rfl) (fun _ _ _ h => h) (Or.inl ⟨by rfl, ?_⟩) hHeld ?_
      rotate_left
      · (intro w hSw; (try dsimp only at hSw); go_simp; try with_reducible rfl)
      try simp only [Act.put, List.setIfInBounds_toArray, List.set_cons_zero, List.set_cons_succ, List.getElem_toArray, List.getElem_cons_succ, List.getElem_cons_zero]
      refine wpAnyH_take (i := 6) (v := ?_) rfl (by kernel_rfl) (by kernel_rfl) (by kernel_rfl) (fun _ _ _ h => h) (Or.inl ⟨by rfl, ?_⟩) hHeld ?_
      rotate_left
      · (intro w hSw; (try dsimp only at hSw); go_simp; try with_reducible rfl)
      try simp only [Act.put, List.setIfInBounds_toArray, List.set_cons_zero, List.set_cons_succ, List.getElem_toArray, List.getElem_cons_succ, List.getElem_cons_zero]
      refine wpAnyH_take (i := 7) (v := ?_) rfl (by kernel_rfl) (by kernel_rfl) (by kernel_rfl) (fun _ _ _ h => h) (Or.inl ⟨by rfl, ?_⟩) hHeld ?_
      rotate_left
      · (intro w hSw; (try dsimp only at hSw); go_simp; try with_reducible rfl)
      try simp only [Act.put, List.setIfInBounds_toArray, List.set_cons_zero, List.set_cons_succ, List.getElem_toArray, List.getElem_cons_succ, List.getElem_cons_zero]
      refine wpAnyH_take (i := 8) (v := ?_) rfl (by kernel_rfl) (by kernel_rfl) (by kernel_rfl) (fun _ _ _ h => h) (Or.inl ⟨by rfl, ?_⟩) hHeld ?_
      rotate_left
      · (intro w hSw; (try dsimp only at hSw); go_simp; try with_reducible rfl)
      try simp only [Act.put, List.setIfInBounds_toArray, List.set_cons_zero, List.set_cons_succ, List.getElem_toArray, List.getElem_cons_succ, List.getElem_cons_zero]
      refine wpAnyH_take (i := 9) (v := ?_) rfl (by kernel_rfl) (by kernel_rfl) (by kernel_rfl) (fun _ _ _ h => h) (Or.inl ⟨by rfl, ?_⟩) hHeld ?_
      rotate_left
      · (intro w hSw; (try dsimp only at hSw); go_simp; try with_reducible rfl)
      try simp only [Act.put, List.setIfInBounds_toArray, List.set_cons_zero, List.set_cons_succ, List.getElem_toArray, List.getElem_cons_succ, List.getElem_cons_zero]
      refine wpAnyH_take (i := 10) (v := ?_) rfl (by kernel_rfl) (by kernel_rfl) (by kernel_rfl) (fun _ _ _ h => h) (Or.inl ⟨by rfl, ?_⟩) hHeld ?_
      rotate_left
      · (intro w hSw; (try dsimp only at hSw); go_simp; try with_reducible rfl)
      try simp only [Act.put, List.setIfInBounds_toArray, List.set_cons_zero, List.set_cons_succ, List.getElem_toArray, List.getElem_cons_succ, List.getElem_cons_zero]
      refine wpAnyH_take (i := 11) (v := ?_) rfl (by kernel_rfl) (by kernel_rfl) (by kernel_rfl) (fun _ _ _ h => h) (Or.inl ⟨by rfl, ?_⟩) hHeld ?_
      rotate_left
      · (intro w hSw; (try dsimp only at hSw); go_simp; try with_reducible rfl)
      try simp only [Act.put, List.setIfInBounds_toArray, List.set_cons_zero, List.set_cons_succ, List.getElem_toArray, List.getElem_cons_succ, List.getElem_cons_zero]
      refine wpAnyH_take (i := 12) (v := ?_) rfl (by kernel_rfl) (by kernel_rfl) (by kernel_rfl) (fun _ _ _ h => h) (Or.inl ⟨by rfl, ?_⟩) hHeld ?_
      rotate_left
      · (intro w hSw; (try dsimp only at hSw); go_simp; try with_reducible rfl)
      try simp only [Act.put, List.setIfInBounds_toArray, List.set_cons_zero, List.set_cons_succ, List.getElem_toArray, List.getElem_cons_succ, List.getElem_cons_zero]
      refine wpAnyH_take (i := 13) (v := ?_) rfl (by kernel_rfl) (by kernel_rfl) (by kernel_rfl) (fun _ _ _ h => h) (Or.inl ⟨by rfl, ?_⟩) hHeld ?_
      rotate_left
      · (intro w hSw; (try dsimp only at hSw); go_simp; try with_reducible rfl)
      try simp only [Act.put, List.setIfInBounds_toArray, List.set_cons_zero, List.set_cons_succ, List.getElem_toArray, List.getElem_cons_succ, List.getElem_cons_zero]
      refine wpAnyH_take (i := 14) (v := ?_) rfl (by kernel_rfl) (by kernel_rfl) (by kernel_rfl) (fun _ _ _ h => h) (Or.inl ⟨by rfl, ?_⟩) hHeld ?_
      rotate_left
      · (intro w hSw; (try dsimp only at hSw); go_simp; try with_reducible rfl)
      try simp only [Act.put, List.setIfInBounds_toArray, List.set_cons_zero, List.set_cons_succ, List.getElem_toArray, List.getElem_cons_succ, List.getElem_cons_zero]
      refine wpAnyH_take (i := 15) (v := ?_) rfl (by kernel_rfl) (by kernel_rfl) (by kernel_rfl) (fun _ _ _ h => h) (Or.inl ⟨by rfl, ?_⟩) hHeld ?_
      rotate_left
      · (intro w hSw; (try dsimp only at hSw); go_simp; try with_reducible rfl)
      try simp only [Act.put, List.setIfInBounds_toArray, List.set_cons_zero, List.set_cons_succ, List.getElem_toArray, List.getElem_cons_succ, List.getElem_cons_zero]
      refine wpAnyH_take (i := 16) (v := ?_) rfl (by kernel_rfl) (by kernel_rfl) (by kernel_rfl) (fun _ _ _ h => h) (Or.inl ⟨by rfl, ?_⟩) hHeld ?_
      rotate_left
      · (intro w hSw; (try dsimp only at hSw); go_simp; try with_reducible rfl)
      try simp only [Act.put, List.setIfInBounds_toArray, List.set_cons_zero, List.set_cons_succ, List.getElem_toArray, List.getElem_cons_succ, List.getElem_cons_zero]
      refine wpAnyH_take (i := 17) (v := ?_) rfl (by kernel_rfl) (by kernel_rfl) (by kernel_rfl) (fun _ _ _ h => h) (Or.inl ⟨by rfl, ?_⟩) hHeld ?_
      rotate_left
      · (intro w hSw; (try dsimp only at hSw); go_simp; try with_reducible rfl)
      try simp only [Act.put, List.setIfInBounds_toArray, List.set_cons_zero, List.set_cons_succ, List.getElem_toArray, List.getElem_cons_succ, List.getElem_cons_zero]
      refine wpAnyH_take (i := 18) (v := ?_) rfl (by kernel_rfl) (by kernel_rfl) (by kernel_rfl) (fun _ _ _ h => h) (Or.inl ⟨by rfl, ?_⟩) hHeld ?_
      rotate_left
      · (intro w hSw; (try dsimp only at hSw); go_simp; try with_reducible rfl)
      try simp only [Act.put, List.setIfInBounds_toArray, List.set_cons_zero, List.set_cons_succ, List.getElem_toArray, List.getElem_cons_succ, List.getElem_cons_zero]
      refine wpAnyH_take (i := 19) (v := ?_) rfl (by kernel_rfl) (by kernel_rfl) (by kernel_rfl) (fun _ _ _ h => h) (Or.inl ⟨by rfl, ?_⟩) hHeld ?_
      rotate_left
      · (intro w hSw; (try dsimp only at hSw); go_simp; try with_reducible rfl)
      try simp only [Act.put, List.setIfInBounds_toArray, List.set_cons_zero, List.set_cons_succ, List.getElem_toArray, List.getElem_cons_succ, List.getElem_cons_zero]
      refine wpAnyH_take (i := 20) (v := ?_) rfl (by kernel_rfl) (by kernel_rfl) (by kernel_rfl) (fun _ _ _ h => h) (Or.inl ⟨by rfl, ?_⟩) hHeld ?_
      rotate_left
      · (intro w hSw; (try dsimp only at hSw); go_simp; try with_reducible rfl)
      try simp only [Act.put, List.setIfInBounds_toArray, List.set_cons_zero, List.set_cons_succ, List.getElem_toArray, List.getElem_cons_succ, List.getElem_cons_zero]
      refine wpAnyH_take (i := 21) (v := ?_) rfl (by kernel_rfl) (by kernel_rfl) (by kernel_rfl) (fun _ _ _ h => h) (Or.inl ⟨by rfl, ?_⟩) hHeld ?_
      rotate_left
      · (intro w hSw; (try dsimp only at hSw); go_simp; try with_reducible rfl)
      try simp only [Act.put, List.setIfInBounds_toArray, List.set_cons_zero, List.set_cons_succ, List.getElem_toArray, List.getElem_cons_succ, List.getElem_cons_zero]
      refine wpAnyH_take (i := 22) (v := ?_) rfl (by kernel_rfl) (by kernel_rfl) (by kernel_rfl) (fun _ _ _ h => h) (Or.inl ⟨by rfl, ?_⟩) hHeld ?_
      rotate_left
      · (intro w hSw; (try dsimp only at hSw); go_simp; try with_reducible rfl)
      try simp only [Act.put, List.setIfInBounds_toArray, List.set_cons_zero, List.set_cons_succ, List.getElem_toArray, List.getElem_cons_succ, List.getElem_cons_zero]
      refine wpAnyH_take (i := 23) (v := ?_) rfl (by kernel_rfl) (by kernel_rfl) (by kernel_rfl) (fun _ _ _ h => h) (Or.inl ⟨by rfl, ?_⟩) hHeld ?_
      rotate_left
      · (intro w hSw; (try dsimp only at hSw); go_simp; try with_reducible rfl)
      try simp only [Act.put, List.setIfInBounds_toArray, List.set_cons_zero, List.set_cons_succ, List.getElem_toArray, List.getElem_cons_succ, List.getElem_cons_zero]
      refine wpAnyH_take (i := 24) (v := ?_) rfl (by kernel_rfl) (by kernel_rfl) (by kernel_rfl) (fun _ _ _ h => h) (Or.inl ⟨by rfl, ?_⟩) hHeld ?_
      rotate_left
      · (intro w hSw; (try dsimp only at hSw); go_simp; try with_reducible rfl)
      try simp only [Act.put, List.setIfInBounds_toArray, List.set_cons_zero, List.set_cons_succ, List.getElem_toArray, List.getElem_cons_succ, List.getElem_cons_zero]
      refine wpAnyH_take (i := 25) (v := ?_) rfl (by kernel_rfl) (by kernel_rfl) (by kernel_rfl) (fun _ _ _ h => h) (Or.inl ⟨by rfl, ?_⟩) hHeld ?_
      rotate_left
      · (intro w hSw; (try dsimp only at hSw); go_simp; try with_reducible rfl)
      try simp only [Act.put, List.setIfInBounds_toArray, List.set_cons_zero, List.set_cons_succ, List.getElem_toArray, List.getElem_cons_succ, List.getElem_cons_zero]
      refine wpAnyH_take (i := 26) (v := ?_) rfl (by kernel_rfl) (by kernel_rfl) (by kernel_rfl) (fun _ _ _ h => h) (Or.inl ⟨by rfl, ?_⟩) hHeld ?_
      rotate_left
      · (intro w hSw; (try dsimp only at hSw); go_simp; try with_reducible rfl)
      try simp only [Act.put, List.setIfInBounds_toArray, List.set_cons_zero, List.set_cons_succ, List.getElem_toArray, List.getElem_cons_succ, List.getElem_cons_zero]
      refine wpAnyH_ready (rs := [1, 27]) (by kernel_rfl) (by decide) (AllReadyH.cons (o := _) rfl (fun K hK' => ?_) (AllReadyH.cons (o := _) rfl (fun K hK' => ?_) AllReadyH.nil))
      · obtain ⟨o1, o2, o3, -⟩ := (hKd.front 2 rfl).cells
        go_simp
        clear o1 o2 o3
        have HG := Lib.hid (SP.out _ (hKd.sel [1] 99 (by decide) (by decide)))
        refine hK'.out _ _ HG.out (fun hHeld2 => ?_)
        clear hK' K hHeld
        have hHeld := hHeld2
        clear hHeld2
        try simp only [Act.put, List.setIfInBounds_toArray]
        refine wpAnyH_ready (rs := [27]) (by kernel_rfl) (by decide) (AllReadyH.cons (o := _) rfl (fun K hK' => ?_) AllReadyH.nil)
        go_simp
        have K9 := hKd.al [.int .i64 z] 2
        have HG := Lib.hid (SP.out _ (K9.sel [2] 99 (by decide) (by decide)))
        refine hK'.out _ _ HG.out (fun hHeld2 => ?_)
        clear hK' K hHeld
        have hHeld := hHeld2
        clear hHeld2
        try simp only [Act.put, List.setIfInBounds_toArray]
        refine wpAnyH_ready (rs := [28]) (by kernel_rfl) (by decide) (AllReadyH.cons (o := _) rfl (fun K hK' => ?_) AllReadyH.nil)
        refine kn_stepI (by rfl) _ _ (by rfl) vv _ (by rfl) (by rfl) K9 HL.out ?_
        intro v' w10 K10
        obtain ⟨A', c', rfl⟩ := row_form K10.at0
        obtain ⟨m9, hm9⟩ : ∃ m, (ss ++ [z]).length = m := ⟨_, rfl⟩
        rw [hm9] at K10
        try rw [hm9]
        have HM9 := Lib.hid hm9
        clear hm9
        have HG := Lib.hid (SP.out _ (K10.sel [1] 99 (by decide) (by decide)))
        refine hK'.out _ _ HG.out (fun hHeld2 => ?_)
        clear hK' K hHeld
        have hHeld := hHeld2
        clear hHeld2
        try simp only [Act.put, List.setIfInBounds_toArray]
        refine wpAnyH_take (i := 29) (v := ?_) rfl (by kernel_rfl) (by kernel_rfl) (by kernel_rfl) (fun _ _ _ h => h) (Or.inl ⟨by rfl, ?_⟩) hHeld ?_
        rotate_left
        · (intro w hSw; (try dsimp only at hSw); go_simp; try with_reducible rfl)
        try simp only [Act.put, List.setIfInBounds_toArray, List.set_cons_zero, List.set_cons_succ, List.getElem_toArray, List.getElem_cons_succ, List.getElem_cons_zero]
        refine wpAnyH_ready (rs := [30]) (by kernel_rfl) (by decide) (AllReadyH.cons (o := _) rfl (fun K hK' => ?_) AllReadyH.nil)
        obtain ⟨s1, s2, s3⟩ := (K10.front 2 rfl).blkAt
        have K11 := (K10.front 2 rfl).st 1 (.slice A' m9 c')
        go_simp
        have HG := Lib.hid (SP.out _ (K11.sel [2] 99 (by decide) (by decide)))
        refine hK'.out _ _ HG.out (fun hHeld2 => ?_)
        clear hK' K hHeld
        have hHeld := hHeld2
        clear hHeld2
        try simp only [Act.put, List.setIfInBounds_toArray]
        refine wpAnyH_done (by kernel_rfl) ?_ _
        clear s1 s2 s3 HG hHeld
        go_wp2_with fail
        go_roundw
        case rel => exact ⟨k + 1, _, by omega, by go_num, by rw [addD_succ, HSS.out, HZ.out, HM9.out]; exact K11.sel [1, 2, 0, 3] 99 (by decide) (by decide)⟩
        case measure => simp [intOf]; omega
      · go_simp
        have K9 := hKd.al [.int .i64 z] 2
        have HG := Lib.hid (SP.out _ (K9.sel [2] 99 (by decide) (by decide)))
        refine hK'.out _ _ HG.out (fun hHeld2 => ?_)
        clear hK' K hHeld
        have hHeld := hHeld2
        clear hHeld2
        try simp only [Act.put, List.setIfInBounds_toArray]
        refine wpAnyH_ready (rs := [1]) (by kernel_rfl) (by decide) (AllReadyH.cons (o := _) rfl (fun K hK' => ?_) AllReadyH.nil)
        obtain ⟨o1, o2, o3, -⟩ := (K9.front 3 rfl).cells
        go_simp
        clear o1 o2 o3
        have HG := Lib.hid (SP.out _ (K9.sel [2] 99 (by decide) (by decide)))
        refine hK'.out _ _ HG.out (fun hHeld2 => ?_)
        clear hK' K hHeld
        have hHeld := hHeld2
        clear hHeld2
        try simp only [Act.put, List.setIfInBounds_toArray]
        refine wpAnyH_ready (rs := [28]) (by kernel_rfl) (by decide) (AllReadyH.cons (o := _) rfl (fun K hK' => ?_) AllReadyH.nil)
        refine kn_stepI (by rfl) _ _ (by rfl) vv _ (by rfl) (by rfl) K9 HL.out ?_
        intro v' w10 K10
        obtain ⟨A', c', rfl⟩ := row_form K10.at0
        obtain ⟨m9, hm9⟩ : ∃ m, (ss ++ [z]).length = m := ⟨_, rfl⟩
        rw [hm9] at K10
        try rw [hm9]
        have HM9 := Lib.hid hm9
        clear hm9
        have HG := Lib.hid (SP.out _ (K10.sel [1] 99 (by decide) (by decide)))
        refine hK'.out _ _ HG.out (fun hHeld2 => ?_)
        clear hK' K hHeld
        have hHeld := hHeld2
        clear hHeld2
        try simp only [Act.put, List.setIfInBounds_toArray]
        refine wpAnyH_take (i := 29) (v := ?_) rfl (by kernel_rfl) (by kernel_rfl) (by kernel_rfl) (fun _ _ _ h => h) (Or.inl ⟨by rfl, ?_⟩) hHeld ?_
        rotate_left
        · (intro w hSw; (try dsimp only at hSw); go_simp; try with_reducible rfl)
        try simp only [Act.put, List.setIfInBounds_toArray, List.set_cons_zero, List.set_cons_succ, List.getElem_toArray, List.getElem_cons_succ, List.getElem_cons_zero]
        refine wpAnyH_ready (rs := [30]) (by kernel_rfl) (by decide) (AllReadyH.cons (o := _) rfl (fun K hK' => ?_) AllReadyH.nil)
        obtain ⟨s1, s2, s3⟩ := (K10.front 2 rfl).blkAt
        have K11 := (K10.front 2 rfl).st 1 (.slice A' m9 c')
        go_simp
        have HG := Lib.hid (SP.out _ (K11.sel [2] 99 (by decide) (by decide)))
        refine hK'.out _ _ HG.out (fun hHeld2 => ?_)
        clear hK' K hHeld
        have hHeld := hHeld2
        clear hHeld2
        try simp only [Act.put, List.setIfInBounds_toArray]
        refine wpAnyH_done (by kernel_rfl) ?_ _
        clear s1 s2 s3 HG hHeld
        go_wp2_with fail
        go_roundw
        case rel => exact ⟨k + 1, _, by omega, by go_num, by rw [addD_succ, HSS.out, HZ.out, HM9.out]; exact K11.sel [1, 2, 0, 3] 99 (by decide) (by decide)⟩
        case measure => simp [intOf]; omega
    · have i1 : ¬ (k : Int) < (xs.length : Int) := by omega
      obtain rfl : k = xs.length := by omega
      obtain ⟨A0, c0, rfl⟩ := row_form hK.at0
      have HL1 := Lib.hid (addD_len b xs ys xs.length)
      rw [addD_len] at hK
      have hce : (cs.map (Value.int .i64))[xs.length]? = some (.int .i64 (carK b xs ys xs.length)) := by rw [← hcg]; simp [hcl]
      obtain ⟨cr, hcr⟩ : ∃ y, carK b xs ys xs.length = y := ⟨_, rfl⟩
      rw [hcr] at hce
      have HCE := Lib.hid hce
      have HCR := Lib.hid hcr
      clear hcg hcl hce hcr hrx hry
      try rw [addD_len]
      have i3 : (xs.length : Int) < (xs.length : Int) + 1 := by omega
      have i4 : (0 : Int) ≤ (xs.length : Int) := by omega
      go_wp2_with fail
      clear x0 x1 y0 y1
      have HF := Lib.hid (fun W (h : Kn w [.row (.slice (some ⟨gc, 0, none⟩) (xs.length + 1) fc) 2 1 (xs.length + 1) (cs.map (Value.int .i64)), .blk gO [.int .i64 b, .slice A0 xs.length c0] 26] W) => And.intro (box2 (h.front 1 rfl)) (And.intro (HX.out W h.below).1.2 (Kn.rowCell h HCE.out).1))
      have HG := Lib.hid (HF.out _ ((hK.drew).sel [1, 2] 99 (by decide) (by decide)))
      have K9 := ((hK.front 3 rfl).st 0 (.int .i64 b)).st 1 (.slice A0 xs.length c0)
      have HT := Lib.hid (HF.out _ ((K9.drew).sel [2, 3] 99 (by decide) (by decide)))
      have HT2 := Lib.hid (HF.out _ (K9.sel [2, 3] 99 (by decide) (by decide)))
      obtain ⟨a1, a2, a3, -⟩ := (hK.front 3 rfl).cells
      go_region_held3 (fun W => (W.cell? ⟨gO, 0, none⟩ = some (.int .i64 b) ∧ W.cell? ⟨gO, 1, none⟩ = some (.slice A0 xs.length c0)) ∧ W.cell? ⟨g1, 1, none⟩ = some (.slice XA xs.length xc) ∧ W.cell? ⟨gc, xs.length, none⟩ = some (.int .i64 cr)) (first | with_reducible exact HG.out | with_reducible exact HT.out | with_reducible exact HT2.out) (fail)
      all_goals
        clear HG HT HT2 HF
        go_wp2_with fail
        first
          | (refine bodyPost.kn K9 ?_; clear K9; intro w9 K9)
          | (refine bodyPost.kn K9.drew ?_; clear K9; intro w9 K9)
        clear a1 a2 a3
        obtain ⟨a1, a2, a3, -⟩ := K9.cells
        refine bodyPost_ret (v := .tuple #[.agg #[.int .i64 b, .slice A0 xs.length c0], .int .i64 cr]) (by simp [results, Try.results38, go_sem, a1]) rfl ?_
        rw [HCR.out]
        exact ⟨A0, c0, rfl, by unfold rowI; rw [HL1.out]; exact K9.sel [1] 99 (by decide) (by decide)⟩
end Go.Proofs.Ytmmiahgmdllgdaa

namespace Go.Proofs.Ytmmiahgmdllgdaa
open Go.RowKit Go.Sort
theorem twoC_zero {b : Int} {xs ys : List Int} (h1 : vreg b xs = true) (h2 : vreg b ys = true) (hl : xs.length = ys.length) : twoC b xs b ys = 0 := by
  simp [twoC, h1, h2, hl]
set_option maxRecDepth 100000 in
set_option maxHeartbeats 3200000 in
theorem specAddRegisters_ok (b : Int) (XA : Option Addr) (xc : Nat) (xs : List Int) (YA : Option Addr) (yc : Nat) (ys : List Int) (w : World) (hx : RI w XA xs.length xs) (hy : RI w YA ys.length ys) (hv1 : vreg b xs = true) (hv2 : vreg b ys = true) (hl : xs.length = ys.length) (hp : pw b xs.length ≤ 1000000000001) :
    Calls Try.prog 7 #[.agg #[.int .i64 b, .slice XA xs.length xc], .agg #[.int .i64 b, .slice YA ys.length yc]] w (R3Ret b (addD b xs ys xs.length) (carK b xs ys xs.length) w) := by
  obtain ⟨⟨b1, b2⟩, ⟨n1, n2⟩, hdx, -⟩ := vreg_iff.1 hv1
  have hdy := (vreg_iff.1 hv2).2.2.1
  have HTW := Lib.hid (fun g1 g2 W (h1 : RegB W g1 b XA xc xs) (h2 : RegB W g2 b YA yc ys) => by
    have h := l02Two_any g1 g2 b XA xc xs b YA yc ys W h1 h2 (by omega) (by omega)
    rw [twoC_zero hv1 hv2 hl] at h
    exact h)
  have HAD := Lib.hid (fun g1 g2 W (h1 : RegB W g1 b XA xc xs) (h2 : RegB W g2 b YA yc ys) => l02Add_any g1 g2 b XA xc xs YA yc ys W h1 h2 b1 b2 hdx hdy hl n2)
  have hva := add_vreg b1 b2 ys n1 n2 hp
  have hal := addD_len b xs ys xs.length
  obtain ⟨ss, hss⟩ : ∃ s, addD b xs ys xs.length = s := ⟨_, rfl⟩
  obtain ⟨cr, hcr⟩ : ∃ s, carK b xs ys xs.length = s := ⟨_, rfl⟩
  rw [hss] at hva hal
  rw [hss, hcr] at HAD ⊢
  unfold R3Ret
  have HAL := Lib.hid hal
  have HOK := Lib.hid (fun (p : Addr) (E : Option Addr) ec W (hq : RegAt W p b E ss.length ec) (h : RI W E ss.length ss) => by
    have h := l02Ok_any p b E ss.length ec ss W hq h (by omega)
    rw [hva] at h
    exact h)
  have HX := Lib.hid (fun W (hW : Below w.heap.size w W) => hx.below hW)
  have HY := Lib.hid (fun W (hW : Below w.heap.size w W) => hy.below hW)
  clear hss hcr hal hva hdx hdy hv1 hv2 hl hp hx hy
  obtain ⟨g1, hg1⟩ : ∃ g, w.heap.size = g := ⟨_, rfl⟩
  have K0 := (((Kn.nil w).al [.int .i64 b, .slice XA xs.length xc] 26).al [.int .i64 b, .slice YA ys.length yc] 26).al [.int .i64 0, .slice none 0 0] 26
  simp only [World.size_alloc, hg1] at K0
  have HRX := Lib.hid (fun W (K : Kn w [.blk (g1 + 1 + 1) [.int .i64 0, .slice none 0 0] 26, .blk (g1 + 1) [.int .i64 b, .slice YA ys.length yc] 26, .blk g1 [.int .i64 b, .slice XA xs.length xc] 26] W) => (show RegB W g1 b XA xc xs from ⟨box2 (K.front 2 rfl), HX.out _ K.below⟩))
  have HRY := Lib.hid (fun W (K : Kn w [.blk (g1 + 1 + 1) [.int .i64 0, .slice none 0 0] 26, .blk (g1 + 1) [.int .i64 b, .slice YA ys.length yc] 26, .blk g1 [.int .i64 b, .slice XA xs.length xc] 26] W) => (show RegB W (g1 + 1) b YA yc ys from ⟨box2 (K.front 1 rfl), HY.out _ K.below⟩))
  rw [← hg1] at *
  go_enter Try.func7, Try.ntmps7
  go_wp2_with (first
    | (go_at_call 37; refine Calls.kn K0 ?_; intro w1 K1; refine (HTW.out _ _ _ (HRX.out _ K1) (HRY.out _ K1)).mono ?_; rintro e w2 ⟨rfl, hw⟩; have K2 := K1.keep hw; clear hw K1; obtain ⟨a1, a2, a3, c1, c2, c3, d1, d2, d3, -⟩ := K2.cells)
    | (go_at_call 38; refine (HAD.out _ _ _ (HRX.out _ K2) (HRY.out _ K2)).mono ?_; rintro e w3 ⟨E, ec, rfl, hK⟩; have K3 := K2.join hK; clear hK a1 a2 a3 c1 c2 c3 d1 d2 d3))
  obtain ⟨gs, hgs⟩ : ∃ g, w3.heap.size = g := ⟨_, rfl⟩
  obtain ⟨n, hn⟩ : ∃ n, xs.length = n := ⟨_, rfl⟩
  have hrow := (K3.front 0 rfl).riv
  unfold rowI at K3
  rw [HAL.out, hn] at K3
  rw [hn] at HAL
  try rw [hn]
  have hA2 := HAL.out
  rw [hA2] at HOK hrow
  clear hA2
  have K4 := K3.al [.int .i64 b, .slice E n ec] 26
  rw [hgs] at K4
  try rw [hgs]
  refine Calls.kn K4 ?_; clear K3 K4 hgs; intro w4 K4
  refine (HOK.out _ E ec _ (box2 (K4.front 0 rfl)) (by have h := (K4.front 1 rfl).ownI.ri; exact h)).mono ?_
  rintro e w5 ⟨rfl, m, rfl⟩
  have K5 := K4.keep (drewN_below m)
  clear K4 K0
  obtain ⟨p1, p2, p3, q1, q2, q3, -⟩ := K5.cells
  obtain ⟨r1, r2, r3, -⟩ := (K5.front 2 rfl).cells
  go_wp2_with fail
  have K7 := ((K5.front 2 rfl).st 0 (.int .i64 b)).st 1 (.slice E n ec)
  refine bodyPost.kn K7 ?_; intro w9 K9
  clear p1 p2 p3 q1 q2 q3 r1 r2 r3
  obtain ⟨a1, a2, a3, -⟩ := K9.cells
  refine bodyPost_ret (v := .tuple #[.agg #[.int .i64 b, .slice E n ec], .int .i64 cr, .int .i64 0]) (by simp [results, Try.results7, go_sem, a1]) rfl ⟨E, ec, by rw [HAL.out], ?_⟩
  unfold rowI
  rw [HAL.out]
  exact K9.sel [2] 99 (by decide) (by decide)
/-! the sum of a row of digits with faults -/
theorem sumL_vreg {b : Int} {xs ys : List Int} {fs : List Flt} (hb : 2 ≤ b) (hb16 : b ≤ 16) (hdx : Digs b xs) (hdy : Digs b ys) (n1 : 1 ≤ xs.length) (n2 : xs.length ≤ 16) (hp : pw b xs.length ≤ 1000000000001) : vreg b (sumL b xs ys fs xs.length) = true := by
  refine vreg_short hb hb16 ?_ (by rw [sumL_len]; exact n1) (by rw [sumL_len]; exact n2) (by rw [sumL_len]; exact hp)
  intro d hd
  obtain ⟨k, -, rfl⟩ := List.mem_map.1 hd
  have h1 := hdx.at hb k
  have h2 := hdy.at hb k
  have h3 := carryAt_bd b xs ys fs k
  unfold sumD
  rw [Int.tmod_eq_emod_of_nonneg (by omega)]
  exact ⟨Int.emod_nonneg _ (by omega), Int.emod_lt_of_pos _ (by omega)⟩
theorem cstep_none {b t c : Int} (hb : 2 ≤ b) (ht : 0 ≤ t) (hc : 0 ≤ c) (hc1 : c ≤ 1) (ht2 : t + c < 2 * b) : cstep b t c 0 = (t + c) / b := by
  unfold cstep
  rw [if_neg (by decide), if_neg (by decide), if_neg (by decide)]
  split
  · exact (Int.ediv_eq_zero_of_lt (by omega) (by omega)).symm
  · have e : t + c = (t + c - b) + 1 * b := by omega
    rw [e, Int.add_mul_ediv_right _ _ (by omega), Int.ediv_eq_zero_of_lt (by omega) (by omega)]
    rfl
theorem carryAt_none {b : Int} {xs ys : List Int} (hb : 2 ≤ b) (hdx : Digs b xs) (hdy : Digs b ys) (k : Nat) : carryAt b xs ys [] k = carK b xs ys k := by
  induction k with
  | zero => rfl
  | succ k ih =>
    have h1 := hdx.at hb k
    have h2 := hdy.at hb k
    have h3 := carryAt_bd b xs ys [] k
    rw [carryAt, carK, ← ih]
    exact cstep_none hb (by omega) h3.1 h3.2 (by omega)
theorem sumL_none {b : Int} {xs ys : List Int} (hb : 2 ≤ b) (hdx : Digs b xs) (hdy : Digs b ys) (n : Nat) : sumL b xs ys [] n = addD b xs ys n := by
  unfold sumL addD
  refine List.map_congr_left fun k _ => ?_
  have h1 := hdx.at hb k
  have h2 := hdy.at hb k
  have h3 := carryAt_bd b xs ys [] k
  unfold sumD sumK
  rw [Int.tmod_eq_emod_of_nonneg (by omega), carryAt_none hb hdx hdy]
end Go.Proofs.Ytmmiahgmdllgdaa

namespace Go.Proofs.Ytmmiahgmdllgdaa
open Go.RowKit Go.Sort
/-! the first phase: the wheels turned, and which levers are cocked -/
def turnK (b : Int) (xs ys : List Int) (k : Nat) : Int := (xs.getD k 0 + ys.getD k 0) % b
def turnD (b : Int) (xs ys : List Int) (n : Nat) : List Int := (List.range n).map (turnK b xs ys)
def cockK (b : Int) (xs ys : List Int) (k : Nat) : Bool := decide (b ≤ xs.getD k 0 + ys.getD k 0)
def cockL (b : Int) (xs ys : List Int) (n : Nat) : List Bool := (List.range n).map (cockK b xs ys)
theorem turnD_succ (b : Int) (xs ys : List Int) (n : Nat) : turnD b xs ys (n + 1) = turnD b xs ys n ++ [turnK b xs ys n] := by unfold turnD; rw [List.range_succ, List.map_append]; rfl
theorem turnD_len (b : Int) (xs ys : List Int) (n : Nat) : (turnD b xs ys n).length = n := by simp [turnD]
theorem cockL_succ (b : Int) (xs ys : List Int) (n : Nat) : cockL b xs ys (n + 1) = cockL b xs ys n ++ [cockK b xs ys n] := by unfold cockL; rw [List.range_succ, List.map_append]; rfl
theorem cockL_len (b : Int) (xs ys : List Int) (n : Nat) : (cockL b xs ys n).length = n := by simp [cockL]
theorem turnD_digs {b : Int} (hb : 2 ≤ b) (xs ys : List Int) (n : Nat) : Digs b (turnD b xs ys n) := by
  intro d hd
  obtain ⟨k, -, rfl⟩ := List.mem_map.1 hd
  exact ⟨Int.emod_nonneg _ (by omega), Int.emod_lt_of_pos _ (by omega)⟩
theorem tpBl : TP 83 4 (.bool false) 1 1 := ⟨Try.underlying83, by kernel_rfl, rfl, by decide⟩
def rowBl (C : Option Addr) (cc : Nat) (bs : List Bool) : Ent := .row (.slice C bs.length cc) 4 1 bs.length (bs.map Value.bool)
set_option maxRecDepth 100000 in
set_option maxHeartbeats 6400000 in
theorem turned_any (b : Int) (XA : Option Addr) (xc : Nat) (xs : List Int) (YA : Option Addr) (yc : Nat) (ys : List Int) (w : World) (hx : RI w XA xs.length xs) (hy : RI w YA ys.length ys) (hb : 2 ≤ b) (hb16 : b ≤ 16) (hdx : Digs b xs) (hdy : Digs b ys) (hl : xs.length = ys.length) (hm : xs.length ≤ 16) :
    Calls Try.prog 42 #[.agg #[.int .i64 b, .slice XA xs.length xc], .agg #[.int .i64 b, .slice YA ys.length yc]] w fun e w' => ∃ E ec C cc, e = .returned (.tuple #[.agg #[.int .i64 b, .slice E xs.length ec], .slice C xs.length cc]) ∧ Kn w [rowI E ec (turnD b xs ys xs.length), rowBl C cc (cockL b xs ys xs.length)] w' := by
  have HX := Lib.hid (fun W (hW : Below w.heap.size w W) => hx.below hW)
  have HY := Lib.hid (fun W (hW : Below w.heap.size w W) => hy.below hW)
  have HDX := Lib.hid hdx
  have HDY := Lib.hid hdy
  have HLL := Lib.hid hl
  clear hdx hdy hl hx hy
  obtain ⟨g, hg⟩ : ∃ g, w.heap.size = g := ⟨_, rfl⟩
  have K0 := (((((Kn.nil w).al [.int .i64 b, .slice XA xs.length xc] 26).al [.int .i64 b, .slice YA ys.length yc] 26).al [.int .i64 0, .slice none 0 0] 26).al [] 4)
  simp only [World.size_alloc, hg] at K0
  go_enter Try.func42, Try.ntmps42
  go_upto_region 2 with fail
  have K1 := K0.litRow (size := 1) (n := 0) rfl (by decide)
  have K2 := K1.al [.int .i64 b, .slice none 0 0] 26
  simp only [World.size_alloc, hg] at K2
  try rw [hg]
  refine Code.wp.kn K2 ?_; clear K0 K1 K2; intro w2 K2
  obtain ⟨p1, p2, p3, -⟩ := (K2.front 4 rfl).cells
  go_wp2_with fail
  have K4 : Kn w [.row (.slice none 0 0) 2 1 (turnD b xs ys 0).length ((turnD b xs ys 0).map (Value.int .i64)), .row (.slice (some ⟨g + 1 + 1 + 1, 0, none⟩) 0 0) 4 1 (cockL b xs ys 0).length ((cockL b xs ys 0).map Value.bool), .blk (g + 1 + 1 + 1 + 1) [.int .i64 b, .slice none 0 0] 26, .blk (g + 1 + 1) [.int .i64 0, .slice none 0 0] 26, .blk (g + 1) [.int .i64 b, .slice YA ys.length yc] 26, .blk g [.int .i64 b, .slice XA xs.length xc] 26] w2 := (K2.nilRow 2 1).sel [0, 2, 1, 3, 4, 5] 99 (by decide) (by decide)
  clear K2 p1 p2 p3 hg
  obtain ⟨gO, hgO⟩ : ∃ q, g + 1 + 1 + 1 + 1 = q := ⟨_, rfl⟩
  rw [hgO] at K4
  try rw [hgO]
  clear hgO
  go_loopw [7, 18] (fun bb ii wr => ∃ (k : Nat) (vv bvv : Value), k ≤ xs.length ∧ ii = .int .i64 (k : Int) ∧ bvv = bb ∧ Kn w [.row vv 2 1 (turnD b xs ys k).length ((turnD b xs ys k).map (Value.int .i64)), .row bvv 4 1 (cockL b xs ys k).length ((cockL b xs ys k).map Value.bool), .blk gO [.int .i64 b, vv] 26, .blk (g + 1 + 1) [.int .i64 0, .slice none 0 0] 26, .blk (g + 1) [.int .i64 b, .slice YA ys.length yc] 26, .blk g [.int .i64 b, .slice XA xs.length xc] 26] wr) (fun _ ii _ => xs.length - (intOf ii).toNat)
  case atStart => exact ⟨0, _, _, Nat.zero_le _, rfl, rfl, K4⟩
  case round =>
    clear K4
    obtain ⟨k, vv, bvv, hk, rfl, rfl, hK⟩ := hrel
    have hrx := HX.out _ hK.below
    have hry := HY.out _ hK.below
    obtain ⟨p1, p2, p3, -⟩ := (hK.front 5 rfl).cells
    obtain ⟨c1, c2, c3, -⟩ := (hK.front 4 rfl).cells
    by_cases hkn : k < xs.length
    · have i1 : (k : Int) < (xs.length : Int) := by omega
      have i0 : (0 : Int) ≤ (k : Int) := by omega
      have hkny : k < ys.length := by have := HLL.out; omega
      have i2 : (k : Int) < (ys.length : Int) := by omega
      obtain ⟨adx, hA, hltx, hkx, hcx⟩ := hrx.at_ hkn
      obtain ⟨ady, hB, hlty, hky, hcy⟩ := hry.at_ hkny
      have bx := HDX.out xs[k] (List.getElem_mem hkn)
      have bY := HDY.out ys[k] (List.getElem_mem hkny)
      have hZ : turnK b xs ys k = (xs[k] + ys[k]) % b := by rw [turnK, getD_of hkn, getD_of hkny]
      have hCK : cockK b xs ys k = decide (b ≤ xs[k] + ys[k]) := by rw [cockK, getD_of hkn, getD_of hkny]
      obtain ⟨x, hxx⟩ : ∃ x, xs[k] = x := ⟨_, rfl⟩
      obtain ⟨y, hyy⟩ : ∃ y, ys[k] = y := ⟨_, rfl⟩
      rw [hxx] at bx hZ hCK hcx
      rw [hyy] at bY hZ hCK hcy
      obtain ⟨s0, hs0⟩ : ∃ s, x + y = s := ⟨_, rfl⟩
      have q1 : IntKind.i64.wrap (x + y) = s0 := by rw [hs0]; exact wrapI (by omega)
      rw [hs0] at hZ hCK
      obtain ⟨z, hz⟩ : ∃ z, s0 % b = z := ⟨_, rfl⟩
      rw [hz] at hZ
      have r1 : Int.tmod s0 b = z := by rw [Int.tmod_eq_emod_of_nonneg (by omega)]; exact hz
      have r0 : ¬ b = 0 := by omega
      have HZ := Lib.hid hZ
      have HCK := Lib.hid hCK
      have HCL := Lib.hid (show (cockL b xs ys k).length ≤ 16 by rw [cockL_len]; omega)
      subst hA
      subst hB
      obtain ⟨ss, hss⟩ : ∃ ss, turnD b xs ys k = ss := ⟨_, rfl⟩
      have hL : ss.length ≤ 10000000 := by rw [← hss, turnD_len]; omega
      rw [hss] at hK
      have HSS := Lib.hid hss
      have HL := Lib.hid hL
      clear hxx hyy hZ hCK hz hs0 hss hL hrx hry
      have SP := Lib.hid (fun W (h : Kn w [.blk g [.int .i64 b, .slice (some adx) xs.length xc] 26] W) => (show W.cell? ⟨g, 0, none⟩ = some (.int .i64 b) from h.blkAt.1 0))
      go_wp2_with fail
      clear p1 p2 p3 c1 c2 c3 hcx hcy
      have hKd := hK.drew
      have HG := Lib.hid (SP.out _ (hKd.sel [5] 99 (by decide) (by decide)))
      refine wp_region_held_drew (S := (fun W => W.cell? ⟨g, 0, none⟩ = some (.int .i64 b))) (by kernel_rfl) ?_ (fun hHeld => ?_)
      · exact HG.out
      try dsimp only
      generalize wr.drew = wd at hKd HG hHeld ⊢
      clear hK
      refine wpAnyH_take (i := 0) (v := ?_) rfl (by kernel_rfl) (by kernel_rfl) (by kernel_rfl) (fun _ _ _ h => h) (Or.inl ⟨by rfl, ?_⟩) hHeld ?_
      rotate_left
      · (intro w hSw; (try dsimp only at hSw); go_simp; try with_reducible rfl)
      try simp only [Act.put, List.setIfInBounds_toArray, List.set_cons_zero, List.set_cons_succ, List.getElem_toArray, List.getElem_cons_succ, List.getElem_cons_zero]
      refine wpAnyH_take (i := 2) (v := ?_) rfl (by kernel_rfl) (by kernel_rfl) (by kernel_rfl) (fun _ _ _ h => h) (Or.inl ⟨by rfl, ?_⟩) hHeld ?_
      rotate_left
      · (intro w hSw; (try dsimp only at hSw); go_simp; try with_reducible rfl)
      try simp only [Act.put, List.setIfInBounds_toArray, List.set_cons_zero, List.set_cons_succ, List.getElem_toArray, List.getElem_cons_succ, List.getElem_cons_zero]
      refine wpAnyH_take (i := 3) (v := ?_) rfl (by kernel_rfl) (by kernel_rfl) (by kernel_rfl) (fun _ _ _ h => h) (Or.inl ⟨by rfl, ?_⟩) hHeld ?_
      rotate_left
      · (intro w hSw; (try dsimp only at hSw); go_simp; try with_reducible rfl)
      try simp only [Act.put, List.setIfInBounds_toArray, List.set_cons_zero, List.set_cons_succ, List.getElem_toArray, List.getElem_cons_succ, List.getElem_cons_zero]
      refine wpAnyH_take (i := 4) (v := ?_) rfl (by kernel_rfl) (by kernel_rfl) (by kernel_rfl) (fun _ _ _ h => h) (Or.inl ⟨by rfl, ?_⟩) hHeld ?_
      rotate_left
      · (intro w hSw; (try dsimp only at hSw); go_simp; try with_reducible rfl)
      try simp only [Act.put, List.setIfInBounds_toArray, List.set_cons_zero, List.set_cons_succ, List.getElem_toArray, List.getElem_cons_succ, List.getElem_cons_zero]
      refine wpAnyH_take (i := 5) (v := ?_) rfl (by kernel_rfl) (by kernel_rfl) (by kernel_rfl) (fun _ _ _ h => h) (Or.inl ⟨by rfl, ?_⟩) hHeld ?_
      rotate_left
      · (intro w hSw; (try dsimp only at hSw); go_simp; try with_reducible rfl)
      try simp only [Act.put, List.setIfInBounds_toArray, List.set_cons_zero, List.set_cons_succ, List.getElem_toArray, List.getElem_cons_succ, List.getElem_cons_zero]
      refine wpAnyH_ready (rs := [1, 6]) (by kernel_rfl) (by decide) (AllReadyH.cons (o := _) rfl (fun K hK' => ?_) (AllReadyH.cons (o := _) rfl (fun K hK' => ?_) AllReadyH.nil))
      · obtain ⟨o1, o2, o3, -⟩ := (hKd.front 2 rfl).cells
        go_simp
        clear o1 o2 o3
        have HG := Lib.hid (SP.out _ (hKd.sel [5] 99 (by decide) (by decide)))
        refine hK'.out _ _ HG.out (fun hHeld2 => ?_)
        clear hK' K hHeld
        have hHeld := hHeld2
        clear hHeld2
        try simp only [Act.put, List.setIfInBounds_toArray]
        refine wpAnyH_ready (rs := [6]) (by kernel_rfl) (by decide) (AllReadyH.cons (o := _) rfl (fun K hK' => ?_) AllReadyH.nil)
        go_simp
        have K9 := hKd.al [.int .i64 z] 2
        have HG := Lib.hid (SP.out _ (K9.sel [6] 99 (by decide) (by decide)))
        refine hK'.out _ _ HG.out (fun hHeld2 => ?_)
        clear hK' K hHeld
        have hHeld := hHeld2
        clear hHeld2
        try simp only [Act.put, List.setIfInBounds_toArray]
        refine wpAnyH_ready (rs := [7]) (by kernel_rfl) (by decide) (AllReadyH.cons (o := _) rfl (fun K hK' => ?_) AllReadyH.nil)
        refine kn_stepI (by rfl) _ _ (by rfl) vv _ (by rfl) (by rfl) K9 HL.out ?_
        intro v' w10 K10
        obtain ⟨A', c', rfl⟩ := row_form K10.at0
        obtain ⟨m9, hm9⟩ : ∃ m, (ss ++ [z]).length = m := ⟨_, rfl⟩
        rw [hm9] at K10
        try rw [hm9]
        have HM9 := Lib.hid hm9
        clear hm9
        have HG := Lib.hid (SP.out _ (K10.sel [5] 99 (by decide) (by decide)))
        refine hK'.out _ _ HG.out (fun hHeld2 => ?_)
        clear hK' K hHeld
        have hHeld := hHeld2
        clear hHeld2
        try simp only [Act.put, List.setIfInBounds_toArray]
        refine wpAnyH_take (i := 8) (v := ?_) rfl (by kernel_rfl) (by kernel_rfl) (by kernel_rfl) (fun _ _ _ h => h) (Or.inl ⟨by rfl, ?_⟩) hHeld ?_
        rotate_left
        · (intro w hSw; (try dsimp only at hSw); go_simp; try with_reducible rfl)
        try simp only [Act.put, List.setIfInBounds_toArray, List.set_cons_zero, List.set_cons_succ, List.getElem_toArray, List.getElem_cons_succ, List.getElem_cons_zero]
        refine wpAnyH_ready (rs := [9]) (by kernel_rfl) (by decide) (AllReadyH.cons (o := _) rfl (fun K hK' => ?_) AllReadyH.nil)
        obtain ⟨s1, s2, s3⟩ := (K10.front 2 rfl).blkAt
        have K11 := (K10.front 2 rfl).st 1 (.slice A' m9 c')
        go_simp
        have HG := Lib.hid (SP.out _ (K11.sel [5] 99 (by decide) (by decide)))
        refine hK'.out _ _ HG.out (fun hHeld2 => ?_)
        clear hK' K hHeld
        have hHeld := hHeld2
        clear hHeld2
        try simp only [Act.put, List.setIfInBounds_toArray]
        refine wpAnyH_done (by kernel_rfl) ?_ _
        clear s1 s2 s3 HG hHeld
        have KQ : Kn w [.row bvv 4 1 (cockL b xs ys k).length ((cockL b xs ys k).map Value.bool), .blk gO [.int .i64 b, .slice A' m9 c'] 26, .row (.slice A' m9 c') 2 1 m9 ((ss ++ [z]).map (Value.int .i64)), .blk (g + 1 + 1) [.int .i64 0, .slice none 0 0] 26, .blk (g + 1) [.int .i64 b, .slice (some ady) ys.length yc] 26, .blk g [.int .i64 b, .slice (some adx) xs.length xc] 26] _ := K11.sel [2, 0, 1, 3, 4, 5] 99 (by decide) (by decide)
        go_upto_region 7 with fail
        refine Code.wp.kn KQ ?_; clear KQ K11 K10; intro w11 KQ
        obtain ⟨p1, p2, p3, -⟩ := (KQ.front 5 rfl).cells
        go_wp2_with (at_builtin; refine kn_app tpBl rfl _ _ rfl _ (cockL b xs ys k).length ((cockL b xs ys k).map Value.bool) rfl rfl (KQ.al [.bool (decide (b ≤ s0))] 4) rfl (by simp [Value.oneCell']) (by have := HCL.out; omega) (by have := HCL.out; omega) ?_; intro bv2 w12 K12)
        have e1 : (cockL b xs ys k).length + 1 = (cockL b xs ys (k + 1)).length := by simp [cockL_len]
        have e2 : (cockL b xs ys k).map Value.bool ++ [Value.bool (decide (b ≤ s0))] = (cockL b xs ys (k + 1)).map Value.bool := by rw [cockL_succ, HCK.out, List.map_append]; rfl
        rw [e1, e2] at K12
        clear e1 e2
        go_roundw
        case rel => exact ⟨k + 1, _, bv2, by omega, by go_num, rfl, by rw [turnD_succ, HSS.out, HZ.out, HM9.out]; exact K12.sel [2, 0, 1, 3, 4, 5] 99 (by decide) (by decide)⟩
        case measure => simp [intOf]; omega
      · go_simp
        have K9 := hKd.al [.int .i64 z] 2
        have HG := Lib.hid (SP.out _ (K9.sel [6] 99 (by decide) (by decide)))
        refine hK'.out _ _ HG.out (fun hHeld2 => ?_)
        clear hK' K hHeld
        have hHeld := hHeld2
        clear hHeld2
        try simp only [Act.put, List.setIfInBounds_toArray]
        refine wpAnyH_ready (rs := [1]) (by kernel_rfl) (by decide) (AllReadyH.cons (o := _) rfl (fun K hK' => ?_) AllReadyH.nil)
        obtain ⟨o1, o2, o3, -⟩ := (K9.front 3 rfl).cells
        go_simp
        clear o1 o2 o3
        have HG := Lib.hid (SP.out _ (K9.sel [6] 99 (by decide) (by decide)))
        refine hK'.out _ _ HG.out (fun hHeld2 => ?_)
        clear hK' K hHeld
        have hHeld := hHeld2
        clear hHeld2
        try simp only [Act.put, List.setIfInBounds_toArray]
        refine wpAnyH_ready (rs := [7]) (by kernel_rfl) (by decide) (AllReadyH.cons (o := _) rfl (fun K hK' => ?_) AllReadyH.nil)
        refine kn_stepI (by rfl) _ _ (by rfl) vv _ (by rfl) (by rfl) K9 HL.out ?_
        intro v' w10 K10
        obtain ⟨A', c', rfl⟩ := row_form K10.at0
        obtain ⟨m9, hm9⟩ : ∃ m, (ss ++ [z]).length = m := ⟨_, rfl⟩
        rw [hm9] at K10
        try rw [hm9]
        have HM9 := Lib.hid hm9
        clear hm9
        have HG := Lib.hid (SP.out _ (K10.sel [5] 99 (by decide) (by decide)))
        refine hK'.out _ _ HG.out (fun hHeld2 => ?_)
        clear hK' K hHeld
        have hHeld := hHeld2
        clear hHeld2
        try simp only [Act.put, List.setIfInBounds_toArray]
        refine wpAnyH_take (i := 8) (v := ?_) rfl (by kernel_rfl) (by kernel_rfl) (by kernel_rfl) (fun _ _ _ h => h) (Or.inl ⟨by rfl, ?_⟩) hHeld ?_
        rotate_left
        · (intro w hSw; (try dsimp only at hSw); go_simp; try with_reducible rfl)
        try simp only [Act.put, List.setIfInBounds_toArray, List.set_cons_zero, List.set_cons_succ, List.getElem_toArray, List.getElem_cons_succ, List.getElem_cons_zero]
        refine wpAnyH_ready (rs := [9]) (by kernel_rfl) (by decide) (AllReadyH.cons (o := _) rfl (fun K hK' => ?_) AllReadyH.nil)
        obtain ⟨s1, s2, s3⟩ := (K10.front 2 rfl).blkAt
        have K11 := (K10.front 2 rfl).st 1 (.slice A' m9 c')
        go_simp
        have HG := Lib.hid (SP.out _ (K11.sel [5] 99 (by decide) (by decide)))
        refine hK'.out _ _ HG.out (fun hHeld2 => ?_)
        clear hK' K hHeld
        have hHeld := hHeld2
        clear hHeld2
        try simp only [Act.put, List.setIfInBounds_toArray]
        refine wpAnyH_done (by kernel_rfl) ?_ _
        clear s1 s2 s3 HG hHeld
        have KQ : Kn w [.row bvv 4 1 (cockL b xs ys k).length ((cockL b xs ys k).map Value.bool), .blk gO [.int .i64 b, .slice A' m9 c'] 26, .row (.slice A' m9 c') 2 1 m9 ((ss ++ [z]).map (Value.int .i64)), .blk (g + 1 + 1) [.int .i64 0, .slice none 0 0] 26, .blk (g + 1) [.int .i64 b, .slice (some ady) ys.length yc] 26, .blk g [.int .i64 b, .slice (some adx) xs.length xc] 26] _ := K11.sel [2, 0, 1, 3, 4, 5] 99 (by decide) (by decide)
        go_upto_region 7 with fail
        refine Code.wp.kn KQ ?_; clear KQ K11 K10; intro w11 KQ
        obtain ⟨p1, p2, p3, -⟩ := (KQ.front 5 rfl).cells
        go_wp2_with (at_builtin; refine kn_app tpBl rfl _ _ rfl _ (cockL b xs ys k).length ((cockL b xs ys k).map Value.bool) rfl rfl (KQ.al [.bool (decide (b ≤ s0))] 4) rfl (by simp [Value.oneCell']) (by have := HCL.out; omega) (by have := HCL.out; omega) ?_; intro bv2 w12 K12)
        have e1 : (cockL b xs ys k).length + 1 = (cockL b xs ys (k + 1)).length := by simp [cockL_len]
        have e2 : (cockL b xs ys k).map Value.bool ++ [Value.bool (decide (b ≤ s0))] = (cockL b xs ys (k + 1)).map Value.bool := by rw [cockL_succ, HCK.out, List.map_append]; rfl
        rw [e1, e2] at K12
        clear e1 e2
        go_roundw
        case rel => exact ⟨k + 1, _, bv2, by omega, by go_num, rfl, by rw [turnD_succ, HSS.out, HZ.out, HM9.out]; exact K12.sel [2, 0, 1, 3, 4, 5] 99 (by decide) (by decide)⟩
        case measure => simp [intOf]; omega
    · have i1 : ¬ (k : Int) < (xs.length : Int) := by omega
      obtain rfl : k = xs.length := by omega
      obtain ⟨A0, c0, rfl⟩ := row_form hK.at0
      obtain ⟨C0, d0, rfl⟩ := row_form hK.sw1.at0
      rw [turnD_len, cockL_len] at hK
      have HT1 := Lib.hid (turnD_len b xs ys xs.length)
      have HT2 := Lib.hid (cockL_len b xs ys xs.length)
      try rw [turnD_len]
      try rw [cockL_len]
      clear p1 p2 p3 c1 c2 c3 hrx hry
      obtain ⟨p1, p2, p3, -⟩ := (hK.front 2 rfl).cells
      obtain ⟨c1, c2, c3, -⟩ := (hK.front 3 rfl).cells
      go_wp2_with fail
      have K9 := ((hK.front 3 rfl).st 0 (.int .i64 b)).st 1 (.slice A0 xs.length c0)
      refine bodyPost.kn K9 ?_; clear K9; intro w9 K9
      clear p1 p2 p3 c1 c2 c3
      obtain ⟨a1, a2, a3, -⟩ := K9.cells
      refine bodyPost_ret (v := .tuple #[.agg #[.int .i64 b, .slice A0 xs.length c0], .slice C0 xs.length d0]) (by simp [results, Try.results42, go_sem, a1]) rfl ⟨A0, c0, C0, d0, rfl, ?_⟩
      unfold rowI rowBl
      rw [HT1.out, HT2.out]
      exact K9.sel [1, 2] 99 (by decide) (by decide)
end Go.Proofs.Ytmmiahgmdllgdaa

namespace Go.Proofs.Ytmmiahgmdllgdaa
open Go.RowKit Go.Sort
theorem divmod2 {b u : Int} (hb : 0 < b) (h0 : 0 ≤ u) (h1 : u < 2 * b) : (u < b ∧ u % b = u ∧ u / b = 0) ∨ (b ≤ u ∧ u % b = u - b ∧ u / b = 1) := by
  by_cases h : u < b
  · exact .inl ⟨h, Int.emod_eq_of_lt h0 h, Int.ediv_eq_zero_of_lt h0 h⟩
  · refine .inr ⟨by omega, ?_, ?_⟩
    · have e : u = (u - b) + b * 1 := by omega
      rw [e, Int.add_mul_emod_self_left, Int.emod_eq_of_lt (by omega) (by omega)]
      omega
    · have e : u = (u - b) + 1 * b := by omega
      rw [e, Int.add_mul_ediv_right _ _ (by omega), Int.ediv_eq_zero_of_lt (by omega) (by omega)]
      omega
/-- digits and levers behind the first k pushes -/
def digP (b : Int) (xs ys : List Int) (k i : Nat) : Int := if i ≤ k then sumK b xs ys i else turnK b xs ys i
def levP (b : Int) (xs ys : List Int) (k i : Nat) : Bool := if i ≤ k then decide (carK b xs ys (i + 1) = 1) else cockK b xs ys i
def digPL (b : Int) (xs ys : List Int) (n k : Nat) : List Int := (List.range n).map (digP b xs ys k)
def levPL (b : Int) (xs ys : List Int) (n k : Nat) : List Bool := (List.range n).map (levP b xs ys k)
/-- the levers that are pushed -/
def levL (b : Int) (xs ys : List Int) (n : Nat) : List Bool := (List.range n).map fun i => decide (carK b xs ys (i + 1) = 1)
theorem digPL_len (b : Int) (xs ys : List Int) (n k : Nat) : (digPL b xs ys n k).length = n := by simp [digPL]
theorem levPL_len (b : Int) (xs ys : List Int) (n k : Nat) : (levPL b xs ys n k).length = n := by simp [levPL]
theorem levL_len (b : Int) (xs ys : List Int) (n : Nat) : (levL b xs ys n).length = n := by simp [levL]
section
variable {b : Int} {xs ys : List Int} (hb : 2 ≤ b) (hdx : Digs b xs) (hdy : Digs b ys)
include hb hdx hdy
theorem pp_zero : sumK b xs ys 0 = turnK b xs ys 0 ∧ decide (carK b xs ys 1 = 1) = cockK b xs ys 0 := by
  have h1 := hdx.at hb 0
  have h2 := hdy.at hb 0
  constructor
  · rw [sumK, carK, turnK, Int.add_zero]
  · rw [carK, carK, cockK, Int.add_zero]
    rcases divmod2 (b := b) (u := xs.getD 0 0 + ys.getD 0 0) (by omega) (by omega) (by omega) with ⟨a1, a2, a3⟩ | ⟨a1, a2, a3⟩
    · rw [a3]; exact decide_eq_decide.2 (by omega)
    · rw [a3]; exact decide_eq_decide.2 (by omega)
theorem pp_no {k : Nat} (hc : carK b xs ys (k + 1) = 0) : sumK b xs ys (k + 1) = turnK b xs ys (k + 1) ∧ decide (carK b xs ys (k + 1 + 1) = 1) = cockK b xs ys (k + 1) := by
  have h1 := hdx.at hb (k + 1)
  have h2 := hdy.at hb (k + 1)
  constructor
  · rw [sumK, hc, turnK, Int.add_zero]
  · rw [carK, hc, cockK, Int.add_zero]
    rcases divmod2 (b := b) (u := xs.getD (k + 1) 0 + ys.getD (k + 1) 0) (by omega) (by omega) (by omega) with ⟨a1, a2, a3⟩ | ⟨a1, a2, a3⟩
    · rw [a3]; exact decide_eq_decide.2 (by omega)
    · rw [a3]; exact decide_eq_decide.2 (by omega)
theorem pp_yes {k : Nat} (hc : carK b xs ys (k + 1) = 1) :
    (turnK b xs ys (k + 1) + 1 = b ∧ sumK b xs ys (k + 1) = 0 ∧ carK b xs ys (k + 1 + 1) = 1) ∨
    (turnK b xs ys (k + 1) + 1 ≠ b ∧ sumK b xs ys (k + 1) = turnK b xs ys (k + 1) + 1 ∧ decide (carK b xs ys (k + 1 + 1) = 1) = cockK b xs ys (k + 1)) := by
  have h1 := hdx.at hb (k + 1)
  have h2 := hdy.at hb (k + 1)
  rw [carK, hc, cockK, sumK, hc, turnK]
  obtain ⟨u, hu⟩ : ∃ u, xs.getD (k + 1) 0 + ys.getD (k + 1) 0 = u := ⟨_, rfl⟩
  rw [hu]
  rcases divmod2 (b := b) (u := u) (by omega) (by omega) (by omega) with ⟨a1, a2, a3⟩ | ⟨a1, a2, a3⟩ <;>
  rcases divmod2 (b := b) (u := u + 1) (by omega) (by omega) (by omega) with ⟨c1, c2, c3⟩ | ⟨c1, c2, c3⟩ <;>
  rw [a2, c2, c3]
  · exact .inr ⟨by omega, by omega, decide_eq_decide.2 (by omega)⟩
  · exact .inl ⟨by omega, by omega, by omega⟩
  · omega
  · exact .inr ⟨by omega, by omega, decide_eq_decide.2 (by omega)⟩
theorem digPL_zero (n : Nat) : digPL b xs ys n 0 = turnD b xs ys n := by
  unfold digPL turnD
  refine List.map_congr_left fun i _ => ?_
  unfold digP
  split
  · obtain rfl : i = 0 := by omega
    exact (pp_zero hb hdx hdy).1
  · rfl
theorem levPL_zero (n : Nat) : levPL b xs ys n 0 = cockL b xs ys n := by
  unfold levPL cockL
  refine List.map_congr_left fun i _ => ?_
  unfold levP
  split
  · obtain rfl : i = 0 := by omega
    exact (pp_zero hb hdx hdy).2
  · rfl
theorem PL_no {n k : Nat} (h : carK b xs ys (k + 1) = 0) : digPL b xs ys n (k + 1) = digPL b xs ys n k ∧ levPL b xs ys n (k + 1) = levPL b xs ys n k := by
  obtain ⟨p1, p2⟩ := pp_no hb hdx hdy h
  constructor
  · refine List.map_congr_left fun i _ => ?_
    unfold digP
    by_cases h1 : i ≤ k
    · rw [if_pos h1, if_pos (by omega)]
    · rw [if_neg h1]
      split
      · obtain rfl : i = k + 1 := by omega
        exact p1
      · rfl
  · refine List.map_congr_left fun i _ => ?_
    unfold levP
    by_cases h1 : i ≤ k
    · rw [if_pos h1, if_pos (by omega)]
    · rw [if_neg h1]
      split
      · obtain rfl : i = k + 1 := by omega
        exact p2
      · rfl
omit hb hdx hdy in
theorem digPL_set (n k : Nat) (h : k + 1 < n) : digPL b xs ys n (k + 1) = (digPL b xs ys n k).set (k + 1) (sumK b xs ys (k + 1)) := by
  apply List.ext_getElem (by simp [digPL])
  intro i h1 h2
  rw [List.getElem_set]
  simp only [digPL, List.getElem_map, List.getElem_range, digP]
  by_cases e : k + 1 = i
  · subst e; simp
  · rw [if_neg e]
    by_cases h3 : i ≤ k
    · rw [if_pos h3, if_pos (by omega)]
    · rw [if_neg h3, if_neg (by omega)]
omit hb hdx hdy in
theorem levPL_set (n k : Nat) (h : k + 1 < n) : levPL b xs ys n (k + 1) = (levPL b xs ys n k).set (k + 1) (decide (carK b xs ys (k + 1 + 1) = 1)) := by
  apply List.ext_getElem (by simp [levPL])
  intro i h1 h2
  rw [List.getElem_set]
  simp only [levPL, List.getElem_map, List.getElem_range, levP]
  by_cases e : k + 1 = i
  · subst e; simp
  · rw [if_neg e]
    by_cases h3 : i ≤ k
    · rw [if_pos h3, if_pos (by omega)]
    · rw [if_neg h3, if_neg (by omega)]
omit hb hdx hdy in
theorem digPL_end (n : Nat) : digPL b xs ys n n = addD b xs ys n ∧ levPL b xs ys n n = levL b xs ys n := by
  constructor
  · refine List.map_congr_left fun i hi => ?_
    have := List.mem_range.1 hi
    unfold digP
    rw [if_pos (by omega)]
  · refine List.map_congr_left fun i hi => ?_
    have := List.mem_range.1 hi
    unfold levP
    rw [if_pos (by omega)]
end
end Go.Proofs.Ytmmiahgmdllgdaa

namespace Go.Proofs.Ytmmiahgmdllgdaa
open Go.RowKit Go.Sort
/-! equal registers, whatever they are -/
theorem specSameRegister_any (r s : Reg) (A B : Option Addr) (c d : Nat) (w : World) (hr : RI w A r.digits.length r.digits) (hs : RI w B s.digits.length s.digits) (hm : SmallReg r) (hm2 : SmallReg s) :
    Calls Try.prog 9 #[.agg #[.int .i64 r.base, .slice A r.digits.length c], .agg #[.int .i64 s.base, .slice B s.digits.length d]] w fun e w' => e = .returned (.bool (sameR r s)) ∧ Below w.heap.size w w' := by
  have HR := Lib.hid (fun W (hW : Below w.heap.size w W) => hr.below hW)
  have HS := Lib.hid (fun W (hW : Below w.heap.size w W) => hs.below hW)
  have HM := Lib.hid hm
  have HM2 := Lib.hid hm2
  clear hr hs hm hm2
  go_enter Try.func9, Try.ntmps9
  go_wp2_with fail
  refine Calls.kn (((Kn.nil w).al [.int .i64 r.base, .slice A r.digits.length c] 26).al [.int .i64 s.base, .slice B s.digits.length d] 26) ?_; intro w1 K1
  simp only [World.size_alloc] at K1
  refine (l02Same_any ⟨w.heap.size, 0, none⟩ ⟨w.heap.size + 1, 0, none⟩ r s w1 ⟨A, c, box2 (K1.front 1 rfl), HR.out _ K1.below⟩ ⟨B, d, box2 (K1.front 0 rfl), HS.out _ K1.below⟩ HM.out HM2.out).mono ?_
  rintro e w2 ⟨rfl, q, rfl⟩
  have K2 := K1.drewN q
  go_wp2_with fail
  go_ret
  exact ⟨rfl, K2.below⟩
/-- the sum of levers differs from the true sum -/
def showsB (ss ts : List Int) (c d : Int) : Bool := !(decide (ss = ts)) || !(decide (c = d))
end Go.Proofs.Ytmmiahgmdllgdaa

namespace Go.Proofs.Ytmmiahgmdllgdaa
open Go.RowKit Go.Sort
def BlM (w : World) (p : Addr) (b : Bool) : Prop := w.cell? p = some (.bool b)
theorem steady_BlM : Steady BlM := by
  intro w w' p s hp hb h
  unfold BlM at *
  rw [hb.cell hp]; exact h
theorem Kn.rlBl {w0 w : World} {m : List Ent} {A : Option Addr} {c : Nat} {bs : List Bool} (h : Kn w0 (rowBl A c bs :: m) w) : RL BlM 1 w A bs.length bs := by
  have h0 : w.ownsRow 0 4 1 (.slice A bs.length c) bs.length (bs.map Value.bool) := h.at0
  refine ⟨rfl, fun hn => ?_⟩
  rcases h0.2 with ⟨hv, hn'⟩ | ⟨g, cap, cur, hv, -, hg, -⟩
  · omega
  · injection hv with h1 h2 h3
    refine ⟨_, h1, (Array.getElem?_eq_some_iff.1 hg).1, fun k hk => ?_⟩
    rw [h1] at h0
    have := h0.cells (g := g) rfl k _ (by rw [List.getElem?_map, List.getElem?_eq_getElem hk]; rfl)
    rw [Nat.mul_one]
    exact this
theorem lastCarry_any (C : Option Addr) (n c : Nat) (bs : List Bool) (w : World) (hr : RL BlM 1 w C (n + 1) bs) (hn : n ≤ 1000) :
    Calls Try.prog 44 #[.slice C (n + 1) c] w fun e w' => e = .returned (.int .i64 (if bs.getD n false then 1 else 0)) ∧ Below w.heap.size w w' := by
  obtain ⟨ad, hA, hlt, hk, f1⟩ := hr.at_ (show n < n + 1 by omega)
  unfold BlM at f1
  rw [Nat.mul_one] at f1
  have e : bs.getD n false = bs[n] := by simp [List.getD_eq_getElem?_getD, hk]
  rw [e]
  obtain ⟨b, hb⟩ : ∃ b, bs[n] = b := ⟨_, rfl⟩
  rw [hb] at f1 ⊢
  subst hA
  have q1 : IntKind.i64.wrap ((n : Int) + 1 - 1) = (n : Int) := by rw [wrapI64 (by omega)]; omega
  have q2 : ((n : Int) + 1 - 1) = (n : Int) := by omega
  have i0 : (0 : Int) ≤ (n : Int) := by omega
  have i1 : (n : Int) < (n : Int) + 1 := by omega
  clear hb e hr
  cases b
  all_goals
    go_enter Try.func44, Try.ntmps44
    go_wp2_with fail
    go_ret
    exact ⟨by rfl, Below.refl _ _⟩
section
variable {ops : Array Oper} {o : Oper} {a : Act} {Q : Exit → Act → World → Prop} {w0 w : World} {m : List Ent}
/-- append(s, x..) in a drawn region, x a row that is only read -/
theorem kn_step_appC {K : Act → World → Prop} {E : Prop} {t e : TypeId} {z : Value} {size bytes : Nat} (T : TP t e z size bytes) (hgd : o.guard = none) (s x : Operand) (ho : o.op = .call { callee := .builtin .append, args := #[s, x], argTypes := #[t, t] })
    (v : Value) (n : Nat) (xs : List Value) (hs : a.eval s = v) {ad : Addr} {c k : Nat} {l : List Value} (hx : a.eval x = .slice (some ad) k c) (hc : ∀ j u, l[j]? = some u → w.cell? (ad.add j) = some u)
    (hK : Kn w0 (.row v e size n xs :: m) w) (hl : l.length = k * size) (h1 : ∀ u ∈ l, u.oneCell' = true)
    (h63 : n + k ≤ 1000000000000000) (hb : (n + k) * bytes ≤ 140737488355328)
    (h : ∀ v' w', Kn w0 (.row v' e size (n + k) (xs ++ l) :: m) w' → K (a.put o.dst v') w') : if Region.wanted o (yielded ops a.tmps) = true then Oper.wp Try.prog o a w K Q else E := by
  have hw : Region.wanted o (yielded ops a.tmps) = true := by simp [Region.wanted, hgd]
  rw [if_pos hw]
  obtain ⟨i0, hi, hz0, hz1, hz2⟩ := info_parts T.info
  obtain ⟨v', w', hrun, h2, h3, _, h5⟩ := run_append_own_at (P := Try.prog) w 0 t o.type e i0 z size bytes T.under hi hz0 hz1 hz2 T.zc T.pos v n xs hK.at0 ad k c l hl hc h1 (by simp only [maxLen]; omega) hb (Nat.zero_le _)
  unfold Oper.wp execOp
  simp only [ho, resolve, invoke, builtin, Sem.run_bind, Sem.run_pure, Result.andThen_ok, List.map_toArray, List.map_cons, List.map_nil, hs, hx, hrun]
  exact h v' w' (hK.grow h3 h2 h5)
end
end Go.Proofs.Ytmmiahgmdllgdaa

namespace Go.Proofs.Ytmmiahgmdllgdaa
open Go.RowKit Go.Sort
def evPut (b : Int) (ds : List Int) (i : Nat) (s : Int) : List Int := ds.set i ((ds.getD i 0 + s) % b)
/-- the first k wheels are turned -/
def tuP (b : Int) (xs ys : List Int) (k i : Nat) : Int := if i < k then turnK b xs ys i else xs.getD i 0
def tuPL (b : Int) (xs ys : List Int) (n k : Nat) : List Int := (List.range n).map (tuP b xs ys k)
theorem tuPL_zero (b : Int) (xs ys : List Int) : tuPL b xs ys xs.length 0 = xs := by
  apply List.ext_getElem (by simp [tuPL])
  intro i h1 h2
  simp [tuPL, tuP, List.getD_eq_getElem?_getD, h2]
theorem tuPL_end (b : Int) (xs ys : List Int) (n : Nat) : tuPL b xs ys n n = turnD b xs ys n := by
  unfold tuPL turnD
  refine List.map_congr_left fun i hi => ?_
  rw [tuP, if_pos (List.mem_range.1 hi)]
theorem tuPL_getD {b : Int} {xs ys : List Int} {n k i : Nat} (h : i < n) : (tuPL b xs ys n k).getD i 0 = tuP b xs ys k i := by
  simp [tuPL, List.getD_eq_getElem?_getD, h]
theorem tuPL_set {b : Int} {xs ys : List Int} {n k : Nat} (h : k < n) : evPut b (tuPL b xs ys n k) k (ys.getD k 0) = tuPL b xs ys n (k + 1) := by
  unfold evPut
  rw [tuPL_getD h]
  apply List.ext_getElem (by simp [tuPL])
  intro i h1 h2
  rw [List.getElem_set]
  simp only [tuPL, List.getElem_map, List.getElem_range, tuP]
  by_cases e : k = i
  · subst e; simp [turnK]
  · rw [if_neg e]
    by_cases h3 : i < k
    · rw [if_pos h3, if_pos (by omega)]
    · rw [if_neg h3, if_neg (by omega)]
section
variable {b : Int} {xs ys : List Int} (hb : 2 ≤ b) (hdx : Digs b xs) (hdy : Digs b ys)
include hb hdx
theorem tuPL_keep {n k : Nat} (_h : k < n) (h0 : ys.getD k 0 = 0) : tuPL b xs ys n (k + 1) = tuPL b xs ys n k := by
  apply List.ext_getElem (by simp [tuPL])
  intro i h1 h2
  simp only [tuPL, List.getElem_map, List.getElem_range, tuP]
  by_cases e : k = i
  · subst e
    rw [if_pos (by omega), if_neg (by omega), turnK, h0, Int.add_zero]
    have := hdx.at hb k
    exact Int.emod_eq_of_lt this.1 this.2
  · by_cases h3 : i < k
    · rw [if_pos h3, if_pos (by omega)]
    · rw [if_neg h3, if_neg (by omega)]
include hdy
theorem car_one (k : Nat) : carK b xs ys k = 0 ∨ carK b xs ys k = 1 := by
  have := carK_bd hb hdx hdy k
  omega
theorem cock_lev {k : Nat} (h : cockK b xs ys k = true) : carK b xs ys (k + 1) = 1 := by
  have h1 := hdx.at hb k
  have h2 := hdy.at hb k
  have h3 := car_one hb hdx hdy k
  have h4 : b ≤ xs.getD k 0 + ys.getD k 0 := of_decide_eq_true h
  rw [carK]
  rcases divmod2 (b := b) (u := xs.getD k 0 + ys.getD k 0 + carK b xs ys k) (by omega) (by omega) (by omega) with ⟨a1, a2, a3⟩ | ⟨a1, a2, a3⟩
  · omega
  · exact a3
omit hb hdx hdy in
/-- a lever that is pushed turns the next wheel -/
theorem push_set {n k : Nat} (h : k + 1 < n) (hc : carK b xs ys (k + 1) = 1) : evPut b (digPL b xs ys n k) (k + 1) 1 = digPL b xs ys n (k + 1) := by
  rw [digPL_set n k h]
  unfold evPut
  congr 1
  have hg : (digPL b xs ys n k).getD (k + 1) 0 = turnK b xs ys (k + 1) := by
    simp only [digPL, List.getD_eq_getElem?_getD, List.getElem?_map, List.getElem?_range h, Option.map_some, Option.getD_some]
    unfold digP; rw [if_neg (by omega)]
  rw [hg, turnK, sumK, hc, Int.emod_add_emod]
omit hb hdx hdy in
theorem push_last {n k : Nat} (h : ¬ k + 1 < n) (hk : k < n) : evPut b (digPL b xs ys n k) (k + 1) 1 = digPL b xs ys n (k + 1) := by
  unfold evPut
  rw [List.set_eq_of_length_le (by rw [digPL_len]; omega)]
  refine List.map_congr_left fun i hi => ?_
  have := List.mem_range.1 hi
  unfold digP
  rw [if_pos (by omega), if_pos (by omega)]
omit hb hdx hdy in
theorem push_any {n k : Nat} (hk : k < n) (hc : carK b xs ys (k + 1) = 1) : evPut b (digPL b xs ys n k) (k + 1) 1 = digPL b xs ys n (k + 1) := by
  by_cases h : k + 1 < n
  · exact push_set h hc
  · exact push_last h hk
end
/-- how many of the first levers are pushed -/
def levN (b : Int) (xs ys : List Int) : Nat → Nat
  | 0 => 0
  | k + 1 => levN b xs ys k + (if carK b xs ys (k + 1) = 1 then 1 else 0)
theorem levN_le (b : Int) (xs ys : List Int) (k : Nat) : levN b xs ys k ≤ k := by
  induction k with
  | zero => exact Nat.le_refl _
  | succ k ih => rw [levN]; split <;> omega
theorem levL_get {b : Int} {xs ys : List Int} {n k : Nat} (h : k < n) : (levL b xs ys n)[k]? = some (decide (carK b xs ys (k + 1) = 1)) := by
  simp [levL, h]
theorem cockL_get {b : Int} {xs ys : List Int} {n k : Nat} (h : k < n) : (cockL b xs ys n)[k]? = some (cockK b xs ys k) := by
  simp [cockL, h]
end Go.Proofs.Ytmmiahgmdllgdaa
