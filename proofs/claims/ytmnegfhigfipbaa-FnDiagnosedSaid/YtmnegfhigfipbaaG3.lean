import Derived.Test.YtmnegfhigfipbaaG2
import Derived.Deep.RegionLaw
import Derived.Deep.AppendLies
namespace Go.Proofs.Ytmnegfhigfipbaa
open Go.RowKit Go.Sort
/-- a register under construction in block G -/
def SumAt (w : World) (G : Nat) (base : Int) (v : Value) (ds : List Int) : Prop := w.heap[G]? = some (.cells #[.int .i64 base, v] 60 (0, 0)) ∧ OwnI w (G + 1) v ds
theorem own_ne {w : World} {G : Nat} {v : Value} {ds : List Int} (h : OwnI w (G + 1) v ds) : ∀ k, v.ownBlock = some k → G + 1 ≤ k := by
  intro k hk
  rcases h.2 with ⟨rfl, _⟩ | ⟨g, cap, cur, rfl, hbg, _⟩
  · simp [Value.ownBlock] at hk
  · have : g = k := by simpa [Value.ownBlock] using hk
    omega
theorem SumAt.lt {w : World} {G : Nat} {base : Int} {v : Value} {ds : List Int} (h : SumAt w G base v ds) : G < w.heap.size := (Array.getElem?_eq_some_iff.1 h.1).1
theorem SumAt.far {w w1 : World} {G : Nat} {base : Int} {v : Value} {ds : List Int} {o : Obj} (h : SumAt w G base v ds) (hg : (w.alloc o).grownBy w1 v.ownBlock) :
    w1.heap[G]? = some (.cells #[.int .i64 base, v] 60 (0, 0)) ∧ w1.cell? ⟨G, 0, none⟩ = some (.int .i64 base) ∧ w1.cell? ⟨G, 1, none⟩ = some v ∧ w1.frozen? ⟨G, 1, none⟩ = false := by
  have h1 : w1.heap[G]? = some (.cells #[.int .i64 base, v] 60 (0, 0)) := by
    rw [hg.block G (by simp; have := h.lt; omega) (fun e => by have := own_ne h.2 G e.symm; omega), heap_alloc_old _ _ h.lt]; exact h.1
  exact ⟨h1, by rw [cell_of_row _ _ _ _ _ _ h1]; rfl, by rw [cell_of_row _ _ _ _ _ _ h1]; rfl, frozen_of_row _ _ _ _ _ h1⟩
theorem SumAt.cells {w : World} {G : Nat} {base : Int} {v : Value} {ds : List Int} (h : SumAt w G base v ds) : w.cell? ⟨G, 0, none⟩ = some (.int .i64 base) ∧ w.cell? ⟨G, 1, none⟩ = some v ∧ w.frozen? ⟨G, 1, none⟩ = false :=
  ⟨by rw [cell_of_row _ _ _ _ _ _ h.1]; rfl, by rw [cell_of_row _ _ _ _ _ _ h.1]; rfl, frozen_of_row _ _ _ _ _ h.1⟩
theorem SumAt.step {w w1 : World} {G : Nat} {base x : Int} {v v' : Value} {ds : List Int} {o : Obj} (h : SumAt w G base v ds) (hg : (w.alloc o).grownBy w1 v.ownBlock)
    (ho : w1.ownsRow (G + 1) 2 1 v' (ds.length + 1) (ds.map (Value.int .i64) ++ [.int .i64 x])) :
    SumAt (w1.setCell ⟨G, 1, none⟩ v') G base v' (ds ++ [x]) ∧ ∀ B, B ≤ G → Below B w (w1.setCell ⟨G, 1, none⟩ v') := by
  have hlt := h.lt
  refine ⟨⟨?_, ?_⟩, fun B hB => ?_⟩
  · rw [heap_setCell_same _ _ _ _ _ _ (h.far hg).1]; rfl
  · refine OwnI.setBelow ?_ (by simp) v'
    unfold OwnI; simpa using ho
  · refine Below.setCell ?_ (by exact hB) _
    exact ((Below.refl _ _).alloc (by omega) _).grown hg (by simp; omega) (fun k hk => by have := own_ne h.2 k hk; omega)
theorem OwnI.ri {w : World} {base n c : Nat} {A : Option Addr} {ds : List Int} (h : OwnI w base (.slice A n c) ds) : RI w A n ds := by
  obtain ⟨A', c', h1, h2, -⟩ := h.reads
  injection h1 with h1 h3 h4
  rw [h1, h3]; exact h2
theorem wrapI64 {n : Int} (h : -9223372036854775808 ≤ n ∧ n ≤ 9223372036854775807) : IntKind.i64.wrap n = n := by
  rw [IntKind.wrap_i64]; omega
def carryAt (base : Int) (A B : List Int) (fs : List Flt) : Nat → Int
  | 0 => 0
  | k + 1 => cstep base (A.getD k 0 + B.getD k 0) (carryAt base A B fs k) (kindAt fs k)
def sumD (base : Int) (A B : List Int) (fs : List Flt) (k : Nat) : Int := (A.getD k 0 + B.getD k 0 + carryAt base A B fs k).tmod base
def sumL (base : Int) (A B : List Int) (fs : List Flt) (n : Nat) : List Int := (List.range n).map (sumD base A B fs)
theorem sumL_succ (base : Int) (A B : List Int) (fs : List Flt) (n : Nat) : sumL base A B fs (n + 1) = sumL base A B fs n ++ [sumD base A B fs n] := by simp [sumL, List.range_succ]
theorem sumL_len (base : Int) (A B : List Int) (fs : List Flt) (n : Nat) : (sumL base A B fs n).length = n := by simp [sumL]
theorem cstep_bd (base t c k : Int) : 0 ≤ cstep base t c k ∧ cstep base t c k ≤ 1 := by unfold cstep; split <;> (try split) <;> (try split) <;> (try split) <;> omega
theorem carryAt_bd (base : Int) (A B : List Int) (fs : List Flt) (k : Nat) : 0 ≤ carryAt base A B fs k ∧ carryAt base A B fs k ≤ 1 := by
  cases k with
  | zero => simp [carryAt]
  | succ k => exact cstep_bd _ _ _ _
theorem getD_of {ds : List Int} {k : Nat} (h : k < ds.length) : ds.getD k 0 = ds[k] := by simp [List.getD, List.getElem?_eq_getElem h]
set_option maxRecDepth 100000 in
set_option maxHeartbeats 1600000 in
theorem l08Add_any (p q : Addr) (a b : Reg) (A : Option Addr) (m c : Nat) (fs : List Flt) (w : World) (hp : RegM w p a) (hq : RegM w q b) (hpl : p.block < w.heap.size) (hql : q.block < w.heap.size) (hr : RL FltM 2 w A m fs)
    (hab : a.digits.length = b.digits.length) (hn : a.digits.length ≤ 16) (hb1 : 2 ≤ a.base) (hb2 : a.base ≤ 16) (hda : ∀ d ∈ a.digits, 0 ≤ d ∧ d < a.base) (hdb : ∀ d ∈ b.digits, 0 ≤ d ∧ d < a.base)
    (hg : GoodF a.digits.length fs) (hm : m ≤ 9223372036854775807) :
    Calls Try.prog 66 #[.pointer (some p), .pointer (some q), .slice A m c] w fun e w' => ∃ A' c', e = .returned (.tuple #[.agg #[.int .i64 a.base, .slice A' a.digits.length c'], .int .i64 (carryAt a.base a.digits b.digits fs a.digits.length)]) ∧
      OwnI w' w.heap.size (.slice A' a.digits.length c') (sumL a.base a.digits b.digits fs a.digits.length) ∧ Below w.heap.size w w' := by
  obtain ⟨A1, c1, ⟨ha0, ha1⟩, hra⟩ := hp
  obtain ⟨A2, c2, ⟨hq0, hq1⟩, hrb⟩ := hq
  obtain ⟨i0, hi, hz0, hz1, hz2⟩ := info_parts info_i64
  have HAB := Lib.hid hab; clear hab
  have hb0 : Below w.heap.size w (w.alloc (.cells #[.int .i64 0, .slice none 0 0] 60)) := (Below.refl _ _).alloc (Nat.le_refl _) _
  have u1 : (w.alloc (.cells #[.int .i64 0, .slice none 0 0] 60)).cell? ⟨p.block, p.off + 1, none⟩ = some (.slice A1 a.digits.length c1) := by rw [hb0.cell (by exact hpl)]; exact ha1
  go_enter Try.func66, Try.ntmps66
  go_wp2_with fail
  refine (l08Kinds_any a.digits.length A m c fs _ (hr.below steady_FltM hb0) hg hn hm).mono ?_; rintro e w1 ⟨X, x, rfl, ox, hw1⟩
  have hbA : Below w.heap.size w w1 := hb0.trans (hw1.mono (by simp))
  obtain ⟨hc, hf⟩ := bcellB (B := w.heap.size + 1) (hw1.mono (by simp))
  have q0 : w1.cell? ⟨w.heap.size, 0, none⟩ = some (.int .i64 0) := by go_simp
  have q1 : w1.cell? ⟨w.heap.size, 1, none⟩ = some (.slice none 0 0) := by go_simp
  have q2 : w1.frozen? ⟨w.heap.size, 0, none⟩ = false := by go_simp
  have q3 : w1.frozen? ⟨w.heap.size, 1, none⟩ = false := by go_simp
  have z1 : w.heap.size + 1 ≤ w1.heap.size := by have := hw1.size; simpa using this
  have y0 : w1.cell? p = some (.int .i64 a.base) := by rw [hbA.cell hpl]; exact ha0
  have y1 : w1.cell? ⟨p.block, p.off + 1, none⟩ = some (.slice A1 a.digits.length c1) := by rw [hbA.cell (by exact hpl)]; exact ha1
  have y2 : w1.cell? ⟨q.block, q.off + 1, none⟩ = some (.slice A2 b.digits.length c2) := by rw [hbA.cell (by exact hql)]; exact hq1
  have rX : RI w1 X a.digits.length (kindsL fs a.digits.length) := ox.ri
  have rA := hra.below hbA
  have rB := hrb.below hbA
  have pl1 : p.block < w1.heap.size := by omega
  have ql1 : q.block < w1.heap.size := by omega
  clear ha0 ha1 hq0 hq1 hra hrb hr ox u1
  go_wp2_with fail
  go_loopw [11, 10] (fun i cy wr => ∃ (k : Nat) (v : Value), k ≤ a.digits.length ∧ i = .int .i64 k ∧ cy = .int .i64 (carryAt a.base a.digits b.digits fs k) ∧ SumAt wr w1.heap.size a.base v (sumL a.base a.digits b.digits fs k) ∧ Below w1.heap.size w1 wr) (fun i _ _ => a.digits.length - (intOf i).toNat)
  case atStart => exact ⟨0, _, Nat.zero_le _, rfl, rfl, ⟨heap_alloc_new _ _, OwnI.nil _ _⟩, (Below.refl _ _).alloc (Nat.le_refl _) _⟩
  case round =>
    obtain ⟨k, v, hk, rfl, rfl, hS, hbr⟩ := hrel
    have HX := Lib.hid (carryAt_bd a.base a.digits b.digits fs k)
    by_cases hkn : k < a.digits.length
    · obtain ⟨ad1, hA1, hlt1, hk1, hd1⟩ := rA.at_ hkn
      rw [← hbr.cell (by rw [block_of_add]; exact hlt1)] at hd1
      obtain ⟨ad2, hA2, hlt2, hk2, hd2⟩ := rB.at_ (show k < b.digits.length from HAB.out ▸ hkn)
      rw [← hbr.cell (by rw [block_of_add]; exact hlt2)] at hd2
      obtain ⟨ad3, hA3, hlt3, hk3, hd3⟩ := rX.at_ hkn
      rw [← hbr.cell (by rw [block_of_add]; exact hlt3)] at hd3
      have e3 : (kindsL fs a.digits.length)[k] = kindAt fs (k : Int) := by simp [kindsL]
      rw [e3] at hd3
      have b1 := hda _ (List.getElem_mem hk1)
      have b2 := hdb _ (List.getElem_mem hk2)
      have v0 : wr.cell? p = some (.int .i64 a.base) := by rw [hbr.cell pl1]; exact y0
      have v1 : wr.cell? ⟨p.block, p.off + 1, none⟩ = some (.slice A1 a.digits.length c1) := by rw [hbr.cell (by exact pl1)]; exact y1
      have v2 : wr.cell? ⟨q.block, q.off + 1, none⟩ = some (.slice A2 b.digits.length c2) := by rw [hbr.cell (by exact ql1)]; exact y2
      obtain ⟨s1, s2, s3⟩ := hS.cells
      have HC := Lib.hid (show carryAt a.base a.digits b.digits fs (k + 1) = cstep a.base (a.digits[k] + b.digits[k]) (carryAt a.base a.digits b.digits fs k) (kindAt fs k) by rw [← getD_of hk1, ← getD_of hk2]; rfl)
      have HD := Lib.hid (show sumD a.base a.digits b.digits fs k = (a.digits[k] + b.digits[k] + carryAt a.base a.digits b.digits fs k).tmod a.base by rw [← getD_of hk1, ← getD_of hk2]; rfl)
      have hkb : (k : Int) < (b.digits.length : Int) := by have := HAB.out; omega
      have hka : (k : Int) < (a.digits.length : Int) := by omega
      have hk0 : (0 : Int) ≤ (k : Int) := by omega
      obtain ⟨cy, hcy⟩ : ∃ cy, cy = carryAt a.base a.digits b.digits fs k := ⟨_, rfl⟩
      obtain ⟨h0, h1⟩ := HX.out
      obtain ⟨kd, hkd⟩ : ∃ kd, kd = kindAt fs (k : Int) := ⟨_, rfl⟩
      obtain ⟨ak, hak⟩ : ∃ ak, ak = a.digits[k] := ⟨_, rfl⟩
      obtain ⟨bk, hbk⟩ : ∃ bk, bk = b.digits[k] := ⟨_, rfl⟩
      rw [← hcy] at h0 h1
      rw [← hcy, ← hkd, ← hak, ← hbk] at HC
      rw [← hcy, ← hak, ← hbk] at HD
      rw [← hak] at hd1 b1
      rw [← hbk] at hd2 b2
      rw [← hkd] at hd3
      rw [← hcy]
      clear hcy hkd hak hbk e3
      subst hA1; subst hA2; subst hA3
      have hS' := Lib.hid hS
      have HO := Lib.hid (fun (n : Nat) (o : Obj) => World.ownsRow.alloc (w := (wr.drewN n).drew) hS.2 o)
      have hbr' := Lib.hid hbr
      have hGl := hS.lt
      clear hS hbr
      have hB1 := Lib.hid hlt3
      go_wp2
      go_quiet (fail)
      go_wp2
      have nz1 : a.base ≠ 0 := by omega
      have nz2 : (a.base == 0) = false := by simp; omega
      have nz3 : ¬ a.base = 0 := by omega
      have wr2 : IntKind.i64.wrap (ak + bk + cy) = ak + bk + cy := wrapI64 (by omega)
      have sA : ((wr.drewN (nq + 1)).alloc (.cells #[.int .i64 ((ak + bk + cy).tmod a.base)] 2)).cell? ⟨w1.heap.size, 1, none⟩ = some v := by rw [World.cell?_alloc_lt _ _ _ (by exact hGl)]; exact s2
      go_region_law (refine step_append_lies _ rfl (.tmp 50) (.tmp 59) 37 rfl (w1.heap.size + 1) 2 i0 _ 1 8 Try.underlying37 hi hz0 hz1 hz2 rfl (by decide) v _ _ (by simp [Act.eval]) (HO.out _ _) ⟨wr.heap.size, 0, none⟩ 1 1 [.int .i64 ((ak + bk + cy).tmod a.base)] (by simp [Act.eval, Act.put]) rfl (World.news_of_block (heap_alloc_new _ _)) (by simp [Value.oneCell']) (by decide) (by rw [sumL_len]; unfold maxLen; omega) (by rw [sumL_len]; omega) (by simp; omega) _ rfl ?_; intro gg cap w2 hown2 hgrow2 hat2 hlt2; obtain ⟨t1, t2, t3, t4⟩ := SumAt.far (w := (wr.drewN nq).drew) hS'.out hgrow2)
      all_goals
        obtain ⟨hS3, hB3⟩ := SumAt.step (w := (wr.drewN nq).drew) hS'.out hgrow2 hown2
        obtain ⟨w3, hw3⟩ : ∃ w3, w3 = w2.setCell ⟨w1.heap.size, 1, none⟩ (.slice (some ⟨gg, 0, none⟩) ((sumL a.base a.digits b.digits fs k).length + 1) cap) := ⟨_, rfl⟩
        rw [← hw3] at hS3 hB3
        have hb3 : Below w1.heap.size wr w3 := (below_drewN (Below.refl w1.heap.size wr) (nq + 1)).trans (hB3 _ (Nat.le_refl _))
        have x0 : w3.cell? p = some (.int .i64 a.base) := by rw [hb3.cell pl1]; exact v0
        have x3 : w3.cell? (ad3.add k) = some (.int .i64 kd) := by rw [hb3.cell (by rw [block_of_add]; exact hB1.out)]; exact hd3
        clear hgrow2 hown2 t1 t2 t3 t4 sA hat2
        rw [← hw3]
        clear hw3
        go_wp2
        go_quiet ((go_at_call 92; exact quiet_left (l08Carry_any _ _ _ _ _ (by omega) (by omega) h0 h1)))
        go_wp2
        go_roundw
        case rel => exact ⟨k + 1, _, by omega, by go_num, by rw [HC.out], by rw [sumL_succ, HD.out]; exact hS3, hbr'.out.trans (below_drewN hb3 _)⟩
        case measure => simp [intOf]; omega
    · have HK : Hid (k = a.digits.length) := by simp only [Hid]; omega
      have v1 : wr.cell? ⟨p.block, p.off + 1, none⟩ = some (.slice A1 a.digits.length c1) := by rw [hbr.cell (by exact pl1)]; exact y1
      obtain ⟨s1, s2, s3⟩ := hS.cells
      have m0 : wr.cell? ⟨w.heap.size, 0, none⟩ = some (.int .i64 0) := by rw [hbr.cell (by exact z1)]; exact q0
      have m1 : wr.cell? ⟨w.heap.size, 1, none⟩ = some (.slice none 0 0) := by rw [hbr.cell (by exact z1)]; exact q1
      have m2 : wr.frozen? ⟨w.heap.size, 0, none⟩ = false := by rw [hbr.frozen (by exact z1)]; exact q2
      have m3 : wr.frozen? ⟨w.heap.size, 1, none⟩ = false := by rw [hbr.frozen (by exact z1)]; exact q3
      obtain ⟨A', c', rfl, hri, hge⟩ := hS.2.reads
      have hO := Lib.hid hS.2
      have hbr' := Lib.hid hbr
      clear hS hbr
      go_wp2_with fail
      refine bodyPost_ret (v := .tuple #[.agg #[.int .i64 a.base, .slice A' (sumL a.base a.digits b.digits fs k).length c'], .int .i64 (carryAt a.base a.digits b.digits fs k)]) (by simp [results, Try.results66, go_sem, m0, m1, m2, m3]) rfl ⟨A', c', ?_, ?_, ?_⟩
      · rw [HK.out, sumL_len]
      · have h1 := hO.out
        rw [HK.out] at h1
        rw [sumL_len] at h1
        exact (((h1.setBelow (by simp <;> omega) _).setBelow (by simp <;> omega) _)).mono (by omega)
      · exact ((hbA.trans (hbr'.out.mono (by omega))).setCell (by simp) _).setCell (by simp) _
end Go.Proofs.Ytmnegfhigfipbaa
