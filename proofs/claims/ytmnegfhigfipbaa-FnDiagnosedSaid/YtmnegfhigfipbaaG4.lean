import Derived.Test.YtmnegfhigfipbaaG3
import Derived.Maps.OwnOps
import Derived.Maps.OwnSet
import Derived.Maps.Views
namespace Go.Proofs.Ytmnegfhigfipbaa
open Go.RowKit Go.Sort Go.Maps
theorem law_i64 : Keyed Try.prog 2 := int_keyed Try.underlying2
theorem zero_i64 (w : World) : (zeroValue 2).run Try.prog w = .ok (.int .i64 0) w := by kernel_rfl
def MapIs (D : DataW Unit) (fs : List Flt) : Prop := IsMap D ∧ ∀ j : Int, D.atKey (.int .i64 j) (.lit (.int .i64 0)) = .lit (.int .i64 (kindAt fs j))
theorem MapIs.nil : MapIs (.map []) [] := ⟨⟨_, rfl⟩, fun _ => rfl⟩
theorem MapIs.put {D : DataW Unit} {fs : List Flt} {k : Nat} (h : MapIs D (fs.take k)) (hk : k < fs.length) : MapIs (D.put (.int .i64 fs[k].lever) (.lit (.int .i64 fs[k].kind))) (fs.take (k + 1)) := by
  obtain ⟨h1, h2⟩ := h
  refine ⟨?_, fun j => ?_⟩
  · obtain ⟨es, rfl⟩ := h1
    exact ⟨_, rfl⟩
  · rw [kindAt_succ hk]
    by_cases g : fs[k].lever = j
    · rw [if_pos g, g, atKey_put_same h1 (by trivial)]
    · rw [if_neg g, atKey_put_other (by intro e; injection e with _ e; exact g e.symm), h2]
theorem qstep (base t c : Int) (h0 : 0 ≤ t + c) (h1 : t + c < 2 * base) : (t + c) / base = if t + c < base then 0 else 1 := by
  split
  · rename_i h; exact Int.ediv_eq_zero_of_lt h0 h
  · rename_i h
    have hb : 0 < base := by omega
    rw [show t + c = (t + c - base) + 1 * base by omega, Int.add_mul_ediv_right _ _ (by omega), Int.ediv_eq_zero_of_lt (by omega) (by omega)]; rfl
theorem carry_1 {base t c cc : Int} (h : (cc == 1) = true) : cstep base t c cc = 0 := by unfold cstep; rw [if_pos (by simpa using h)]
theorem carry_2 {base t c cc : Int} (h1 : (cc == 1) = false) (h : (cc == 2) = true) : cstep base t c cc = 1 := by unfold cstep; rw [if_neg (by simpa using h1), if_pos (by simpa using h)]
theorem carry_3 {base t c cc : Int} (h1 : (cc == 1) = false) (h2 : (cc == 2) = false) (h : (cc == 3) = true) (hq : t / base = if t < base then 0 else 1) : cstep base t c cc = t / base := by
  unfold cstep; rw [if_neg (by simpa using h1), if_neg (by simpa using h2), if_pos (by simpa using h), hq]
theorem carry_4 {base t c cc : Int} (h1 : (cc == 1) = false) (h2 : (cc == 2) = false) (h : (cc == 3) = false) (hq : (t + c) / base = if t + c < base then 0 else 1) : cstep base t c cc = (t + c) / base := by
  unfold cstep; rw [if_neg (by simpa using h1), if_neg (by simpa using h2), if_neg (by simpa using h), hq]
theorem ownsMap_below {w w' : World} {k e : TypeId} {b n : Nat} {D : DataW Unit} (h : w.ownsMap Try.prog k (plainElem Try.prog e) b n D) (hb : Below w.heap.size w w') : w'.ownsMap Try.prog k (plainElem Try.prog e) b n D := by
  have hlt := h.lt
  obtain ⟨es, clock, h1, F, hs, hD⟩ := h
  exact ⟨es, clock, (hb.block b hlt).trans h1, F, hs, hD⟩
set_option maxRecDepth 100000 in
set_option maxHeartbeats 3200000 in
theorem addedWith_any (a b : Reg) (A1 A2 : Option Addr) (c1 c2 : Nat) (A : Option Addr) (m c : Nat) (fs : List Flt) (w : World) (hra : RI w A1 a.digits.length a.digits) (hrb : RI w A2 b.digits.length b.digits) (hr : RL FltM 2 w A m fs)
    (hab : a.digits.length = b.digits.length) (hn : a.digits.length ≤ 16) (hb1 : 2 ≤ a.base) (hb2 : a.base ≤ 16) (hda : ∀ d ∈ a.digits, 0 ≤ d ∧ d < a.base) (hdb : ∀ d ∈ b.digits, 0 ≤ d ∧ d < a.base)
    (hg : GoodF a.digits.length fs) (hm : m ≤ 1000000) :
    Calls Try.prog 72 #[.agg #[.int .i64 a.base, .slice A1 a.digits.length c1], .agg #[.int .i64 b.base, .slice A2 b.digits.length c2], .slice A m c] w fun e w' => ∃ A' c', e = .returned (.tuple #[.agg #[.int .i64 a.base, .slice A' a.digits.length c'], .int .i64 (carryAt a.base a.digits b.digits fs a.digits.length)]) ∧
      OwnI w' w.heap.size (.slice A' a.digits.length c') (sumL a.base a.digits b.digits fs a.digits.length) ∧ Below w.heap.size w w' := by
  have hmm := @run_makeMap Try.prog
  have HL := Lib.hid hr.1
  obtain ⟨i0, hi, hz0, hz1, hz2⟩ := info_parts info_i64
  have HAB := Lib.hid hab; clear hab
  have hb0 : Below w.heap.size w (((w.alloc (.cells #[.int .i64 a.base, .slice A1 a.digits.length c1] 60)).alloc (.cells #[.int .i64 b.base, .slice A2 b.digits.length c2] 60)).alloc (.cells #[.int .i64 0, .slice none 0 0] 60)) := (((Below.refl _ _).alloc (Nat.le_refl _) _).alloc (by simp) _).alloc (by simp <;> omega) _
  go_enter Try.func72, Try.ntmps72
  go_wp2_with fail
  go_loopw [20] (fun i wr => ∃ (k : Nat) (D : DataW Unit), k ≤ m ∧ i = .int .i64 k ∧ wr.ownsMap Try.prog 2 (plainElem Try.prog 2) (w.heap.size + 3) k D ∧ MapIs D (fs.take k) ∧ Below (w.heap.size + 3) (((w.alloc (.cells #[.int .i64 a.base, .slice A1 a.digits.length c1] 60)).alloc (.cells #[.int .i64 b.base, .slice A2 b.digits.length c2] 60)).alloc (.cells #[.int .i64 0, .slice none 0 0] 60)) wr) (fun i _ => m - (intOf i).toNat)
  case atStart => exact ⟨0, .map [], Nat.zero_le _, rfl, by have h := World.ownsMap_made (((w.alloc (.cells #[.int .i64 a.base, .slice A1 a.digits.length c1] 60)).alloc (.cells #[.int .i64 b.base, .slice A2 b.digits.length c2] 60)).alloc (.cells #[.int .i64 0, .slice none 0 0] 60)) Try.prog 2 (plainElem (H := Unit) Try.prog 2); rw [show ((((w.alloc (.cells #[.int .i64 a.base, .slice A1 a.digits.length c1] 60)).alloc (.cells #[.int .i64 b.base, .slice A2 b.digits.length c2] 60)).alloc (.cells #[.int .i64 0, .slice none 0 0] 60))).heap.size = w.heap.size + 3 by simp] at h; exact h, by rw [List.take_zero]; exact MapIs.nil, (Below.refl _ _).alloc (by simp) _⟩
  case round =>
    obtain ⟨k, D, hk, rfl, hown, hMI, hbr⟩ := hrel
    have hbw : Below w.heap.size w wr := hb0.trans (hbr.mono (by omega))
    by_cases hkn : k < m
    · obtain ⟨ad, hA, hlt, hkl, f1, f2⟩ := (hr.below steady_FltM hbw).at_ hkn
      obtain ⟨q1, q2, q3, q4⟩ := hg fs[k] (List.getElem_mem _)
      have hi0 : (0 : Int) ≤ (k : Int) := by omega
      have hi1 : (k : Int) < (m : Int) := by omega
      subst hA
      have hz : w.heap.size + 3 ≤ wr.heap.size := by have := hbr.size; simpa using this
      go_wp2_with (at_mapUpdate; refine wpList_mapUpdate_own _ rfl _ _ _ 131 rfl 2 2 law_i64 Try.underlying131 _ (w.heap.size + 3) k _ rfl (hown.alloc _) (by unfold maxLen; omega) _ _ _ rfl rfl (keyOf_int_mk Try.underlying2 (WalkArith.wf_i64 (by omega))) _ [] (plainElem_int Try.underlying2 (WalkArith.wf_i64 (by omega))) ?_; intro w1 hown1 hgrow1)
      go_roundw
      case rel => exact ⟨k + 1, _, by omega, by go_num, hown1, hMI.put hkl, (hbr.alloc (by omega) _).grown hgrow1 (by simp; omega) (fun j hj => by cases hj; omega)⟩
      case measure => simp [intOf]; omega
    · have HK : Hid (k = m) := by simp only [Hid]; omega
      have hMI' : MapIs D fs := by have := hMI; rwa [HK.out, List.take_of_length_le (by have := HL.out; omega)] at this
      clear hMI
      have hz : w.heap.size + 3 ≤ wr.heap.size := by have := hbr.size; simpa using this
      obtain ⟨hc, hf⟩ := bcellB hbr
      have y0 : wr.cell? ⟨w.heap.size, 0, none⟩ = some (.int .i64 a.base) := by go_simp
      have y1 : wr.cell? ⟨w.heap.size, 1, none⟩ = some (.slice A1 a.digits.length c1) := by go_simp
      have y2 : wr.cell? ⟨w.heap.size + 1, 1, none⟩ = some (.slice A2 b.digits.length c2) := by go_simp
      have q0 : wr.cell? ⟨w.heap.size + 2, 0, none⟩ = some (.int .i64 0) := by go_simp
      have q1 : wr.cell? ⟨w.heap.size + 2, 1, none⟩ = some (.slice none 0 0) := by go_simp
      have q2 : wr.frozen? ⟨w.heap.size + 2, 0, none⟩ = false := by go_simp
      have q3 : wr.frozen? ⟨w.heap.size + 2, 1, none⟩ = false := by go_simp
      have rA := hra.below hbw
      have rB := hrb.below hbw
      clear hc hf hra hrb hr hbr hmm hg
      obtain ⟨w1, rfl⟩ : ∃ w1 : World, w1 = wr := ⟨_, rfl⟩
      have yA : (w1.alloc (.cells #[.int .i64 a.base, .slice none 0 0] 60)).cell? ⟨w.heap.size, 1, none⟩ = some (.slice A1 a.digits.length c1) := by rw [World.cell?_alloc_lt _ _ _ (by exact (by omega : w.heap.size < w1.heap.size))]; exact y1
      go_wp2_with fail
      clear yA
      go_loopw [36, 12] (fun i cy wr => ∃ (k : Nat) (v : Value), k ≤ a.digits.length ∧ i = .int .i64 k ∧ cy = .int .i64 (carryAt a.base a.digits b.digits fs k) ∧ SumAt wr w1.heap.size a.base v (sumL a.base a.digits b.digits fs k) ∧ Below w1.heap.size w1 wr) (fun i _ _ => a.digits.length - (intOf i).toNat)
      case atStart => exact ⟨0, _, Nat.zero_le _, rfl, rfl, ⟨heap_alloc_new _ _, OwnI.nil _ _⟩, (Below.refl _ _).alloc (Nat.le_refl _) _⟩
      case round =>
        obtain ⟨k, v, hk, rfl, rfl, hS, hbr⟩ := hrel
        have HX := Lib.hid (carryAt_bd a.base a.digits b.digits fs k)
        by_cases hkn : k < a.digits.length
        · obtain ⟨ad1, hA1, hlt1, hk1, hd1⟩ := rA.at_ hkn
          rw [← hbr.cell (by rw [block_of_add]; exact hlt1)] at hd1
          obtain ⟨ad2, hA2, hlt2, hk2, hd2⟩ := rB.at_ (show k < b.digits.length from HAB.out ▸ hkn)
          rw [← hbr.cell (by rw [block_of_add]; exact hlt2)] at hd2
          have b1 := hda _ (List.getElem_mem hk1)
          have b2 := hdb _ (List.getElem_mem hk2)
          have v0 : wr.cell? ⟨w.heap.size, 0, none⟩ = some (.int .i64 a.base) := by rw [hbr.cell (by exact (by omega : w.heap.size < w1.heap.size))]; exact y0
          have v2 : wr.cell? ⟨w.heap.size + 1, 1, none⟩ = some (.slice A2 b.digits.length c2) := by rw [hbr.cell (by exact (by omega : w.heap.size + 1 < w1.heap.size))]; exact y2
          obtain ⟨s1, s2, s3⟩ := hS.cells
          have HC := Lib.hid (show carryAt a.base a.digits b.digits fs (k + 1) = cstep a.base (a.digits[k] + b.digits[k]) (carryAt a.base a.digits b.digits fs k) (kindAt fs k) by rw [← getD_of hk1, ← getD_of hk2]; rfl)
          have HD := Lib.hid (show sumD a.base a.digits b.digits fs k = (a.digits[k] + b.digits[k] + carryAt a.base a.digits b.digits fs k).tmod a.base by rw [← getD_of hk1, ← getD_of hk2]; rfl)
          have hkb : (k : Int) < (b.digits.length : Int) := by have := HAB.out; omega
          have hka : (k : Int) < (a.digits.length : Int) := by omega
          have hk0 : (0 : Int) ≤ (k : Int) := by omega
          obtain ⟨cy, hcy⟩ : ∃ cy, cy = carryAt a.base a.digits b.digits fs k := ⟨_, rfl⟩
          obtain ⟨h0, h1⟩ := HX.out
          obtain ⟨ak, hak⟩ : ∃ ak, ak = a.digits[k] := ⟨_, rfl⟩
          obtain ⟨bk, hbk⟩ : ∃ bk, bk = b.digits[k] := ⟨_, rfl⟩
          rw [← hcy] at h0 h1
          rw [← hcy, ← hak, ← hbk] at HC
          rw [← hcy, ← hak, ← hbk] at HD
          rw [← hak] at hd1 b1
          rw [← hbk] at hd2 b2
          rw [← hcy]
          clear hcy hak hbk
          subst hA1; subst hA2
          have hS' := Lib.hid hS
          have HO := Lib.hid (fun (o : Obj) => World.ownsRow.alloc (w := wr.drew) hS.2 o)
          have hbr' := Lib.hid hbr
          have hGl := hS.lt
          clear hS hbr
          go_wp2
          have nz1 : a.base ≠ 0 := by omega
          have wr2 : IntKind.i64.wrap (ak + bk + cy) = ak + bk + cy := wrapI64 (by omega)
          have sA : (wr.drew.alloc (.cells #[.int .i64 ((ak + bk + cy).tmod a.base)] 2)).cell? ⟨w1.heap.size, 1, none⟩ = some v := by rw [World.cell?_alloc_lt _ _ _ (by exact hGl)]; exact s2
          have sB : (wr.drew.alloc (.cells #[.int .i64 ((ak + bk + cy).tmod a.base)] 2)).cell? ⟨w.heap.size, 0, none⟩ = some (.int .i64 a.base) := by rw [World.cell?_alloc_lt _ _ _ (by exact (by omega : w.heap.size < wr.heap.size))]; exact v0
          go_region_law (refine step_append_lies _ rfl (.tmp 49) (.tmp 56) 37 rfl (w1.heap.size + 1) 2 i0 _ 1 8 Try.underlying37 hi hz0 hz1 hz2 rfl (by decide) v _ _ (by simp [Act.eval]) (HO.out _) ⟨wr.heap.size, 0, none⟩ 1 1 [.int .i64 ((ak + bk + cy).tmod a.base)] (by simp [Act.eval]) rfl (World.news_of_block (heap_alloc_new _ _)) (by simp [Value.oneCell']) (by decide) (by rw [sumL_len]; unfold maxLen; omega) (by rw [sumL_len]; omega) (by simp; omega) _ rfl ?_; intro gg cap w2 hown2 hgrow2 hat2 hlt2; obtain ⟨t1, t2, t3, t4⟩ := SumAt.far (w := wr.drew) hS'.out hgrow2)
          all_goals
            obtain ⟨hS3, hB3⟩ := SumAt.step (w := wr.drew) hS'.out hgrow2 hown2
            obtain ⟨w3, hw3⟩ : ∃ w3, w3 = w2.setCell ⟨w1.heap.size, 1, none⟩ (.slice (some ⟨gg, 0, none⟩) ((sumL a.base a.digits b.digits fs k).length + 1) cap) := ⟨_, rfl⟩
            rw [← hw3] at hS3 hB3
            have hb3 : Below w1.heap.size wr w3 := (below_drewN (Below.refl w1.heap.size wr) 1).trans (hB3 _ (Nat.le_refl _))
            have x0 : w3.cell? ⟨w.heap.size, 0, none⟩ = some (.int .i64 a.base) := by rw [hb3.cell (by exact (by omega : w.heap.size < w1.heap.size))]; exact v0
            have hM3 := ownsMap_below hown (hbr'.out.trans hb3)
            clear hgrow2 hown2 t1 t2 t3 t4 sA sB hat2
            rw [← hw3]
            clear hw3
            go_wp2_with (at_lookup; refine wpList_lookup_own_int _ rfl _ _ 131 rfl 2 2 .i64 law_i64 Try.underlying131 Try.underlying2 (zero_i64 _) (w.heap.size + 3) _ _ rfl hM3 _ _ rfl (keyOf_int_mk Try.underlying2 (WalkArith.wf_i64 (by omega))) ?_; intro cc hat hwc)
            all_goals
              have hcc : kindAt fs (k : Int) = cc := by
                have h := hMI'.2 (k : Int)
                rw [hat] at h
                injection h with h; injection h with _ h; exact h.symm
              rw [hcc] at HC
              have g1 := qstep a.base (ak + bk) cy (by omega) (by omega)
              have g2 := qstep a.base (ak + bk) 0 (by omega) (by omega)
              rw [Int.add_zero] at g2
              have HQ := Lib.hid g1
              have HQ2 := Lib.hid g2
              clear g1 g2
              go_roundw
              case rel =>
                refine ⟨k + 1, _, by omega, by go_num, ?_, by rw [sumL_succ, HD.out]; exact hS3, hbr'.out.trans hb3⟩
                rw [HC.out]
                first
                  | exact congrArg (Value.int .i64) (carry_1 (by assumption)).symm
                  | exact congrArg (Value.int .i64) (carry_2 (by assumption) (by assumption)).symm
                  | exact congrArg (Value.int .i64) (carry_3 (by assumption) (by assumption) (by assumption) HQ2.out).symm
                  | exact congrArg (Value.int .i64) (carry_4 (by assumption) (by assumption) (by assumption) HQ.out).symm
              case measure => simp [intOf]; omega
        · have HK : Hid (k = a.digits.length) := by simp only [Hid]; omega
          have m0 : wr.cell? ⟨w.heap.size + 2, 0, none⟩ = some (.int .i64 0) := by rw [hbr.cell (by exact (by omega : w.heap.size + 2 < w1.heap.size))]; exact q0
          have m1 : wr.cell? ⟨w.heap.size + 2, 1, none⟩ = some (.slice none 0 0) := by rw [hbr.cell (by exact (by omega : w.heap.size + 2 < w1.heap.size))]; exact q1
          have m2 : wr.frozen? ⟨w.heap.size + 2, 0, none⟩ = false := by rw [hbr.frozen (by exact (by omega : w.heap.size + 2 < w1.heap.size))]; exact q2
          have m3 : wr.frozen? ⟨w.heap.size + 2, 1, none⟩ = false := by rw [hbr.frozen (by exact (by omega : w.heap.size + 2 < w1.heap.size))]; exact q3
          obtain ⟨s1, s2, s3⟩ := hS.cells
          obtain ⟨A', c', rfl, hri, hge⟩ := hS.2.reads
          have hO := Lib.hid hS.2
          have hbr' := Lib.hid hbr
          clear hS hbr
          go_wp2_with fail
          refine bodyPost_ret (v := .tuple #[.agg #[.int .i64 a.base, .slice A' (sumL a.base a.digits b.digits fs k).length c'], .int .i64 (carryAt a.base a.digits b.digits fs k)]) (by simp [results, Try.results72, go_sem, m0, m1, m2, m3]) rfl ⟨A', c', ?_, ?_, ?_⟩
          · rw [HK.out, sumL_len]
          · have h1 := hO.out
            rw [HK.out] at h1
            rw [sumL_len] at h1
            exact (((h1.setBelow (by simp <;> omega) _).setBelow (by simp <;> omega) _)).mono (by omega)
          · exact ((hbw.trans (hbr'.out.mono (by omega))).setCell (by simp <;> omega) _).setCell (by simp <;> omega) _
end Go.Proofs.Ytmnegfhigfipbaa
