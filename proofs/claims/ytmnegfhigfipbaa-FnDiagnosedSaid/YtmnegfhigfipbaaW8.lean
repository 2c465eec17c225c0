import Derived.Test.YtmnegfhigfipbaaW7
import Derived.Test.YtmnegfhigfipbaaR7
namespace Go.Proofs.Ytmnegfhigfipbaa
open Go.RowKit Go.Sort
theorem weak_small {base : Int} {width : Nat} {t : Tri} (h : WeakOK base width t) (hw : width ≤ 16) : SmallTri t := by
  obtain ⟨-, ⟨h1, -⟩, -, ⟨h2, -⟩, h3⟩ := h
  unfold SmallTri SmallReg
  omega
set_option maxRecDepth 100000 in
set_option maxHeartbeats 3200000 in
theorem StandardTrials_any (base : Int) (width : Nat) (F : Option Addr) (m d : Nat) (fs : List Flt) (w : World) (hb : 2 ≤ base) (hb2 : base ≤ 16) (hw : width ≤ 16) (h1 : 0 < width) (hf : RL FltM 2 w F m fs) (hg : GoodF width fs) (ha : Asc fs) (hm : m ≤ 1000) :
    Calls Try.prog 64 #[.int .i64 base, .int .i64 width, .slice F m d] w fun e w' => ∃ v code ts, e = .returned (.tuple #[v, .int .i64 code]) ∧ (code = 0 → PL w' w.heap.size v ts ∧ vtrials ts = true ∧ (∀ t ∈ ts, WeakOK base width t) ∧ ts.length = width * 2) ∧ Below w.heap.size w w' := by
  have HB : Hid (betB base 2 16 = true) := by simp only [Hid]; rw [betB_iff]; omega
  have HF := Lib.hid hf
  have HG := Lib.hid hg
  have KO := Lib.hid (l08Ok_true width F m d fs w hf hg ha h1 hw (by omega))
  clear hf hg ha
  go_enter Try.func64, Try.ntmps64
  go_wp2_with (first | (go_at_call 89; refine (l02Base_any _ _).mono ?_; rintro e w' ⟨rfl, rfl⟩; rw [HB.out]) | (go_at_call 41; refine KO.out.mono ?_; rintro e w' ⟨rfl, q, rfl⟩) | (go_at_call 90; refine (l20Pairs_any base width _ hb hb2 hw h1).mono ?_; rintro e w2 ⟨v, ts, rfl, hpl, hlen, hok, hw2⟩))
  have hpl : PL w2 w.heap.size v ts := hpl
  have hb2' : Below w.heap.size w w2 := (below_drewN (Below.refl w.heap.size w) q).trans hw2
  have hok' : ∀ t ∈ ts, WeakOK base width t := fun t ht => by
    obtain ⟨p1, p2, p3, p4, p5, p6⟩ := hok t ht
    exact ⟨p1, p2, p3, p4, by rw [p5]; simp⟩
  obtain ⟨g, c, hv⟩ : ∃ g c, v = .slice (some ⟨g, 0, none⟩) (width * 2) c := by
    obtain ⟨xs, hx, -⟩ := hpl
    rcases hx.2 with ⟨-, hn⟩ | ⟨g, cap, cur, e, -⟩
    · omega
    · exact ⟨g, cap, by rw [e, hlen]⟩
  subst hv
  have HPL := Lib.hid hpl
  have HOK := Lib.hid hok'
  have HLEN := Lib.hid hlen
  have HB2 := Lib.hid hb2'
  clear hpl hok' hlen hb2' hw2 hok
  go_loopw [9] (fun ii wr => ∃ (k : Nat) (ts : List Tri), k ≤ width * 2 ∧ ii = .int .i64 k ∧ PL wr w.heap.size (.slice (some ⟨g, 0, none⟩) (width * 2) c) ts ∧ ts.length = width * 2 ∧ (∀ t ∈ ts, WeakOK base width t) ∧ Below w.heap.size w wr) (fun ii _ => width * 2 - (intOf ii).toNat)
  case atStart => exact ⟨0, ts, Nat.zero_le _, rfl, HPL.out, HLEN.out, HOK.out, HB2.out⟩
  case round =>
    obtain ⟨k, us, hk, rfl, hpl, hlen, hok, hbr⟩ := hrel
    have HPU := Lib.hid hpl
    have HUL := Lib.hid hlen
    have HUO := Lib.hid hok
    have HBR := Lib.hid hbr
    have hwz := hbr.size
    clear hpl hlen hok hbr
    by_cases hkn : k < width * 2
    · have hi0 : (0 : Int) ≤ (k : Int) := by omega
      have hi1 : (k : Int) < ((width * 2 : Nat) : Int) := by omega
      have hkl : k < us.length := by have := HUL.out; omega
      obtain ⟨t1, ⟨t2, t2'⟩, t3, ⟨t4, t4'⟩, -⟩ := HUO.out us[k] (List.getElem_mem hkl)
      obtain ⟨xs, hrow, htri⟩ := HPU.out
      have hgl := own_lt hrow g rfl
      have hTM : TriM wr ((⟨g, 0, none⟩ : Addr).add (k * 7)) us[k] := by
        obtain ⟨A', c', e, hr⟩ := HPU.out.rl
        injection e with e _ _
        obtain ⟨ad, e2, _, hk', ht⟩ := hr.at_ (show k < us.length from hkl)
        rw [← e] at e2
        injection e2 with e2
        rw [e2]; exact ht
      rw [add_zero_block] at hTM
      have KA := fun (W : World) (hW : Below wr.heap.size wr W) => l08Add_any ⟨g, k * 7, none⟩ ⟨g, k * 7 + 2, none⟩ us[k].a us[k].b F m d fs W (steady_TriM _ _ _ _ hgl.2 hW hTM).1 (steady_TriM _ _ _ _ hgl.2 hW hTM).2.1 (Nat.lt_of_lt_of_le hgl.2 hW.size) (Nat.lt_of_lt_of_le hgl.2 hW.size) ((HF.out.below steady_FltM HBR.out).below steady_FltM hW) (t2.trans t4.symm) (by omega) (by rw [t1]; exact hb) (by rw [t1]; exact hb2) (by rw [t1]; exact t2') (by rw [t1]; exact t4') (by rw [t2]; exact HG.out) (by omega)
      rw [t1, t2] at KA
      obtain ⟨sd, hsd⟩ : ∃ sd, sd = sumL base us[k].a.digits us[k].b.digits fs width := ⟨_, rfl⟩
      obtain ⟨cy, hcy⟩ : ∃ cy, cy = carryAt base us[k].a.digits us[k].b.digits fs width := ⟨_, rfl⟩
      have hsl : sd.length = width := by rw [hsd]; exact sumL_len _ _ _ _ _
      rw [← hsd, ← hcy] at KA
      have KA := Lib.hid KA
      have HWK := Lib.hid (show ∀ b' X', WeakOK base width { us[k] with s := ⟨b', sd⟩, carry := X' } from fun _ _ => ⟨t1, ⟨t2, t2'⟩, t3, ⟨t4, t4'⟩, by show sd.length ≤ 16; omega⟩)
      have HSL := Lib.hid hsl
      have hr7 : ∀ W, Below wr.heap.size wr W → (∃ u, W.cell? ⟨g, k * 7 + 4, none⟩ = some u) ∧ (∃ u, W.cell? ⟨g, k * 7 + 5, none⟩ = some u) ∧ (∃ u, W.cell? ⟨g, k * 7 + 6, none⟩ = some u) ∧ W.frozen? ⟨g, k * 7 + 4, none⟩ = false ∧ W.frozen? ⟨g, k * 7 + 5, none⟩ = false ∧ W.frozen? ⟨g, k * 7 + 6, none⟩ = false := by
        intro W hW
        have h := ownsRow_below hrow hW
        rw [HUL.out] at h
        have hx := h.1
        have H : ∀ j, j < width * 2 * 7 → ∃ u, W.cell? ⟨g, j, none⟩ = some u := fun j hj => ⟨_, (World.ownsRow.cellAt h j hj).trans (List.getElem?_eq_getElem (by omega))⟩
        exact ⟨H _ (by omega), H _ (by omega), H _ (by omega), World.ownsRow.frozenAt h _, World.ownsRow.frozenAt h _, World.ownsRow.frozenAt h _⟩
      have HR7 := Lib.hid hr7
      clear hr7 t1 t2 t2' t3 t4 t4' hsd hcy hsl
      have hb0 : Below wr.heap.size wr (wr.alloc (.cells #[.int .i64 0, .slice none 0 0] 60)) := (Below.refl _ _).alloc (Nat.le_refl _) _
      clear hTM htri hrow
      go_wp2_with fail
      go_region_with (go_at_call 66; refine (KA.out _ (by first | exact hb0.drew | exact (Below.refl _ _).drew)).mono ?_; rintro e w1 ⟨X, x, rfl, ox, hw1⟩; obtain ⟨hc, hf⟩ := bcell hw1)
      all_goals
        first
          | (have hbA : Below wr.heap.size wr (w1.alloc (.cells #[.int .i64 base, .slice X width x] 60)) := ((Below.refl wr.heap.size wr).drew.trans hw1).alloc hw1.size _
             have e0 : (w1.alloc (.cells #[.int .i64 base, .slice X width x] 60)).cell? ⟨w1.heap.size, 0, none⟩ = some (.int .i64 base) := by go_simp
             have e1 : (w1.alloc (.cells #[.int .i64 base, .slice X width x] 60)).cell? ⟨w1.heap.size, 1, none⟩ = some (.slice X width x) := by go_simp
             have HOX := Lib.hid (ox.below ((Below.refl _ _).alloc (Nat.le_refl _) (.cells #[.int .i64 base, .slice X width x] 60)))
             have hzb : wr.heap.size ≤ w1.heap.size := hw1.size
             have hg1 : w1.heap.size ≠ g := by omega
             obtain ⟨⟨u4, r4⟩, ⟨u5, r5⟩, ⟨u6, r6⟩, p4, p5, p6⟩ := HR7.out _ hbA
             have hps := pl_store (b := base) (cy := cy) (X := X) (x := x) (sd := sd) (HPU.out.below hbA) hkl (ownD_of (b0 := wr.heap.size) (by rw [HSL.out]; exact HOX.out) hwz (fun k hk => by injection hk with hk; omega))
             rw [HSL.out] at hps
             have HPS := Lib.hid hps
             have HBF := Lib.hid (st3_below (HBR.out.trans (hbA.mono hwz)) (show w.heap.size ≤ g from hgl.1) (k * 7) base X width x cy)
             clear hbA hc hf ox hw1 hps
             go_wp2
             go_roundw
             case rel => exact ⟨k + 1, _, by omega, by go_num, HPS.out, by rw [List.length_set]; exact HUL.out, fun t ht => by
                           rcases List.mem_or_eq_of_mem_set ht with ht | ht
                           · exact HUO.out t ht
                           · rw [ht]; exact HWK.out _ _, HBF.out⟩
             case measure => simp [intOf]; omega
             )
          | (have hbB : Below wr.heap.size wr w1 := hb0.drew.trans (hw1.mono (by simp))
             have hzb : wr.heap.size + 1 ≤ w1.heap.size := by have := hw1.size; simpa using this
             have hbA : Below wr.heap.size wr ((w1.setCell ⟨wr.heap.size, 0, none⟩ (.int .i64 base)).setCell ⟨wr.heap.size, 1, none⟩ (.slice X width x)) := (hbB.setCell (by simp) _).setCell (by simp) _
             have e0 : ((w1.setCell ⟨wr.heap.size, 0, none⟩ (.int .i64 base)).setCell ⟨wr.heap.size, 1, none⟩ (.slice X width x)).cell? ⟨wr.heap.size, 0, none⟩ = some (.int .i64 base) := by go_simp
             have e1 : ((w1.setCell ⟨wr.heap.size, 0, none⟩ (.int .i64 base)).setCell ⟨wr.heap.size, 1, none⟩ (.slice X width x)).cell? ⟨wr.heap.size, 1, none⟩ = some (.slice X width x) := by go_simp
             have HOX := Lib.hid (((ox.setBelow (a := ⟨wr.heap.size, 0, none⟩) (by simp) (.int .i64 base)).setBelow (a := ⟨wr.heap.size, 1, none⟩) (by simp) (.slice X width x)).mono (by simp : wr.heap.size ≤ _))
             have hg1 : wr.heap.size ≠ g := by omega
             obtain ⟨⟨u4, r4⟩, ⟨u5, r5⟩, ⟨u6, r6⟩, p4, p5, p6⟩ := HR7.out _ hbA
             have hps := pl_store (b := base) (cy := cy) (X := X) (x := x) (sd := sd) (HPU.out.below hbA) hkl (ownD_of (b0 := wr.heap.size) (by rw [HSL.out]; exact HOX.out) hwz (fun k hk => by injection hk with hk; omega))
             rw [HSL.out] at hps
             have HPS := Lib.hid hps
             have HBF := Lib.hid (st3_below (HBR.out.trans (hbA.mono hwz)) (show w.heap.size ≤ g from hgl.1) (k * 7) base X width x cy)
             clear hbA hc hf ox hw1 hps
             go_wp2
             go_roundw
             case rel => exact ⟨k + 1, _, by omega, by go_num, HPS.out, by rw [List.length_set]; exact HUL.out, fun t ht => by
                           rcases List.mem_or_eq_of_mem_set ht with ht | ht
                           · exact HUO.out t ht
                           · rw [ht]; exact HWK.out _ _, HBF.out⟩
             case measure => simp [intOf]; omega
             )
    · have hsm : ∀ t ∈ us, SmallTri t := fun t ht => weak_small (HUO.out t ht) hw
      obtain ⟨A', c', e, hrl⟩ := HPU.out.rl
      rw [HUL.out] at e hrl
      injection e with e e2 e3
      have KL := Lib.hid (l20Ok_any (some ⟨g, 0, none⟩) (width * 2) c us wr (by rw [e]; exact hrl) hsm (by omega))
      clear hrl hsm e3 e e2
      have hkw : ¬ (k : Int) < ((width * 2 : Nat) : Int) := by omega
      rcases hv : vtrials us with _ | _
      · have HV := Lib.hid hv; clear hv
        go_wp2_with (go_at_call 40; refine KL.out.mono ?_; rintro e w1 ⟨rfl, q, rfl⟩; rw [HV.out])
        refine bodyPost_ret (v := .tuple #[.slice none 0 0, .int .i64 5]) (by simp [results, Try.results64, go_sem]) rfl ⟨_, 5, us, rfl, fun h => by omega, below_drewN HBR.out _⟩
      · have HV := Lib.hid hv; clear hv
        go_wp2_with (go_at_call 40; refine KL.out.mono ?_; rintro e w1 ⟨rfl, q, rfl⟩; rw [HV.out])
        refine bodyPost_ret (v := .tuple #[.slice (some ⟨g, 0, none⟩) (width * 2) c, .int .i64 0]) (by simp [results, Try.results64, go_sem]) rfl ⟨_, 0, us, rfl, fun _ => ⟨HPU.out, HV.out, HUO.out, HUL.out⟩, below_drewN HBR.out _⟩
end Go.Proofs.Ytmnegfhigfipbaa
