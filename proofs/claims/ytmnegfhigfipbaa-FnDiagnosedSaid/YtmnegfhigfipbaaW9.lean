import Derived.Test.YtmnegfhigfipbaaW8
import Derived.Test.YtmnegfhigfipbaaK3
import Derived.Test.YtmnegfhigfipbaaG14
namespace Go.Proofs.Ytmnegfhigfipbaa
open Go.RowKit Go.Sort
theorem gSet {w a : World} {o : Option Nat} (h : w.grownBy a o) {p : Addr} (hp : w.heap.size ≤ p.block) (u : Value) : w.grownBy (a.setCell p u) o :=
  ⟨h.os, h.tape, h.output, by simp [World.setCell]; exact h.size, fun k hk hne => (heap_setCell_other _ _ _ _ (by omega)).trans (h.block k hk hne)⟩
theorem OwnF.grown {w w' : World} {base b : Nat} {v : Value} {fs : List Flt} (h : OwnF w base v fs) (hg : w.grownBy w' (some b)) (hb : b < base) : OwnF w' base v fs :=
  row_kept h (fun g hgo => hg.block g (own_lt h g hgo).2 (fun e => by injection e with e; have := (own_lt h g hgo).1; omega))
theorem asc_push {fs : List Flt} (ha : Asc fs) {f : Flt} (hl : ∀ (h : 0 < fs.length), (fs[fs.length - 1]'(by omega)).lever < f.lever) : Asc (fs ++ [f]) := by
  intro k hk
  rw [List.length_append, List.length_cons, List.length_nil] at hk
  by_cases h : k + 1 < fs.length
  · rw [List.getElem_append_left (by omega), List.getElem_append_left h]; exact ha k h
  · have he : k + 1 = fs.length := by omega
    rw [List.getElem_append_left (by omega), List.getElem_append_right (by omega)]
    simp only [he, Nat.sub_self, List.getElem_cons_zero]
    have := hl (by omega)
    have e2 : fs[k]'(by omega) = fs[fs.length - 1]'(by omega) := by congr 1; omega
    rw [e2]; exact this
/-- a drawn trial -/
def TrOK (base : Int) (width : Nat) (t : Tri) : Prop := t.a.base = base ∧ DigB base width t.a.digits ∧ t.b.base = base ∧ DigB base width t.b.digits ∧ t.s.base = base ∧ DigB base width t.s.digits ∧ 0 ≤ t.carry ∧ t.carry ≤ 1
/-- what is drawn: valid trials of few digits -/
def Drawn (w : World) (base : Nat) (v : Value) (ts : List Tri) : Prop := PL w base v ts ∧ vtrials ts = true ∧ (∀ t ∈ ts, SmallTri t) ∧ wid ts ≤ 6
theorem OwnD.mono {w : World} {base b' : Nat} {row : Option Nat} {v : Value} {ds : List Int} (h : OwnD w base row v ds) (hb : b' ≤ base) : OwnD w b' row v ds := ⟨h.1.mono hb, h.2⟩
theorem PL.mono {w : World} {base b' : Nat} {v : Value} {ts : List Tri} (h : PL w base v ts) (hb : b' ≤ base) : PL w b' v ts := by
  obtain ⟨xs, h1, h2⟩ := h
  refine ⟨xs, row_mono h1 hb, fun i hi => ?_⟩
  obtain ⟨X1, x1, X2, x2, X3, x3, e, o1, o2, o3⟩ := h2 i hi
  exact ⟨X1, x1, X2, x2, X3, x3, e, o1.mono hb, o2.mono hb, o3.mono hb⟩
theorem wid_of {ts : List Tri} {n : Nat} (h : ∀ t ∈ ts, t.a.digits.length = n) (h0 : 0 < ts.length) : wid ts = n := by
  unfold wid
  rw [headD_get h0]
  exact h _ (List.getElem_mem _)
theorem sumL_dig (base : Int) (A B : List Int) (fs : List Flt) (n : Nat) (hb : 2 ≤ base) (hA : ∀ d ∈ A, 0 ≤ d) (hB : ∀ d ∈ B, 0 ≤ d) : DigB base n (sumL base A B fs n) := by
  refine ⟨sumL_len _ _ _ _ _, fun d hd => ?_⟩
  obtain ⟨k, -, rfl⟩ := List.mem_map.1 hd
  have hg : ∀ (L : List Int) (k : Nat), (∀ d ∈ L, 0 ≤ d) → 0 ≤ L.getD k 0 := fun L k hL => by
    rcases Nat.lt_or_ge k L.length with h | h
    · rw [getD_of h]; exact hL _ (List.getElem_mem _)
    · simp [List.getD, List.getElem?_eq_none h]
  have h1 := hg A k hA
  have h2 := hg B k hB
  have h3 := carryAt_bd base A B fs k
  unfold sumD
  exact ⟨Int.tmod_nonneg _ (by omega), Int.tmod_lt_of_pos _ (by omega)⟩
theorem valL_pow (base : Int) (hb : 2 ≤ base) (hb2 : base ≤ 10) : ∀ (ds : List Int), (∀ d ∈ ds, 0 ≤ d ∧ d < base) → valL base ds + 1 ≤ ((10 ^ ds.length : Nat) : Int)
  | [], _ => by simp [valL]
  | d :: ds, hd => by
    have ih := valL_pow base hb hb2 ds (fun x hx => hd x (List.mem_cons_of_mem _ hx))
    obtain ⟨d0, d1⟩ := hd d (List.mem_cons_self ..)
    rw [List.length_cons, Nat.pow_succ]
    obtain ⟨P, hP⟩ : ∃ P : Nat, P = 10 ^ ds.length := ⟨_, rfl⟩
    rw [← hP] at ih ⊢
    have h1 : valL base ds * base ≤ ((P : Int) - 1) * base := Int.mul_le_mul_of_nonneg_right (by omega) (by omega)
    have h2 : (P : Int) * base ≤ (P : Int) * 10 := Int.mul_le_mul_of_nonneg_left hb2 (by omega)
    rw [Int.sub_mul, Int.one_mul] at h1
    unfold valL
    have h3 : min 1000000000001 (valL base ds * base + d) ≤ valL base ds * base + d := Int.min_le_right _ _
    rw [Int.natCast_mul]
    omega
theorem reg_ok {base : Int} {width : Nat} {ds : List Int} (hd : DigB base width ds) (hb : 2 ≤ base) (hb2 : base ≤ 10) (h1 : 1 ≤ width) (h5 : width ≤ 5) : vreg base ds = true := by
  rw [vreg_iff]
  have h2 := valL_pow base hb hb2 ds hd.2
  have hl := hd.1
  have h3 : 10 ^ ds.length ≤ 10 ^ 5 := Nat.pow_le_pow_right (by omega) (by omega)
  exact ⟨by omega, by omega, hd.2, by omega⟩
theorem trok_good {base : Int} {width : Nat} {r0 : Reg} {t : Tri} (h : TrOK base width t) (hb : 2 ≤ base) (hb2 : base ≤ 10) (h1 : 1 ≤ width) (h5 : width ≤ 5) (hr : r0.base = base) (hl : r0.digits.length = width) : triGood r0 t = true := by
  obtain ⟨a1, a2, b1, b2, s1, s2, c1, c2⟩ := h
  have k1 := reg_ok a2 hb hb2 h1 h5
  have k2 := reg_ok b2 hb hb2 h1 h5
  have k3 := reg_ok s2 hb hb2 h1 h5
  simp only [triGood, vlike, Reg.ok, Bool.and_eq_true, decide_eq_true_eq, beq_iff_eq]
  rw [a1, b1, s1, hr, hl, k1, k2, k3, a2.1, b2.1, s2.1, betB_iff]
  exact ⟨⟨⟨⟨⟨rfl, rfl⟩, rfl⟩, ⟨rfl, rfl⟩, rfl⟩, ⟨rfl, rfl⟩, rfl⟩, c1, c2⟩
theorem vtrials_of {base : Int} {width : Nat} {ts : List Tri} (h : ∀ t ∈ ts, TrOK base width t) (hb : 2 ≤ base) (hb2 : base ≤ 10) (h1 : 1 ≤ width) (h5 : width ≤ 5) (h0 : 1 ≤ ts.length) (h60 : ts.length ≤ 60) : vtrials ts = true := by
  have hh := h ts[0] (List.getElem_mem (by omega))
  simp only [vtrials, Bool.and_eq_true, List.all_eq_true]
  refine ⟨fun t ht => trok_good (h t ht) hb hb2 h1 h5 ?_ ?_, by rw [betB_iff]; omega⟩
  · rw [headD_get (by omega)]; exact hh.1
  · rw [headD_get (by omega)]; exact hh.2.1.1
theorem ownF_rl {w : World} {base n c : Nat} {A : Option Addr} {fs : List Flt} (h : OwnF w base (.slice A n c) fs) : RL FltM 2 w A fs.length fs := by
  obtain ⟨A', c', e, h2⟩ := h.reads
  injection e with e _ _
  rw [e]; exact h2
set_option maxRecDepth 100000 in
set_option maxHeartbeats 3200000 in
theorem l20Draw_any (b : Nat) (w : World) (h : Src w b 0) :
    Calls Try.prog 38 #[.pointer (some ⟨b, 0, none⟩)] w fun e w' => ∃ v ts, e = .returned v ∧ Drawn w' w.heap.size v ts ∧ w.grownBy w' (some b) := by
  have H := Lib.hid h
  have hlt := h.lt
  clear h
  have hba : Below w.heap.size w (w.alloc (.cells #[.int .i64 10, .int .i64 10, .int .i64 2, .int .i64 3, .int .i64 8] 2)) := (Below.refl _ _).alloc (Nat.le_refl _) _
  have hri : RI (w.alloc (.cells #[.int .i64 10, .int .i64 10, .int .i64 2, .int .i64 3, .int .i64 8] 2)) (some ⟨w.heap.size, 0, none⟩) 5 [10, 10, 2, 3, 8] := by
    refine ⟨rfl, fun _ => ⟨_, rfl, by simp, fun j u hu => ?_⟩⟩
    rw [add_zero_block, cell_of_row _ _ _ _ _ _ (heap_alloc_new _ _)]
    match j, hu with
    | 0, hu => simp at hu; simp [← hu]
    | 1, hu => simp at hu; simp [← hu]
    | 2, hu => simp at hu; simp [← hu]
    | 3, hu => simp at hu; simp [← hu]
    | 4, hu => simp at hu; simp [← hu]
    | j + 5, hu => simp at hu
  have HRI := Lib.hid hri; clear hri
  go_enter Try.func38, Try.ntmps38
  go_wp2_with fail
  refine (among_any b 0 _ 5 _ [10, 10, 2, 3, 8] _ (H.out.below hba) (by omega) HRI.out (fun ad e => by injection e with e; rw [← e]; show w.heap.size ≠ b; omega) (by omega) (by omega)).mono ?_; rintro e w1 ⟨base, rfl, hmem, hs1, hg1⟩
  have hbase : 2 ≤ base ∧ base ≤ 10 := by
    simp only [List.mem_cons, List.not_mem_nil, or_false] at hmem
    omega
  obtain ⟨hb2, hb10⟩ := hbase
  have HS1 := Lib.hid hs1
  have HG1 := Lib.hid (gtrans (ofBelow hba (some b)) hg1)
  clear hs1 hg1 hmem
  go_wp2_with fail
  refine (pick_any b _ 5 w1 HS1.out (by omega)).mono ?_; rintro e w2 ⟨x, rfl, x0, xn, hs2, hg2⟩
  obtain ⟨wd, hwd⟩ : ∃ wd : Nat, (1 : Int) + x = (wd : Int) := ⟨(1 + x).toNat, by omega⟩
  have hwd1 : 1 ≤ wd := by omega
  have hwd2 : wd ≤ 5 := by omega
  have HS2 := Lib.hid hs2
  have HG2 := Lib.hid (gtrans HG1.out hg2)
  clear hs2 hg2
  go_wp2_with fail
  have hba2 : Below w2.heap.size w2 (w2.alloc (.cells #[] 41)) := (Below.refl _ _).alloc (Nat.le_refl _) _
  refine (pick_any b _ 3 _ (HS2.out.below hba2) (by omega)).mono ?_; rintro e w3 ⟨m0, rfl, m00, m0n, hs3, hg3⟩
  have hz2 := HG2.out.size
  have hz3 := hg3.size
  have HS3 := Lib.hid (hs3.mono (show _ ≤ 10 by omega))
  have HG3 := Lib.hid (gtrans (gBelow HG2.out hba2) hg3)
  have HF3 := Lib.hid (OwnF.grown (show OwnF (w2.alloc (.cells #[] 41)) w.heap.size (.slice (some ⟨w2.heap.size, 0, none⟩) 0 0) [] from own_lit (n := 0) (heap_alloc_new _ _) hz2 rfl (by decide)) hg3 hlt)
  have hm2 : m0 ≤ 2 := by omega
  clear hs3 hg3 m0n hz3
  go_wp2_with fail
  go_loopw [6, 5] (fun nn v wr => ∃ (m : Int) (fs : List Flt), 0 ≤ m ∧ m + fs.length ≤ 2 ∧ nn = .int .i64 m ∧ OwnF wr w.heap.size v fs ∧ GoodF wd fs ∧ Asc fs ∧ Src wr b (10 + 4 * (2 - m).toNat) ∧ w.grownBy wr (some b)) (fun nn _ _ => (intOf nn).toNat)
  case atStart => exact ⟨m0, [], m00, by simpa using hm2, rfl, HF3.out, (fun f hf => absurd hf List.not_mem_nil), (fun k hk => absurd hk (by simp)), HS3.out.mono (by omega), HG3.out⟩
  case round =>
    obtain ⟨m, fs, hm0, hm1, rfl, hof, hgf, hasc, hsr, hg⟩ := hrel
    have HOF := Lib.hid hof
    have HGF := Lib.hid hgf
    have HASC := Lib.hid hasc
    have HSR := Lib.hid hsr
    have HG := Lib.hid hg
    have hwz := hg.size
    clear hof hgf hasc hsr hg
    by_cases hmp : 0 < m
    · have hN : 10 + 4 * (2 - m).toNat ≤ 100 := by omega
      have hN2 : 10 + 4 * (2 - m).toNat + 2 + 2 = 10 + 4 * (2 - (m - 1)).toNat := by omega
      obtain ⟨N, hNe⟩ : ∃ N, N = 10 + 4 * (2 - m).toNat := ⟨_, rfl⟩
      have HNE := Lib.hid hNe
      rw [← hNe] at hN hN2 HSR
      have HN2 := Lib.hid hN2
      clear hNe hN2
      go_wp2_with fail
      refine (pick_any b _ 3 wr HSR.out (by omega)).mono ?_; rintro e w4 ⟨kd, rfl, kd0, kdn, hs4, hg4⟩
      have HS4 := Lib.hid hs4
      have HG4 := Lib.hid (gtrans HG.out hg4)
      have HOF4 := Lib.hid (HOF.out.grown hg4 hlt)
      have hz4 := hg4.size
      have hkd : kd < 3 := by omega
      clear hs4 hg4 kdn
      go_wp2_with fail
      refine (pick_any b _ wd w4 HS4.out (by omega)).mono ?_; rintro e w5 ⟨lv, rfl, lv0, lvn, hs5, hg5⟩
      have HS5 := Lib.hid hs5
      have HG5 := Lib.hid (gtrans HG4.out hg5)
      have HOF5 := Lib.hid (HOF4.out.grown hg5 hlt)
      have hz5 := hg5.size
      have hlv : lv < wd := by omega
      clear hs5 hg5 lvn
      obtain ⟨A, c, rfl, hrl⟩ := HOF5.out.reads
      have hbf : Below w5.heap.size w5 (w5.alloc (.cells #[.int .i64 (1 + kd), .int .i64 lv] 41)) := (Below.refl _ _).alloc (Nat.le_refl _) _
      have f0 : (w5.alloc (.cells #[.int .i64 (1 + kd), .int .i64 lv] 41)).cell? ⟨w5.heap.size, 0, none⟩ = some (.int .i64 (1 + kd)) := by go_simp
      have f1 : (w5.alloc (.cells #[.int .i64 (1 + kd), .int .i64 lv] 41)).cell? ⟨w5.heap.size, 1, none⟩ = some (.int .i64 lv) := by go_simp
      obtain ⟨W, hW⟩ : ∃ W, w5.alloc (.cells #[.int .i64 (1 + kd), .int .i64 lv] 41) = W := ⟨_, rfl⟩
      rw [hW] at f0 f1 hbf
      have HBF := Lib.hid hbf
      have HFW := Lib.hid (HOF5.out.below hbf)
      have HSW := Lib.hid (HS5.out.below hbf)
      have HGW := Lib.hid (gBelow HG5.out hbf)
      have hfl : fs.length ≤ 2 := by omega
      rcases Nat.eq_zero_or_pos fs.length with hz | hz
      · have HN := Lib.hid (List.eq_nil_of_length_eq_zero hz)
        have hzl : ((fs.length : Int) == 0) = true := by simp [hz]
        have HZ := Lib.hid hz
        clear hz hrl
        have HLV : Hid (∀ (h : 0 < fs.length), (fs[fs.length - 1]'(by omega)).lever < lv) := fun h => by have := HZ.out; omega
        have HFD := Lib.hid (fun (q : Nat) (o : Obj) => World.ownsRow.alloc (w := W.drewN q) HFW.out o)
        have HGD := Lib.hid (fun (q : Nat) (o : Obj) => gBelow (gDrew HGW.out q) ((Below.refl (W.drewN q).heap.size (W.drewN q)).alloc (Nat.le_refl _) o))
        have HSD := Lib.hid (fun (q : Nat) (o : Obj) => (HSW.out.drewN q).below ((Below.refl (W.drewN q).heap.size (W.drewN q)).alloc (Nat.le_refl _) o))
        have hzW : w.heap.size ≤ W.heap.size := HGW.out.size
        go_wp2_with fail
        go_quiet (fail)
        go_wp2_with (at_builtin; refine appG tpF rfl _ _ rfl w.heap.size _ fs.length (fcells fs) rfl (HFD.out _ _) ⟨W.heap.size, 0, none⟩ 1 1 [.int .i64 (1 + kd), .int .i64 lv] rfl rfl (World.news_of_block (heap_alloc_new _ _)) (by simp [Value.oneCell']) (by omega) (by omega) (by simp; omega) ?_; intro v5 w6 hown5 hg5 hv5)
        have hlo := fun k hk => (own_lt (HFD.out 0 (.cells #[] 0)) k hk).1
        have HOW := Lib.hid (show OwnF w6 w.heap.size v5 (fs ++ [⟨1 + kd, lv⟩]) by unfold OwnF; rw [fcells_app, List.length_append]; exact hown5)
        have HGN := Lib.hid (gMore (HGD.out _ _) hg5 hlo)
        have HSN := Lib.hid ((HSD.out _ _).keep hg5.size (fun k hk => hg5.block k (by simp; omega) (fun e => by have := hlo k e.symm; omega)))
        clear hown5 hg5 hv5 hlo
        go_roundw
        case rel => exact ⟨m - 1, fs ++ [⟨1 + kd, lv⟩], by omega, by rw [List.length_append, List.length_cons, List.length_nil]; omega, by go_num, HOW.out, (fun f hf => by
            rcases List.mem_append.1 hf with hf | hf
            · exact HGF.out f hf
            · rw [List.mem_singleton.1 hf]; exact ⟨by show 1 ≤ 1 + kd; omega, by show 1 + kd ≤ 3; omega, lv0, hlv⟩), asc_push HASC.out HLV.out, by rw [← HN2.out]; exact HSN.out, HGN.out⟩
        case measure => simp [intOf]; omega
      · have hzl : ((fs.length : Int) == 0) = false := by rw [beq_eq_false_iff_ne]; omega
        have hzn : ¬ (fs.length : Int) = 0 := by omega
        obtain ⟨ad, hA, hltd, hkl, g1, g2⟩ := (hrl.below steady_FltM hbf).at_ (show fs.length - 1 < fs.length by omega)
        obtain ⟨lw, hlw⟩ : ∃ lw, lw = (fs[fs.length - 1]'hkl).lever := ⟨_, rfl⟩
        rw [← hlw] at g2
        have HLW := Lib.hid hlw
        clear hlw g1 hrl
        subst hA
        by_cases hll : lw < lv
        · have HLV : Hid (∀ (h : 0 < fs.length), (fs[fs.length - 1]'(by omega)).lever < lv) := fun h => by have := HLW.out; omega
          have HFD := Lib.hid (fun (q : Nat) (o : Obj) => World.ownsRow.alloc (w := W.drewN q) HFW.out o)
          have HGD := Lib.hid (fun (q : Nat) (o : Obj) => gBelow (gDrew HGW.out q) ((Below.refl (W.drewN q).heap.size (W.drewN q)).alloc (Nat.le_refl _) o))
          have HSD := Lib.hid (fun (q : Nat) (o : Obj) => (HSW.out.drewN q).below ((Below.refl (W.drewN q).heap.size (W.drewN q)).alloc (Nat.le_refl _) o))
          have hzW : w.heap.size ≤ W.heap.size := HGW.out.size
          go_wp2_with fail
          go_quiet (fail)
          go_wp2_with (at_builtin; refine appG tpF rfl _ _ rfl w.heap.size _ fs.length (fcells fs) rfl (HFD.out _ _) ⟨W.heap.size, 0, none⟩ 1 1 [.int .i64 (1 + kd), .int .i64 lv] rfl rfl (World.news_of_block (heap_alloc_new _ _)) (by simp [Value.oneCell']) (by omega) (by omega) (by simp; omega) ?_; intro v5 w6 hown5 hg5 hv5)
          have hlo := fun k hk => (own_lt (HFD.out 0 (.cells #[] 0)) k hk).1
          have HOW := Lib.hid (show OwnF w6 w.heap.size v5 (fs ++ [⟨1 + kd, lv⟩]) by unfold OwnF; rw [fcells_app, List.length_append]; exact hown5)
          have HGN := Lib.hid (gMore (HGD.out _ _) hg5 hlo)
          have HSN := Lib.hid ((HSD.out _ _).keep hg5.size (fun k hk => hg5.block k (by simp; omega) (fun e => by have := hlo k e.symm; omega)))
          clear hown5 hg5 hv5 hlo
          go_roundw
          case rel => exact ⟨m - 1, fs ++ [⟨1 + kd, lv⟩], by omega, by rw [List.length_append, List.length_cons, List.length_nil]; omega, by go_num, HOW.out, (fun f hf => by
              rcases List.mem_append.1 hf with hf | hf
              · exact HGF.out f hf
              · rw [List.mem_singleton.1 hf]; exact ⟨by show 1 ≤ 1 + kd; omega, by show 1 + kd ≤ 3; omega, lv0, hlv⟩), asc_push HASC.out HLV.out, by rw [← HN2.out]; exact HSN.out, HGN.out⟩
          case measure => simp [intOf]; omega
        · go_wp2_with fail
          go_quiet (fail)
          go_wp2
          go_roundw
          case rel => exact ⟨m - 1, fs, by omega, by omega, by go_num, HFW.out, HGF.out, HASC.out, by rw [← HN2.out]; exact HSW.out.drewN _, gDrew HGW.out _⟩
          case measure => simp [intOf]; omega
    · have HM : Hid (m = 0) := by simp only [Hid]; omega
      have HSR2 := Lib.hid (HSR.out.mono (show _ ≤ 18 by have := HM.out; omega))
      obtain ⟨A, c, rfl, hrl⟩ := HOF.out.reads
      clear HSR hrl
      go_wp2_with fail
      refine (one_any b _ 2 wr HSR2.out (by omega)).mono ?_; rintro e w7 ⟨y, rfl, hs7, hg7⟩
      have HS7 := Lib.hid (hs7.mono (show _ ≤ 30 by omega))
      have HG7 := Lib.hid (gtrans HG.out hg7)
      have HF7 := Lib.hid (HOF.out.grown hg7 hlt)
      have hz7 := HG7.out.size
      clear hs7 hg7
      obtain ⟨AF, cF, e, hrf⟩ := HF7.out.reads
      injection e with e1 e2 e3
      subst e1; subst e3
      have HRF := Lib.hid hrf; clear hrf
      cases y
      · obtain ⟨wz, rfl⟩ : ∃ wz : World, wz = w7 := ⟨_, rfl⟩
        have HSz := HS7
        have HGz := HG7
        have HFz := HF7
        have hzz := HGz.out.size
        have hbo : Below wz.heap.size wz (wz.alloc (.cells #[] 62)) := (Below.refl _ _).alloc (Nat.le_refl _) _
        go_wp2_with fail
        refine (pick_any b _ 5 _ (HSz.out.below hbo) (by omega)).mono ?_; rintro e wy ⟨q0, rfl, q00, q0n, hsy, hgy⟩
        obtain ⟨tn, htn⟩ : ∃ tn : Int, (1 : Int) + q0 = tn := ⟨_, rfl⟩
        have htn1 : 1 ≤ tn := by omega
        have htn5 : tn ≤ 5 := by omega
        have HSy := Lib.hid (hsy.mono (show _ ≤ 40 by omega))
        have HGy := Lib.hid (gtrans (gBelow HGz.out hbo) hgy)
        have HFy := Lib.hid ((HFz.out.below hbo).grown hgy hlt)
        have hbz : b < wz.heap.size := by omega
        have HPy := Lib.hid (PL.grown (show PL (wz.alloc (.cells #[] 62)) wz.heap.size (.slice (some ⟨wz.heap.size, 0, none⟩) 0 0) [] from PL.nil (heap_alloc_new _ _) (Nat.le_refl _)) hgy hbz)
        have hzy : wz.heap.size ≤ wy.heap.size := by have h1 := hgy.size; have h2 := hbo.size; omega
        have HFzl := Lib.hid (own_lt HFz.out)
        clear hsy hgy q0n
        go_wp2_with fail
        go_loopw [11, 10] (fun nn v wr => ∃ (m : Int) (ts : List Tri), 0 ≤ m ∧ m + ts.length ≤ 5 ∧ 1 ≤ m + ts.length ∧ nn = .int .i64 m ∧ PL wr wz.heap.size v ts ∧ wz.heap.size ≤ wr.heap.size ∧ (∀ t ∈ ts, TrOK base wd t) ∧ OwnF wr w.heap.size (.slice A fs.length c) fs ∧ Src wr b (100 + 50 * (5 - m).toNat) ∧ w.grownBy wr (some b)) (fun nn _ _ => (intOf nn).toNat)
        case atStart => exact ⟨tn, [], by omega, by simpa using htn5, by simpa using htn1, rfl, HPy.out, hzy, (fun t ht => absurd ht List.not_mem_nil), HFy.out, HSy.out.mono (by omega), HGy.out⟩
        case round =>
          obtain ⟨mm, ts, hm0', hm5, hm1', rfl, hpl, hzwr, hok, hof, hsr, hg⟩ := hrel
          have HPL := Lib.hid hpl
          have HTOK := Lib.hid hok
          have HOF' := Lib.hid hof
          have HSR' := Lib.hid hsr
          have HG' := Lib.hid hg
          have hwz' := hg.size
          clear hpl hok hof hsr hg
          by_cases hmp' : 0 < mm
          · have hN : 100 + 50 * (5 - mm).toNat ≤ 400 := by omega
            have hN2 : 100 + 50 * (5 - mm).toNat + wd * 4 + wd * 4 ≤ 100 + 50 * (5 - (mm - 1)).toNat := by omega
            obtain ⟨N, hNe⟩ : ∃ N, N = 100 + 50 * (5 - mm).toNat := ⟨_, rfl⟩
            rw [← hNe] at hN hN2 HSR'
            have HN2 := Lib.hid hN2
            clear hNe hN2
            have hbT : Below wr.heap.size wr (wr.alloc (.cells #[.int .i64 base, .slice none 0 0, .int .i64 base, .slice none 0 0, .int .i64 0, .slice none 0 0, .int .i64 0] 62)) := (Below.refl _ _).alloc (Nat.le_refl _) _
            obtain ⟨wa, hwa⟩ : ∃ wa, wr.alloc (.cells #[.int .i64 base, .slice none 0 0, .int .i64 base, .slice none 0 0, .int .i64 0, .slice none 0 0, .int .i64 0] 62) = wa := ⟨_, rfl⟩
            have T0 : wa.heap[wr.heap.size]? = some (.cells #[.int .i64 base, .slice none 0 0, .int .i64 base, .slice none 0 0, .int .i64 0, .slice none 0 0, .int .i64 0] 62 (0, 0)) := by rw [← hwa]; exact heap_alloc_new _ _
            have hza : wa.heap.size = wr.heap.size + 1 := by rw [← hwa]; simp
            have hTb : wr.heap.size ≠ b := by omega
            rw [hwa] at hbT
            have HSA := Lib.hid (HSR'.out.below hbT)
            have HBT := Lib.hid hbT
            have HT0 := Lib.hid T0
            have HZA := Lib.hid hza
            have HWA := Lib.hid hwa
            clear hbT T0 hza hwa
            go_wp2_with fail
            rw [HWA.out]
            refine (l02DrawDigits_any b N base wd wa HSA.out (by omega) hb2 (by omega) (by omega)).mono ?_; rintro e w1' ⟨A1, c1, ds1, rfl, o1, l1, d1, hs1, hg1⟩
            have T1 : w1'.heap[wr.heap.size]? = some (.cells #[.int .i64 base, .slice none 0 0, .int .i64 base, .slice none 0 0, .int .i64 0, .slice none 0 0, .int .i64 0] 62 (0, 0)) := by rw [hg1.block _ (by have := HZA.out; omega) (fun e => by injection e with e; exact hTb e)]; exact HT0.out
            have T1' : (w1'.setCell ⟨wr.heap.size, 1, none⟩ (.slice A1 wd c1)).heap[wr.heap.size]? = some (.cells #[.int .i64 base, .slice A1 wd c1, .int .i64 base, .slice none 0 0, .int .i64 0, .slice none 0 0, .int .i64 0] 62 (0, 0)) := by rw [heap_setCell_same _ _ _ _ _ _ T1]; rfl
            have t1 : w1'.cell? ⟨wr.heap.size, 1, none⟩ = some (.slice none 0 0) := by rw [cell_of_row _ _ _ _ _ _ T1]; rfl
            have t1f : w1'.frozen? ⟨wr.heap.size, 1, none⟩ = false := frozen_of_row _ _ _ _ _ T1
            have HT1 := Lib.hid T1'
            have hz1' : wa.heap.size ≤ w1'.heap.size := hg1.size
            have hwaz := HZA.out
            have HS1' := Lib.hid (hs1.keep (w' := w1'.setCell ⟨wr.heap.size, 1, none⟩ (.slice A1 wd c1)) (by simp [World.setCell]) (fun k hk => heap_setCell_other _ _ _ _ (by show k ≠ wr.heap.size; omega)))
            have HG1' := Lib.hid (gSet (gtrans (gBelow HG'.out HBT.out) hg1) (p := ⟨wr.heap.size, 1, none⟩) hwz' (.slice A1 wd c1))
            have HO1' := Lib.hid (o1.setBelow (a := ⟨wr.heap.size, 1, none⟩) (by show wr.heap.size < wa.heap.size; omega) (.slice A1 wd c1))
            have HGR1 := Lib.hid (gSet (gtrans (ofBelow HBT.out (some b)) hg1) (p := ⟨wr.heap.size, 1, none⟩) (Nat.le_refl _) (.slice A1 wd c1))
            have HD1' := Lib.hid (show DigB base wd ds1 from ⟨l1, d1⟩)
            clear T1 T1' hs1 hg1 o1 l1 d1
            go_wp2_with fail
            obtain ⟨wb, hwb⟩ : ∃ wb, w1'.setCell ⟨wr.heap.size, 1, none⟩ (.slice A1 wd c1) = wb := ⟨_, rfl⟩
            have hzb : wb.heap.size = w1'.heap.size := by rw [← hwb]; simp [World.setCell]
            rw [hwb] at HT1 HS1' HG1' HO1' HGR1
            rw [hwb]
            refine (l02DrawDigits_any b _ base wd wb HS1'.out (by omega) hb2 (by omega) (by omega)).mono ?_; rintro e w2' ⟨A2, c2, ds2, rfl, o2, l2, d2, hs2, hg2⟩
            have hzb' : wr.heap.size + 1 ≤ wb.heap.size := by omega
            clear hwb hzb
            have T2 : w2'.heap[wr.heap.size]? = some (.cells #[.int .i64 base, .slice A1 wd c1, .int .i64 base, .slice none 0 0, .int .i64 0, .slice none 0 0, .int .i64 0] 62 (0, 0)) := by rw [hg2.block _ (by omega) (fun e => by injection e with e; exact hTb e)]; exact HT1.out
            have T2' : (w2'.setCell ⟨wr.heap.size, 3, none⟩ (.slice A2 wd c2)).heap[wr.heap.size]? = some (.cells #[.int .i64 base, .slice A1 wd c1, .int .i64 base, .slice A2 wd c2, .int .i64 0, .slice none 0 0, .int .i64 0] 62 (0, 0)) := by rw [heap_setCell_same _ _ _ _ _ _ T2]; rfl
            have t3 : w2'.cell? ⟨wr.heap.size, 3, none⟩ = some (.slice none 0 0) := by rw [cell_of_row _ _ _ _ _ _ T2]; rfl
            have t3f : w2'.frozen? ⟨wr.heap.size, 3, none⟩ = false := frozen_of_row _ _ _ _ _ T2
            have HT2 := Lib.hid T2'
            have hz2' : wb.heap.size ≤ w2'.heap.size := hg2.size
            have HS2' := Lib.hid (hs2.keep (w' := w2'.setCell ⟨wr.heap.size, 3, none⟩ (.slice A2 wd c2)) (by simp [World.setCell]) (fun k hk => heap_setCell_other _ _ _ _ (by show k ≠ wr.heap.size; omega)))
            have HG2' := Lib.hid (gSet (gtrans HG1'.out hg2) (p := ⟨wr.heap.size, 3, none⟩) hwz' (.slice A2 wd c2))
            have HO12 := Lib.hid ((HO1'.out.grown hg2 (by omega)).setBelow (a := ⟨wr.heap.size, 3, none⟩) (by show wr.heap.size < wa.heap.size; omega) (.slice A2 wd c2))
            have HO2' := Lib.hid (o2.setBelow (a := ⟨wr.heap.size, 3, none⟩) (by show wr.heap.size < wb.heap.size; omega) (.slice A2 wd c2))
            have HGR2 := Lib.hid (gSet (gtrans HGR1.out hg2) (p := ⟨wr.heap.size, 3, none⟩) (Nat.le_refl _) (.slice A2 wd c2))
            have HD2' := Lib.hid (show DigB base wd ds2 from ⟨l2, d2⟩)
            clear T2 T2' hs2 hg2 o2 l2 d2 t1 t1f
            go_wp2_with fail
            obtain ⟨wc, hwc⟩ : ∃ wc, w2'.setCell ⟨wr.heap.size, 3, none⟩ (.slice A2 wd c2) = wc := ⟨_, rfl⟩
            have hzc : w2'.heap.size ≤ wc.heap.size := by rw [← hwc]; simp [World.setCell]
            rw [hwc] at HT2 HS2' HG2' HO12 HO2' HGR2
            rw [hwc]
            have c0 : wc.cell? ⟨wr.heap.size, 0, none⟩ = some (.int .i64 base) := by rw [cell_of_row _ _ _ _ _ _ HT2.out]; rfl
            have c1' : wc.cell? ⟨wr.heap.size, 0 + 1, none⟩ = some (.slice A1 wd c1) := by rw [cell_of_row _ _ _ _ _ _ HT2.out]; rfl
            have c2' : wc.cell? ⟨wr.heap.size, 2, none⟩ = some (.int .i64 base) := by rw [cell_of_row _ _ _ _ _ _ HT2.out]; rfl
            have c3' : wc.cell? ⟨wr.heap.size, 2 + 1, none⟩ = some (.slice A2 wd c2) := by rw [cell_of_row _ _ _ _ _ _ HT2.out]; rfl
            have hRA : RegM wc ⟨wr.heap.size, 0, none⟩ ⟨base, ds1⟩ := ⟨A1, c1, ⟨c0, by show _ = some (Value.slice A1 ds1.length c1); rw [HD1'.out.1]; exact c1'⟩, by show RI wc A1 ds1.length ds1; rw [HD1'.out.1]; exact ownI_ri HO12.out⟩
            have hRB : RegM wc ⟨wr.heap.size, 2, none⟩ ⟨base, ds2⟩ := ⟨A2, c2, ⟨c2', by show _ = some (Value.slice A2 ds2.length c2); rw [HD2'.out.1]; exact c3'⟩, by show RI wc A2 ds2.length ds2; rw [HD2'.out.1]; exact ownI_ri HO2'.out⟩
            have hof : OwnF wc w.heap.size (.slice A fs.length c) fs := row_kept HOF'.out (fun g hg => by
              obtain ⟨h1, h2⟩ := own_lt HOF'.out g hg
              exact HGR2.out.block g h2 (fun e => by injection e with e; omega))
            have HOFC := Lib.hid hof
            have hzr : wr.heap.size < wc.heap.size := by omega
            have KA := l08Add_any ⟨wr.heap.size, 0, none⟩ ⟨wr.heap.size, 2, none⟩ ⟨base, ds1⟩ ⟨base, ds2⟩ A fs.length c fs wc hRA hRB hzr hzr (ownF_rl hof) (by show ds1.length = ds2.length; rw [HD1'.out.1, HD2'.out.1]) (by show ds1.length ≤ 16; rw [HD1'.out.1]; omega) hb2 (by show base ≤ 16; omega) (by show ∀ d ∈ ds1, 0 ≤ d ∧ d < base; exact HD1'.out.2) (by show ∀ d ∈ ds2, 0 ≤ d ∧ d < base; exact HD2'.out.2) (by show GoodF ds1.length fs; rw [HD1'.out.1]; exact HGF.out) (by omega)
            simp only [HD1'.out.1] at KA
            obtain ⟨sd, hsd⟩ : ∃ sd, sd = sumL base ds1 ds2 fs wd := ⟨_, rfl⟩
            obtain ⟨cy, hcy⟩ : ∃ cy, cy = carryAt base ds1 ds2 fs wd := ⟨_, rfl⟩
            have HDS := Lib.hid (show DigB base wd sd by rw [hsd]; exact sumL_dig _ _ _ _ _ hb2 (fun d hd => (HD1'.out.2 d hd).1) (fun d hd => (HD2'.out.2 d hd).1))
            have HCY := Lib.hid (show 0 ≤ cy ∧ cy ≤ 1 by rw [hcy]; exact carryAt_bd _ _ _ _ _)
            rw [← hsd, ← hcy] at KA
            clear hsd hcy hRA hRB hof c0 c1' c2' c3' hwc t3 t3f
            refine KA.mono ?_; rintro e w3' ⟨X, x, rfl, ox, hw3⟩
            clear KA
            have T3 : w3'.heap[wr.heap.size]? = some (.cells #[.int .i64 base, .slice A1 wd c1, .int .i64 base, .slice A2 wd c2, .int .i64 0, .slice none 0 0, .int .i64 0] 62 (0, 0)) := by rw [hw3.block _ hzr]; exact HT2.out
            have s0 : w3'.cell? ⟨wr.heap.size, 0, none⟩ = some (.int .i64 base) := by rw [cell_of_row _ _ _ _ _ _ T3]; rfl
            have s1 : w3'.cell? ⟨wr.heap.size, 1, none⟩ = some (.slice A1 wd c1) := by rw [cell_of_row _ _ _ _ _ _ T3]; rfl
            have s2 : w3'.cell? ⟨wr.heap.size, 2, none⟩ = some (.int .i64 base) := by rw [cell_of_row _ _ _ _ _ _ T3]; rfl
            have s3 : w3'.cell? ⟨wr.heap.size, 3, none⟩ = some (.slice A2 wd c2) := by rw [cell_of_row _ _ _ _ _ _ T3]; rfl
            have s4 : w3'.cell? ⟨wr.heap.size, 4, none⟩ = some (.int .i64 0) := by rw [cell_of_row _ _ _ _ _ _ T3]; rfl
            have s5 : w3'.cell? ⟨wr.heap.size, 5, none⟩ = some (.slice none 0 0) := by rw [cell_of_row _ _ _ _ _ _ T3]; rfl
            have s6 : w3'.cell? ⟨wr.heap.size, 6, none⟩ = some (.int .i64 0) := by rw [cell_of_row _ _ _ _ _ _ T3]; rfl
            have sf : ∀ o, w3'.frozen? ⟨wr.heap.size, o, none⟩ = false := fun o => frozen_of_row _ _ _ _ _ T3
            have hz3' : wc.heap.size ≤ w3'.heap.size := hw3.size
            have hlt3 : wr.heap.size < w3'.heap.size := by omega
            have HW3 := Lib.hid hw3
            have HOX := Lib.hid ox
            clear T3 hw3 ox
            have gr3 : wr.grownBy (((((w3'.setCell ⟨wr.heap.size, 4, none⟩ (.int .i64 base)).setCell ⟨wr.heap.size, 5, none⟩ (.slice X wd x)).setCell ⟨wr.heap.size, 6, none⟩ (.int .i64 cy)).alloc (.cells #[.int .i64 base, .slice X wd x] 60)).alloc (.cells #[.int .i64 base, .slice A1 wd c1, .int .i64 base, .slice A2 wd c2, .int .i64 base, .slice X wd x, .int .i64 cy] 62)) (some b) := gBelow (gBelow (gSet (gSet (gSet (gBelow HGR2.out HW3.out) (p := ⟨wr.heap.size, 4, none⟩) (Nat.le_refl _) (.int .i64 base)) (p := ⟨wr.heap.size, 5, none⟩) (Nat.le_refl _) (.slice X wd x)) (p := ⟨wr.heap.size, 6, none⟩) (Nat.le_refl _) (.int .i64 cy)) ((Below.refl _ _).alloc (Nat.le_refl _) (.cells #[.int .i64 base, .slice X wd x] 60))) ((Below.refl _ _).alloc (Nat.le_refl _) (.cells #[.int .i64 base, .slice A1 wd c1, .int .i64 base, .slice A2 wd c2, .int .i64 base, .slice X wd x, .int .i64 cy] 62))
            have gwf : w.grownBy (((((w3'.setCell ⟨wr.heap.size, 4, none⟩ (.int .i64 base)).setCell ⟨wr.heap.size, 5, none⟩ (.slice X wd x)).setCell ⟨wr.heap.size, 6, none⟩ (.int .i64 cy)).alloc (.cells #[.int .i64 base, .slice X wd x] 60)).alloc (.cells #[.int .i64 base, .slice A1 wd c1, .int .i64 base, .slice A2 wd c2, .int .i64 base, .slice X wd x, .int .i64 cy] 62)) (some b) := gBelow (gBelow (gSet (gSet (gSet (gBelow HG2'.out HW3.out) (p := ⟨wr.heap.size, 4, none⟩) hwz' (.int .i64 base)) (p := ⟨wr.heap.size, 5, none⟩) hwz' (.slice X wd x)) (p := ⟨wr.heap.size, 6, none⟩) hwz' (.int .i64 cy)) ((Below.refl _ _).alloc (Nat.le_refl _) (.cells #[.int .i64 base, .slice X wd x] 60))) ((Below.refl _ _).alloc (Nat.le_refl _) (.cells #[.int .i64 base, .slice A1 wd c1, .int .i64 base, .slice A2 wd c2, .int .i64 base, .slice X wd x, .int .i64 cy] 62))
            have k1 : OwnI (((((w3'.setCell ⟨wr.heap.size, 4, none⟩ (.int .i64 base)).setCell ⟨wr.heap.size, 5, none⟩ (.slice X wd x)).setCell ⟨wr.heap.size, 6, none⟩ (.int .i64 cy)).alloc (.cells #[.int .i64 base, .slice X wd x] 60)).alloc (.cells #[.int .i64 base, .slice A1 wd c1, .int .i64 base, .slice A2 wd c2, .int .i64 base, .slice X wd x, .int .i64 cy] 62)) wa.heap.size (.slice A1 wd c1) ds1 := (((((HO12.out.below HW3.out).setBelow (a := ⟨wr.heap.size, 4, none⟩) (by show wr.heap.size < wa.heap.size; omega) (.int .i64 base)).setBelow (a := ⟨wr.heap.size, 5, none⟩) (by show wr.heap.size < wa.heap.size; omega) (.slice X wd x)).setBelow (a := ⟨wr.heap.size, 6, none⟩) (by show wr.heap.size < wa.heap.size; omega) (.int .i64 cy)).below ((Below.refl _ _).alloc (Nat.le_refl _) (.cells #[.int .i64 base, .slice X wd x] 60))).below ((Below.refl _ _).alloc (Nat.le_refl _) (.cells #[.int .i64 base, .slice A1 wd c1, .int .i64 base, .slice A2 wd c2, .int .i64 base, .slice X wd x, .int .i64 cy] 62))
            have k2 : OwnI (((((w3'.setCell ⟨wr.heap.size, 4, none⟩ (.int .i64 base)).setCell ⟨wr.heap.size, 5, none⟩ (.slice X wd x)).setCell ⟨wr.heap.size, 6, none⟩ (.int .i64 cy)).alloc (.cells #[.int .i64 base, .slice X wd x] 60)).alloc (.cells #[.int .i64 base, .slice A1 wd c1, .int .i64 base, .slice A2 wd c2, .int .i64 base, .slice X wd x, .int .i64 cy] 62)) wb.heap.size (.slice A2 wd c2) ds2 := (((((HO2'.out.below HW3.out).setBelow (a := ⟨wr.heap.size, 4, none⟩) (by show wr.heap.size < wb.heap.size; omega) (.int .i64 base)).setBelow (a := ⟨wr.heap.size, 5, none⟩) (by show wr.heap.size < wb.heap.size; omega) (.slice X wd x)).setBelow (a := ⟨wr.heap.size, 6, none⟩) (by show wr.heap.size < wb.heap.size; omega) (.int .i64 cy)).below ((Below.refl _ _).alloc (Nat.le_refl _) (.cells #[.int .i64 base, .slice X wd x] 60))).below ((Below.refl _ _).alloc (Nat.le_refl _) (.cells #[.int .i64 base, .slice A1 wd c1, .int .i64 base, .slice A2 wd c2, .int .i64 base, .slice X wd x, .int .i64 cy] 62))
            have k3 : OwnI (((((w3'.setCell ⟨wr.heap.size, 4, none⟩ (.int .i64 base)).setCell ⟨wr.heap.size, 5, none⟩ (.slice X wd x)).setCell ⟨wr.heap.size, 6, none⟩ (.int .i64 cy)).alloc (.cells #[.int .i64 base, .slice X wd x] 60)).alloc (.cells #[.int .i64 base, .slice A1 wd c1, .int .i64 base, .slice A2 wd c2, .int .i64 base, .slice X wd x, .int .i64 cy] 62)) wc.heap.size (.slice X wd x) sd := ((((HOX.out.setBelow (a := ⟨wr.heap.size, 4, none⟩) hzr (.int .i64 base)).setBelow (a := ⟨wr.heap.size, 5, none⟩) hzr (.slice X wd x)).setBelow (a := ⟨wr.heap.size, 6, none⟩) hzr (.int .i64 cy)).below ((Below.refl _ _).alloc (Nat.le_refl _) (.cells #[.int .i64 base, .slice X wd x] 60))).below ((Below.refl _ _).alloc (Nat.le_refl _) (.cells #[.int .i64 base, .slice A1 wd c1, .int .i64 base, .slice A2 wd c2, .int .i64 base, .slice X wd x, .int .i64 cy] 62))
            have ks : Src (((((w3'.setCell ⟨wr.heap.size, 4, none⟩ (.int .i64 base)).setCell ⟨wr.heap.size, 5, none⟩ (.slice X wd x)).setCell ⟨wr.heap.size, 6, none⟩ (.int .i64 cy)).alloc (.cells #[.int .i64 base, .slice X wd x] 60)).alloc (.cells #[.int .i64 base, .slice A1 wd c1, .int .i64 base, .slice A2 wd c2, .int .i64 base, .slice X wd x, .int .i64 cy] 62)) b (N + wd * 4 + wd * 4) := (((((HS2'.out.below HW3.out).keep (w' := w3'.setCell ⟨wr.heap.size, 4, none⟩ (.int .i64 base)) (by simp [World.setCell]) (fun k hk => heap_setCell_other _ _ _ _ (by show k ≠ wr.heap.size; omega))).keep (w' := (w3'.setCell ⟨wr.heap.size, 4, none⟩ (.int .i64 base)).setCell ⟨wr.heap.size, 5, none⟩ (.slice X wd x)) (by simp [World.setCell]) (fun k hk => heap_setCell_other _ _ _ _ (by show k ≠ wr.heap.size; omega))).keep (w' := ((w3'.setCell ⟨wr.heap.size, 4, none⟩ (.int .i64 base)).setCell ⟨wr.heap.size, 5, none⟩ (.slice X wd x)).setCell ⟨wr.heap.size, 6, none⟩ (.int .i64 cy)) (by simp [World.setCell]) (fun k hk => heap_setCell_other _ _ _ _ (by show k ≠ wr.heap.size; omega))).below ((Below.refl _ _).alloc (Nat.le_refl _) (.cells #[.int .i64 base, .slice X wd x] 60))).below ((Below.refl _ _).alloc (Nat.le_refl _) (.cells #[.int .i64 base, .slice A1 wd c1, .int .i64 base, .slice A2 wd c2, .int .i64 base, .slice X wd x, .int .i64 cy] 62))
            have kz : (((w3'.setCell ⟨wr.heap.size, 4, none⟩ (.int .i64 base)).setCell ⟨wr.heap.size, 5, none⟩ (.slice X wd x)).setCell ⟨wr.heap.size, 6, none⟩ (.int .i64 cy)).heap.size = w3'.heap.size := by simp [World.setCell]
            have kbox : ((((((w3'.setCell ⟨wr.heap.size, 4, none⟩ (.int .i64 base)).setCell ⟨wr.heap.size, 5, none⟩ (.slice X wd x)).setCell ⟨wr.heap.size, 6, none⟩ (.int .i64 cy)).alloc (.cells #[.int .i64 base, .slice X wd x] 60)).alloc (.cells #[.int .i64 base, .slice A1 wd c1, .int .i64 base, .slice A2 wd c2, .int .i64 base, .slice X wd x, .int .i64 cy] 62))).heap[w3'.heap.size + 1]? = some (.cells #[.int .i64 base, .slice A1 wd c1, .int .i64 base, .slice A2 wd c2, .int .i64 base, .slice X wd x, .int .i64 cy] 62 (0, 0)) := by
              rw [show w3'.heap.size + 1 = ((((w3'.setCell ⟨wr.heap.size, 4, none⟩ (.int .i64 base)).setCell ⟨wr.heap.size, 5, none⟩ (.slice X wd x)).setCell ⟨wr.heap.size, 6, none⟩ (.int .i64 cy)).alloc (.cells #[.int .i64 base, .slice X wd x] 60)).heap.size by rw [← kz]; simp]
              exact heap_alloc_new _ _
            obtain ⟨xs, hO, hI⟩ := PL.grown HPL.out gr3 hbz
            obtain ⟨xs0, hO0, -⟩ := HPL.out
            have kown := own_lt hO0
            have kfs : OwnF (((((w3'.setCell ⟨wr.heap.size, 4, none⟩ (.int .i64 base)).setCell ⟨wr.heap.size, 5, none⟩ (.slice X wd x)).setCell ⟨wr.heap.size, 6, none⟩ (.int .i64 cy)).alloc (.cells #[.int .i64 base, .slice X wd x] 60)).alloc (.cells #[.int .i64 base, .slice A1 wd c1, .int .i64 base, .slice A2 wd c2, .int .i64 base, .slice X wd x, .int .i64 cy] 62)) w.heap.size (.slice A fs.length c) fs := row_kept HOF'.out (fun g hg => by
              obtain ⟨h1, h2⟩ := own_lt HOF'.out g hg
              exact gr3.block g h2 (fun e => by injection e with e; omega))
            have kWz : wr.heap.size ≤ ((((((w3'.setCell ⟨wr.heap.size, 4, none⟩ (.int .i64 base)).setCell ⟨wr.heap.size, 5, none⟩ (.slice X wd x)).setCell ⟨wr.heap.size, 6, none⟩ (.int .i64 cy)).alloc (.cells #[.int .i64 base, .slice X wd x] 60)).alloc (.cells #[.int .i64 base, .slice A1 wd c1, .int .i64 base, .slice A2 wd c2, .int .i64 base, .slice X wd x, .int .i64 cy] 62))).heap.size := gr3.size
            have KGWF := Lib.hid gwf
            have K1 := Lib.hid k1
            have K2 := Lib.hid k2
            have K3 := Lib.hid k3
            have KS := Lib.hid ks
            have KI := Lib.hid hI
            have KOWN := Lib.hid kown
            have KFS := Lib.hid kfs
            have KO := Lib.hid hO
            clear gr3 gwf k1 k2 k3 ks kz hI hO hO0 kown kfs
            go_wp2_with (at_builtin; refine appG tpT rfl _ _ rfl wz.heap.size _ ts.length xs rfl KO.out ⟨w3'.heap.size + 1, 0, none⟩ 1 1 [.int .i64 base, .slice A1 wd c1, .int .i64 base, .slice A2 wd c2, .int .i64 base, .slice X wd x, .int .i64 cy] rfl rfl (World.news_of_block kbox) (by simp [Value.oneCell']) (by omega) (by omega) (by omega) ?_; intro v5 w6 hown5 hg5 hv5)
            have hwaz2 := HZA.out
            have hps := pl_push (t := ⟨⟨base, ds1⟩, ⟨base, ds2⟩, ⟨base, sd⟩, cy⟩) (X1 := A1) (x1 := c1) (X2 := A2) (x2 := c2) (X3 := X) (x3 := x) KO.out KI.out
              (ownD_of (b0 := wa.heap.size) (by show OwnI _ _ (Value.slice A1 ds1.length c1) _; rw [HD1'.out.1]; exact K1.out) (by omega) (fun k hk => by have := (KOWN.out k hk).2; omega))
              (ownD_of (b0 := wb.heap.size) (by show OwnI _ _ (Value.slice A2 ds2.length c2) _; rw [HD2'.out.1]; exact K2.out) (by omega) (fun k hk => by have := (KOWN.out k hk).2; omega))
              (ownD_of (b0 := wc.heap.size) (by show OwnI _ _ (Value.slice X sd.length x) _; rw [HDS.out.1]; exact K3.out) (by omega) (fun k hk => by have := (KOWN.out k hk).2; omega))
              (by simp only [tcells, HD1'.out.1, HD2'.out.1, HDS.out.1]; exact hown5) hg5 hv5
            have HPS := Lib.hid hps
            have HGF' := Lib.hid (gMore KGWF.out hg5 (fun k hk => by have := (KOWN.out k hk).1; omega))
            have HSF := Lib.hid ((KS.out.keep hg5.size (fun k hk => hg5.block k (by omega) (fun e => by have := (KOWN.out k e.symm).1; omega))).mono HN2.out)
            have HFF := Lib.hid (show OwnF w6 w.heap.size (.slice A fs.length c) fs from row_kept KFS.out (fun g hg => hg5.block g (own_lt KFS.out g hg).2 (fun e => by have h1 := (KOWN.out g e.symm).1; have h2 := (HFzl.out g hg).2; omega)))
            have hz6 : wz.heap.size ≤ w6.heap.size := by have := hg5.size; omega
            clear hps hown5 hg5 hv5
            go_roundw
            case rel => exact ⟨mm - 1, _, by omega, by rw [List.length_append, List.length_cons, List.length_nil]; omega, by rw [List.length_append, List.length_cons, List.length_nil]; omega, rfl, HPS.out, hz6, (fun t ht => by
              rcases List.mem_append.1 ht with ht | ht
              · exact HTOK.out t ht
              · rw [List.mem_singleton.1 ht]; exact ⟨rfl, HD1'.out, rfl, HD2'.out, rfl, HDS.out, HCY.out.1, HCY.out.2⟩), HFF.out, HSF.out, HGF'.out⟩
            case measure => simp [intOf]; omega
          · have hlen : 1 ≤ ts.length ∧ ts.length ≤ 5 := by omega
            obtain ⟨AO, cO, rfl, -⟩ := HPL.out.rl
            go_wp2
            go_ret
            have hdr : Drawn wr w.heap.size (.slice AO ts.length cO) ts := by
              refine ⟨HPL.out.mono hzz, vtrials_of HTOK.out hb2 hb10 hwd1 hwd2 hlen.1 (by omega), fun t ht => ?_, ?_⟩
              · obtain ⟨-, ⟨p1, -⟩, -, ⟨p2, -⟩, -, ⟨p3, -⟩, -⟩ := HTOK.out t ht
                unfold SmallTri SmallReg
                omega
              · rw [wid_of (n := wd) (fun t ht => (HTOK.out t ht).2.1.1) (by omega)]
                omega
            first
              | exact ⟨_, ts, rfl, hdr, HG'.out⟩
              | exact ⟨_, rfl, ⟨ts, hdr⟩, HG'.out⟩
      · go_wp2_with fail
        refine (StandardTrials_any base wd A fs.length c fs w7 hb2 (by omega) (by omega) (by omega) HRF.out HGF.out HASC.out (by omega)).mono ?_; rintro e w8 ⟨vv, code, us, rfl, hst, hw8⟩
        have HG8 := Lib.hid (gBelow HG7.out hw8)
        have HS8 := Lib.hid (HS7.out.below hw8)
        have HF8 := Lib.hid (HF7.out.below hw8)
        by_cases hc : code = 0
        · obtain ⟨hpl, hvt, hok, hul⟩ := hst hc
          have HPL := Lib.hid hpl
          have HVT := Lib.hid hvt
          have HUO := Lib.hid hok
          have HUL := Lib.hid hul
          subst hc
          clear hst hpl hvt hok hul
          obtain ⟨AV, cV, rfl, -⟩ := HPL.out.rl
          go_wp2
          go_ret
          have hpl2 := HPL.out
          have hul := HUL.out
          refine ⟨_, us, rfl, ⟨hpl2.mono hz7, HVT.out, fun t ht => weak_small (HUO.out t ht) (by omega), ?_⟩, HG8.out⟩
          rw [wid_of (n := wd) (fun t ht => (HUO.out t ht).2.1.1) (by omega)]
          omega
        · have hcb : (code == 0) = false := by rw [beq_eq_false_iff_ne]; exact hc
          clear hst
          obtain ⟨wz, rfl⟩ : ∃ wz : World, wz = w8 := ⟨_, rfl⟩
          have HSz := HS8
          have HGz := HG8
          have HFz := HF8
          have hzz := HGz.out.size
          have hbo : Below wz.heap.size wz (wz.alloc (.cells #[] 62)) := (Below.refl _ _).alloc (Nat.le_refl _) _
          go_wp2_with fail
          refine (pick_any b _ 5 _ (HSz.out.below hbo) (by omega)).mono ?_; rintro e wy ⟨q0, rfl, q00, q0n, hsy, hgy⟩
          obtain ⟨tn, htn⟩ : ∃ tn : Int, (1 : Int) + q0 = tn := ⟨_, rfl⟩
          have htn1 : 1 ≤ tn := by omega
          have htn5 : tn ≤ 5 := by omega
          have HSy := Lib.hid (hsy.mono (show _ ≤ 40 by omega))
          have HGy := Lib.hid (gtrans (gBelow HGz.out hbo) hgy)
          have HFy := Lib.hid ((HFz.out.below hbo).grown hgy hlt)
          have hbz : b < wz.heap.size := by omega
          have HPy := Lib.hid (PL.grown (show PL (wz.alloc (.cells #[] 62)) wz.heap.size (.slice (some ⟨wz.heap.size, 0, none⟩) 0 0) [] from PL.nil (heap_alloc_new _ _) (Nat.le_refl _)) hgy hbz)
          have hzy : wz.heap.size ≤ wy.heap.size := by have h1 := hgy.size; have h2 := hbo.size; omega
          have HFzl := Lib.hid (own_lt HFz.out)
          clear hsy hgy q0n
          go_wp2_with fail
          go_loopw [11, 10] (fun nn v wr => ∃ (m : Int) (ts : List Tri), 0 ≤ m ∧ m + ts.length ≤ 5 ∧ 1 ≤ m + ts.length ∧ nn = .int .i64 m ∧ PL wr wz.heap.size v ts ∧ wz.heap.size ≤ wr.heap.size ∧ (∀ t ∈ ts, TrOK base wd t) ∧ OwnF wr w.heap.size (.slice A fs.length c) fs ∧ Src wr b (100 + 50 * (5 - m).toNat) ∧ w.grownBy wr (some b)) (fun nn _ _ => (intOf nn).toNat)
          case atStart => exact ⟨tn, [], by omega, by simpa using htn5, by simpa using htn1, rfl, HPy.out, hzy, (fun t ht => absurd ht List.not_mem_nil), HFy.out, HSy.out.mono (by omega), HGy.out⟩
          case round =>
            obtain ⟨mm, ts, hm0', hm5, hm1', rfl, hpl, hzwr, hok, hof, hsr, hg⟩ := hrel
            have HPL := Lib.hid hpl
            have HTOK := Lib.hid hok
            have HOF' := Lib.hid hof
            have HSR' := Lib.hid hsr
            have HG' := Lib.hid hg
            have hwz' := hg.size
            clear hpl hok hof hsr hg
            by_cases hmp' : 0 < mm
            · have hN : 100 + 50 * (5 - mm).toNat ≤ 400 := by omega
              have hN2 : 100 + 50 * (5 - mm).toNat + wd * 4 + wd * 4 ≤ 100 + 50 * (5 - (mm - 1)).toNat := by omega
              obtain ⟨N, hNe⟩ : ∃ N, N = 100 + 50 * (5 - mm).toNat := ⟨_, rfl⟩
              rw [← hNe] at hN hN2 HSR'
              have HN2 := Lib.hid hN2
              clear hNe hN2
              have hbT : Below wr.heap.size wr (wr.alloc (.cells #[.int .i64 base, .slice none 0 0, .int .i64 base, .slice none 0 0, .int .i64 0, .slice none 0 0, .int .i64 0] 62)) := (Below.refl _ _).alloc (Nat.le_refl _) _
              obtain ⟨wa, hwa⟩ : ∃ wa, wr.alloc (.cells #[.int .i64 base, .slice none 0 0, .int .i64 base, .slice none 0 0, .int .i64 0, .slice none 0 0, .int .i64 0] 62) = wa := ⟨_, rfl⟩
              have T0 : wa.heap[wr.heap.size]? = some (.cells #[.int .i64 base, .slice none 0 0, .int .i64 base, .slice none 0 0, .int .i64 0, .slice none 0 0, .int .i64 0] 62 (0, 0)) := by rw [← hwa]; exact heap_alloc_new _ _
              have hza : wa.heap.size = wr.heap.size + 1 := by rw [← hwa]; simp
              have hTb : wr.heap.size ≠ b := by omega
              rw [hwa] at hbT
              have HSA := Lib.hid (HSR'.out.below hbT)
              have HBT := Lib.hid hbT
              have HT0 := Lib.hid T0
              have HZA := Lib.hid hza
              have HWA := Lib.hid hwa
              clear hbT T0 hza hwa
              go_wp2_with fail
              rw [HWA.out]
              refine (l02DrawDigits_any b N base wd wa HSA.out (by omega) hb2 (by omega) (by omega)).mono ?_; rintro e w1' ⟨A1, c1, ds1, rfl, o1, l1, d1, hs1, hg1⟩
              have T1 : w1'.heap[wr.heap.size]? = some (.cells #[.int .i64 base, .slice none 0 0, .int .i64 base, .slice none 0 0, .int .i64 0, .slice none 0 0, .int .i64 0] 62 (0, 0)) := by rw [hg1.block _ (by have := HZA.out; omega) (fun e => by injection e with e; exact hTb e)]; exact HT0.out
              have T1' : (w1'.setCell ⟨wr.heap.size, 1, none⟩ (.slice A1 wd c1)).heap[wr.heap.size]? = some (.cells #[.int .i64 base, .slice A1 wd c1, .int .i64 base, .slice none 0 0, .int .i64 0, .slice none 0 0, .int .i64 0] 62 (0, 0)) := by rw [heap_setCell_same _ _ _ _ _ _ T1]; rfl
              have t1 : w1'.cell? ⟨wr.heap.size, 1, none⟩ = some (.slice none 0 0) := by rw [cell_of_row _ _ _ _ _ _ T1]; rfl
              have t1f : w1'.frozen? ⟨wr.heap.size, 1, none⟩ = false := frozen_of_row _ _ _ _ _ T1
              have HT1 := Lib.hid T1'
              have hz1' : wa.heap.size ≤ w1'.heap.size := hg1.size
              have hwaz := HZA.out
              have HS1' := Lib.hid (hs1.keep (w' := w1'.setCell ⟨wr.heap.size, 1, none⟩ (.slice A1 wd c1)) (by simp [World.setCell]) (fun k hk => heap_setCell_other _ _ _ _ (by show k ≠ wr.heap.size; omega)))
              have HG1' := Lib.hid (gSet (gtrans (gBelow HG'.out HBT.out) hg1) (p := ⟨wr.heap.size, 1, none⟩) hwz' (.slice A1 wd c1))
              have HO1' := Lib.hid (o1.setBelow (a := ⟨wr.heap.size, 1, none⟩) (by show wr.heap.size < wa.heap.size; omega) (.slice A1 wd c1))
              have HGR1 := Lib.hid (gSet (gtrans (ofBelow HBT.out (some b)) hg1) (p := ⟨wr.heap.size, 1, none⟩) (Nat.le_refl _) (.slice A1 wd c1))
              have HD1' := Lib.hid (show DigB base wd ds1 from ⟨l1, d1⟩)
              clear T1 T1' hs1 hg1 o1 l1 d1
              go_wp2_with fail
              obtain ⟨wb, hwb⟩ : ∃ wb, w1'.setCell ⟨wr.heap.size, 1, none⟩ (.slice A1 wd c1) = wb := ⟨_, rfl⟩
              have hzb : wb.heap.size = w1'.heap.size := by rw [← hwb]; simp [World.setCell]
              rw [hwb] at HT1 HS1' HG1' HO1' HGR1
              rw [hwb]
              refine (l02DrawDigits_any b _ base wd wb HS1'.out (by omega) hb2 (by omega) (by omega)).mono ?_; rintro e w2' ⟨A2, c2, ds2, rfl, o2, l2, d2, hs2, hg2⟩
              have hzb' : wr.heap.size + 1 ≤ wb.heap.size := by omega
              clear hwb hzb
              have T2 : w2'.heap[wr.heap.size]? = some (.cells #[.int .i64 base, .slice A1 wd c1, .int .i64 base, .slice none 0 0, .int .i64 0, .slice none 0 0, .int .i64 0] 62 (0, 0)) := by rw [hg2.block _ (by omega) (fun e => by injection e with e; exact hTb e)]; exact HT1.out
              have T2' : (w2'.setCell ⟨wr.heap.size, 3, none⟩ (.slice A2 wd c2)).heap[wr.heap.size]? = some (.cells #[.int .i64 base, .slice A1 wd c1, .int .i64 base, .slice A2 wd c2, .int .i64 0, .slice none 0 0, .int .i64 0] 62 (0, 0)) := by rw [heap_setCell_same _ _ _ _ _ _ T2]; rfl
              have t3 : w2'.cell? ⟨wr.heap.size, 3, none⟩ = some (.slice none 0 0) := by rw [cell_of_row _ _ _ _ _ _ T2]; rfl
              have t3f : w2'.frozen? ⟨wr.heap.size, 3, none⟩ = false := frozen_of_row _ _ _ _ _ T2
              have HT2 := Lib.hid T2'
              have hz2' : wb.heap.size ≤ w2'.heap.size := hg2.size
              have HS2' := Lib.hid (hs2.keep (w' := w2'.setCell ⟨wr.heap.size, 3, none⟩ (.slice A2 wd c2)) (by simp [World.setCell]) (fun k hk => heap_setCell_other _ _ _ _ (by show k ≠ wr.heap.size; omega)))
              have HG2' := Lib.hid (gSet (gtrans HG1'.out hg2) (p := ⟨wr.heap.size, 3, none⟩) hwz' (.slice A2 wd c2))
              have HO12 := Lib.hid ((HO1'.out.grown hg2 (by omega)).setBelow (a := ⟨wr.heap.size, 3, none⟩) (by show wr.heap.size < wa.heap.size; omega) (.slice A2 wd c2))
              have HO2' := Lib.hid (o2.setBelow (a := ⟨wr.heap.size, 3, none⟩) (by show wr.heap.size < wb.heap.size; omega) (.slice A2 wd c2))
              have HGR2 := Lib.hid (gSet (gtrans HGR1.out hg2) (p := ⟨wr.heap.size, 3, none⟩) (Nat.le_refl _) (.slice A2 wd c2))
              have HD2' := Lib.hid (show DigB base wd ds2 from ⟨l2, d2⟩)
              clear T2 T2' hs2 hg2 o2 l2 d2 t1 t1f
              go_wp2_with fail
              obtain ⟨wc, hwc⟩ : ∃ wc, w2'.setCell ⟨wr.heap.size, 3, none⟩ (.slice A2 wd c2) = wc := ⟨_, rfl⟩
              have hzc : w2'.heap.size ≤ wc.heap.size := by rw [← hwc]; simp [World.setCell]
              rw [hwc] at HT2 HS2' HG2' HO12 HO2' HGR2
              rw [hwc]
              have c0 : wc.cell? ⟨wr.heap.size, 0, none⟩ = some (.int .i64 base) := by rw [cell_of_row _ _ _ _ _ _ HT2.out]; rfl
              have c1' : wc.cell? ⟨wr.heap.size, 0 + 1, none⟩ = some (.slice A1 wd c1) := by rw [cell_of_row _ _ _ _ _ _ HT2.out]; rfl
              have c2' : wc.cell? ⟨wr.heap.size, 2, none⟩ = some (.int .i64 base) := by rw [cell_of_row _ _ _ _ _ _ HT2.out]; rfl
              have c3' : wc.cell? ⟨wr.heap.size, 2 + 1, none⟩ = some (.slice A2 wd c2) := by rw [cell_of_row _ _ _ _ _ _ HT2.out]; rfl
              have hRA : RegM wc ⟨wr.heap.size, 0, none⟩ ⟨base, ds1⟩ := ⟨A1, c1, ⟨c0, by show _ = some (Value.slice A1 ds1.length c1); rw [HD1'.out.1]; exact c1'⟩, by show RI wc A1 ds1.length ds1; rw [HD1'.out.1]; exact ownI_ri HO12.out⟩
              have hRB : RegM wc ⟨wr.heap.size, 2, none⟩ ⟨base, ds2⟩ := ⟨A2, c2, ⟨c2', by show _ = some (Value.slice A2 ds2.length c2); rw [HD2'.out.1]; exact c3'⟩, by show RI wc A2 ds2.length ds2; rw [HD2'.out.1]; exact ownI_ri HO2'.out⟩
              have hof : OwnF wc w.heap.size (.slice A fs.length c) fs := row_kept HOF'.out (fun g hg => by
                obtain ⟨h1, h2⟩ := own_lt HOF'.out g hg
                exact HGR2.out.block g h2 (fun e => by injection e with e; omega))
              have HOFC := Lib.hid hof
              have hzr : wr.heap.size < wc.heap.size := by omega
              have KA := l08Add_any ⟨wr.heap.size, 0, none⟩ ⟨wr.heap.size, 2, none⟩ ⟨base, ds1⟩ ⟨base, ds2⟩ A fs.length c fs wc hRA hRB hzr hzr (ownF_rl hof) (by show ds1.length = ds2.length; rw [HD1'.out.1, HD2'.out.1]) (by show ds1.length ≤ 16; rw [HD1'.out.1]; omega) hb2 (by show base ≤ 16; omega) (by show ∀ d ∈ ds1, 0 ≤ d ∧ d < base; exact HD1'.out.2) (by show ∀ d ∈ ds2, 0 ≤ d ∧ d < base; exact HD2'.out.2) (by show GoodF ds1.length fs; rw [HD1'.out.1]; exact HGF.out) (by omega)
              simp only [HD1'.out.1] at KA
              obtain ⟨sd, hsd⟩ : ∃ sd, sd = sumL base ds1 ds2 fs wd := ⟨_, rfl⟩
              obtain ⟨cy, hcy⟩ : ∃ cy, cy = carryAt base ds1 ds2 fs wd := ⟨_, rfl⟩
              have HDS := Lib.hid (show DigB base wd sd by rw [hsd]; exact sumL_dig _ _ _ _ _ hb2 (fun d hd => (HD1'.out.2 d hd).1) (fun d hd => (HD2'.out.2 d hd).1))
              have HCY := Lib.hid (show 0 ≤ cy ∧ cy ≤ 1 by rw [hcy]; exact carryAt_bd _ _ _ _ _)
              rw [← hsd, ← hcy] at KA
              clear hsd hcy hRA hRB hof c0 c1' c2' c3' hwc t3 t3f
              refine KA.mono ?_; rintro e w3' ⟨X, x, rfl, ox, hw3⟩
              clear KA
              have T3 : w3'.heap[wr.heap.size]? = some (.cells #[.int .i64 base, .slice A1 wd c1, .int .i64 base, .slice A2 wd c2, .int .i64 0, .slice none 0 0, .int .i64 0] 62 (0, 0)) := by rw [hw3.block _ hzr]; exact HT2.out
              have s0 : w3'.cell? ⟨wr.heap.size, 0, none⟩ = some (.int .i64 base) := by rw [cell_of_row _ _ _ _ _ _ T3]; rfl
              have s1 : w3'.cell? ⟨wr.heap.size, 1, none⟩ = some (.slice A1 wd c1) := by rw [cell_of_row _ _ _ _ _ _ T3]; rfl
              have s2 : w3'.cell? ⟨wr.heap.size, 2, none⟩ = some (.int .i64 base) := by rw [cell_of_row _ _ _ _ _ _ T3]; rfl
              have s3 : w3'.cell? ⟨wr.heap.size, 3, none⟩ = some (.slice A2 wd c2) := by rw [cell_of_row _ _ _ _ _ _ T3]; rfl
              have s4 : w3'.cell? ⟨wr.heap.size, 4, none⟩ = some (.int .i64 0) := by rw [cell_of_row _ _ _ _ _ _ T3]; rfl
              have s5 : w3'.cell? ⟨wr.heap.size, 5, none⟩ = some (.slice none 0 0) := by rw [cell_of_row _ _ _ _ _ _ T3]; rfl
              have s6 : w3'.cell? ⟨wr.heap.size, 6, none⟩ = some (.int .i64 0) := by rw [cell_of_row _ _ _ _ _ _ T3]; rfl
              have sf : ∀ o, w3'.frozen? ⟨wr.heap.size, o, none⟩ = false := fun o => frozen_of_row _ _ _ _ _ T3
              have hz3' : wc.heap.size ≤ w3'.heap.size := hw3.size
              have hlt3 : wr.heap.size < w3'.heap.size := by omega
              have HW3 := Lib.hid hw3
              have HOX := Lib.hid ox
              clear T3 hw3 ox
              have gr3 : wr.grownBy (((((w3'.setCell ⟨wr.heap.size, 4, none⟩ (.int .i64 base)).setCell ⟨wr.heap.size, 5, none⟩ (.slice X wd x)).setCell ⟨wr.heap.size, 6, none⟩ (.int .i64 cy)).alloc (.cells #[.int .i64 base, .slice X wd x] 60)).alloc (.cells #[.int .i64 base, .slice A1 wd c1, .int .i64 base, .slice A2 wd c2, .int .i64 base, .slice X wd x, .int .i64 cy] 62)) (some b) := gBelow (gBelow (gSet (gSet (gSet (gBelow HGR2.out HW3.out) (p := ⟨wr.heap.size, 4, none⟩) (Nat.le_refl _) (.int .i64 base)) (p := ⟨wr.heap.size, 5, none⟩) (Nat.le_refl _) (.slice X wd x)) (p := ⟨wr.heap.size, 6, none⟩) (Nat.le_refl _) (.int .i64 cy)) ((Below.refl _ _).alloc (Nat.le_refl _) (.cells #[.int .i64 base, .slice X wd x] 60))) ((Below.refl _ _).alloc (Nat.le_refl _) (.cells #[.int .i64 base, .slice A1 wd c1, .int .i64 base, .slice A2 wd c2, .int .i64 base, .slice X wd x, .int .i64 cy] 62))
              have gwf : w.grownBy (((((w3'.setCell ⟨wr.heap.size, 4, none⟩ (.int .i64 base)).setCell ⟨wr.heap.size, 5, none⟩ (.slice X wd x)).setCell ⟨wr.heap.size, 6, none⟩ (.int .i64 cy)).alloc (.cells #[.int .i64 base, .slice X wd x] 60)).alloc (.cells #[.int .i64 base, .slice A1 wd c1, .int .i64 base, .slice A2 wd c2, .int .i64 base, .slice X wd x, .int .i64 cy] 62)) (some b) := gBelow (gBelow (gSet (gSet (gSet (gBelow HG2'.out HW3.out) (p := ⟨wr.heap.size, 4, none⟩) hwz' (.int .i64 base)) (p := ⟨wr.heap.size, 5, none⟩) hwz' (.slice X wd x)) (p := ⟨wr.heap.size, 6, none⟩) hwz' (.int .i64 cy)) ((Below.refl _ _).alloc (Nat.le_refl _) (.cells #[.int .i64 base, .slice X wd x] 60))) ((Below.refl _ _).alloc (Nat.le_refl _) (.cells #[.int .i64 base, .slice A1 wd c1, .int .i64 base, .slice A2 wd c2, .int .i64 base, .slice X wd x, .int .i64 cy] 62))
              have k1 : OwnI (((((w3'.setCell ⟨wr.heap.size, 4, none⟩ (.int .i64 base)).setCell ⟨wr.heap.size, 5, none⟩ (.slice X wd x)).setCell ⟨wr.heap.size, 6, none⟩ (.int .i64 cy)).alloc (.cells #[.int .i64 base, .slice X wd x] 60)).alloc (.cells #[.int .i64 base, .slice A1 wd c1, .int .i64 base, .slice A2 wd c2, .int .i64 base, .slice X wd x, .int .i64 cy] 62)) wa.heap.size (.slice A1 wd c1) ds1 := (((((HO12.out.below HW3.out).setBelow (a := ⟨wr.heap.size, 4, none⟩) (by show wr.heap.size < wa.heap.size; omega) (.int .i64 base)).setBelow (a := ⟨wr.heap.size, 5, none⟩) (by show wr.heap.size < wa.heap.size; omega) (.slice X wd x)).setBelow (a := ⟨wr.heap.size, 6, none⟩) (by show wr.heap.size < wa.heap.size; omega) (.int .i64 cy)).below ((Below.refl _ _).alloc (Nat.le_refl _) (.cells #[.int .i64 base, .slice X wd x] 60))).below ((Below.refl _ _).alloc (Nat.le_refl _) (.cells #[.int .i64 base, .slice A1 wd c1, .int .i64 base, .slice A2 wd c2, .int .i64 base, .slice X wd x, .int .i64 cy] 62))
              have k2 : OwnI (((((w3'.setCell ⟨wr.heap.size, 4, none⟩ (.int .i64 base)).setCell ⟨wr.heap.size, 5, none⟩ (.slice X wd x)).setCell ⟨wr.heap.size, 6, none⟩ (.int .i64 cy)).alloc (.cells #[.int .i64 base, .slice X wd x] 60)).alloc (.cells #[.int .i64 base, .slice A1 wd c1, .int .i64 base, .slice A2 wd c2, .int .i64 base, .slice X wd x, .int .i64 cy] 62)) wb.heap.size (.slice A2 wd c2) ds2 := (((((HO2'.out.below HW3.out).setBelow (a := ⟨wr.heap.size, 4, none⟩) (by show wr.heap.size < wb.heap.size; omega) (.int .i64 base)).setBelow (a := ⟨wr.heap.size, 5, none⟩) (by show wr.heap.size < wb.heap.size; omega) (.slice X wd x)).setBelow (a := ⟨wr.heap.size, 6, none⟩) (by show wr.heap.size < wb.heap.size; omega) (.int .i64 cy)).below ((Below.refl _ _).alloc (Nat.le_refl _) (.cells #[.int .i64 base, .slice X wd x] 60))).below ((Below.refl _ _).alloc (Nat.le_refl _) (.cells #[.int .i64 base, .slice A1 wd c1, .int .i64 base, .slice A2 wd c2, .int .i64 base, .slice X wd x, .int .i64 cy] 62))
              have k3 : OwnI (((((w3'.setCell ⟨wr.heap.size, 4, none⟩ (.int .i64 base)).setCell ⟨wr.heap.size, 5, none⟩ (.slice X wd x)).setCell ⟨wr.heap.size, 6, none⟩ (.int .i64 cy)).alloc (.cells #[.int .i64 base, .slice X wd x] 60)).alloc (.cells #[.int .i64 base, .slice A1 wd c1, .int .i64 base, .slice A2 wd c2, .int .i64 base, .slice X wd x, .int .i64 cy] 62)) wc.heap.size (.slice X wd x) sd := ((((HOX.out.setBelow (a := ⟨wr.heap.size, 4, none⟩) hzr (.int .i64 base)).setBelow (a := ⟨wr.heap.size, 5, none⟩) hzr (.slice X wd x)).setBelow (a := ⟨wr.heap.size, 6, none⟩) hzr (.int .i64 cy)).below ((Below.refl _ _).alloc (Nat.le_refl _) (.cells #[.int .i64 base, .slice X wd x] 60))).below ((Below.refl _ _).alloc (Nat.le_refl _) (.cells #[.int .i64 base, .slice A1 wd c1, .int .i64 base, .slice A2 wd c2, .int .i64 base, .slice X wd x, .int .i64 cy] 62))
              have ks : Src (((((w3'.setCell ⟨wr.heap.size, 4, none⟩ (.int .i64 base)).setCell ⟨wr.heap.size, 5, none⟩ (.slice X wd x)).setCell ⟨wr.heap.size, 6, none⟩ (.int .i64 cy)).alloc (.cells #[.int .i64 base, .slice X wd x] 60)).alloc (.cells #[.int .i64 base, .slice A1 wd c1, .int .i64 base, .slice A2 wd c2, .int .i64 base, .slice X wd x, .int .i64 cy] 62)) b (N + wd * 4 + wd * 4) := (((((HS2'.out.below HW3.out).keep (w' := w3'.setCell ⟨wr.heap.size, 4, none⟩ (.int .i64 base)) (by simp [World.setCell]) (fun k hk => heap_setCell_other _ _ _ _ (by show k ≠ wr.heap.size; omega))).keep (w' := (w3'.setCell ⟨wr.heap.size, 4, none⟩ (.int .i64 base)).setCell ⟨wr.heap.size, 5, none⟩ (.slice X wd x)) (by simp [World.setCell]) (fun k hk => heap_setCell_other _ _ _ _ (by show k ≠ wr.heap.size; omega))).keep (w' := ((w3'.setCell ⟨wr.heap.size, 4, none⟩ (.int .i64 base)).setCell ⟨wr.heap.size, 5, none⟩ (.slice X wd x)).setCell ⟨wr.heap.size, 6, none⟩ (.int .i64 cy)) (by simp [World.setCell]) (fun k hk => heap_setCell_other _ _ _ _ (by show k ≠ wr.heap.size; omega))).below ((Below.refl _ _).alloc (Nat.le_refl _) (.cells #[.int .i64 base, .slice X wd x] 60))).below ((Below.refl _ _).alloc (Nat.le_refl _) (.cells #[.int .i64 base, .slice A1 wd c1, .int .i64 base, .slice A2 wd c2, .int .i64 base, .slice X wd x, .int .i64 cy] 62))
              have kz : (((w3'.setCell ⟨wr.heap.size, 4, none⟩ (.int .i64 base)).setCell ⟨wr.heap.size, 5, none⟩ (.slice X wd x)).setCell ⟨wr.heap.size, 6, none⟩ (.int .i64 cy)).heap.size = w3'.heap.size := by simp [World.setCell]
              have kbox : ((((((w3'.setCell ⟨wr.heap.size, 4, none⟩ (.int .i64 base)).setCell ⟨wr.heap.size, 5, none⟩ (.slice X wd x)).setCell ⟨wr.heap.size, 6, none⟩ (.int .i64 cy)).alloc (.cells #[.int .i64 base, .slice X wd x] 60)).alloc (.cells #[.int .i64 base, .slice A1 wd c1, .int .i64 base, .slice A2 wd c2, .int .i64 base, .slice X wd x, .int .i64 cy] 62))).heap[w3'.heap.size + 1]? = some (.cells #[.int .i64 base, .slice A1 wd c1, .int .i64 base, .slice A2 wd c2, .int .i64 base, .slice X wd x, .int .i64 cy] 62 (0, 0)) := by
                rw [show w3'.heap.size + 1 = ((((w3'.setCell ⟨wr.heap.size, 4, none⟩ (.int .i64 base)).setCell ⟨wr.heap.size, 5, none⟩ (.slice X wd x)).setCell ⟨wr.heap.size, 6, none⟩ (.int .i64 cy)).alloc (.cells #[.int .i64 base, .slice X wd x] 60)).heap.size by rw [← kz]; simp]
                exact heap_alloc_new _ _
              obtain ⟨xs, hO, hI⟩ := PL.grown HPL.out gr3 hbz
              obtain ⟨xs0, hO0, -⟩ := HPL.out
              have kown := own_lt hO0
              have kfs : OwnF (((((w3'.setCell ⟨wr.heap.size, 4, none⟩ (.int .i64 base)).setCell ⟨wr.heap.size, 5, none⟩ (.slice X wd x)).setCell ⟨wr.heap.size, 6, none⟩ (.int .i64 cy)).alloc (.cells #[.int .i64 base, .slice X wd x] 60)).alloc (.cells #[.int .i64 base, .slice A1 wd c1, .int .i64 base, .slice A2 wd c2, .int .i64 base, .slice X wd x, .int .i64 cy] 62)) w.heap.size (.slice A fs.length c) fs := row_kept HOF'.out (fun g hg => by
                obtain ⟨h1, h2⟩ := own_lt HOF'.out g hg
                exact gr3.block g h2 (fun e => by injection e with e; omega))
              have kWz : wr.heap.size ≤ ((((((w3'.setCell ⟨wr.heap.size, 4, none⟩ (.int .i64 base)).setCell ⟨wr.heap.size, 5, none⟩ (.slice X wd x)).setCell ⟨wr.heap.size, 6, none⟩ (.int .i64 cy)).alloc (.cells #[.int .i64 base, .slice X wd x] 60)).alloc (.cells #[.int .i64 base, .slice A1 wd c1, .int .i64 base, .slice A2 wd c2, .int .i64 base, .slice X wd x, .int .i64 cy] 62))).heap.size := gr3.size
              have KGWF := Lib.hid gwf
              have K1 := Lib.hid k1
              have K2 := Lib.hid k2
              have K3 := Lib.hid k3
              have KS := Lib.hid ks
              have KI := Lib.hid hI
              have KOWN := Lib.hid kown
              have KFS := Lib.hid kfs
              have KO := Lib.hid hO
              clear gr3 gwf k1 k2 k3 ks kz hI hO hO0 kown kfs
              go_wp2_with (at_builtin; refine appG tpT rfl _ _ rfl wz.heap.size _ ts.length xs rfl KO.out ⟨w3'.heap.size + 1, 0, none⟩ 1 1 [.int .i64 base, .slice A1 wd c1, .int .i64 base, .slice A2 wd c2, .int .i64 base, .slice X wd x, .int .i64 cy] rfl rfl (World.news_of_block kbox) (by simp [Value.oneCell']) (by omega) (by omega) (by omega) ?_; intro v5 w6 hown5 hg5 hv5)
              have hwaz2 := HZA.out
              have hps := pl_push (t := ⟨⟨base, ds1⟩, ⟨base, ds2⟩, ⟨base, sd⟩, cy⟩) (X1 := A1) (x1 := c1) (X2 := A2) (x2 := c2) (X3 := X) (x3 := x) KO.out KI.out
                (ownD_of (b0 := wa.heap.size) (by show OwnI _ _ (Value.slice A1 ds1.length c1) _; rw [HD1'.out.1]; exact K1.out) (by omega) (fun k hk => by have := (KOWN.out k hk).2; omega))
                (ownD_of (b0 := wb.heap.size) (by show OwnI _ _ (Value.slice A2 ds2.length c2) _; rw [HD2'.out.1]; exact K2.out) (by omega) (fun k hk => by have := (KOWN.out k hk).2; omega))
                (ownD_of (b0 := wc.heap.size) (by show OwnI _ _ (Value.slice X sd.length x) _; rw [HDS.out.1]; exact K3.out) (by omega) (fun k hk => by have := (KOWN.out k hk).2; omega))
                (by simp only [tcells, HD1'.out.1, HD2'.out.1, HDS.out.1]; exact hown5) hg5 hv5
              have HPS := Lib.hid hps
              have HGF' := Lib.hid (gMore KGWF.out hg5 (fun k hk => by have := (KOWN.out k hk).1; omega))
              have HSF := Lib.hid ((KS.out.keep hg5.size (fun k hk => hg5.block k (by omega) (fun e => by have := (KOWN.out k e.symm).1; omega))).mono HN2.out)
              have HFF := Lib.hid (show OwnF w6 w.heap.size (.slice A fs.length c) fs from row_kept KFS.out (fun g hg => hg5.block g (own_lt KFS.out g hg).2 (fun e => by have h1 := (KOWN.out g e.symm).1; have h2 := (HFzl.out g hg).2; omega)))
              have hz6 : wz.heap.size ≤ w6.heap.size := by have := hg5.size; omega
              clear hps hown5 hg5 hv5
              go_roundw
              case rel => exact ⟨mm - 1, _, by omega, by rw [List.length_append, List.length_cons, List.length_nil]; omega, by rw [List.length_append, List.length_cons, List.length_nil]; omega, rfl, HPS.out, hz6, (fun t ht => by
                rcases List.mem_append.1 ht with ht | ht
                · exact HTOK.out t ht
                · rw [List.mem_singleton.1 ht]; exact ⟨rfl, HD1'.out, rfl, HD2'.out, rfl, HDS.out, HCY.out.1, HCY.out.2⟩), HFF.out, HSF.out, HGF'.out⟩
              case measure => simp [intOf]; omega
            · have hlen : 1 ≤ ts.length ∧ ts.length ≤ 5 := by omega
              obtain ⟨AO, cO, rfl, -⟩ := HPL.out.rl
              go_wp2
              go_ret
              have hdr : Drawn wr w.heap.size (.slice AO ts.length cO) ts := by
                refine ⟨HPL.out.mono hzz, vtrials_of HTOK.out hb2 hb10 hwd1 hwd2 hlen.1 (by omega), fun t ht => ?_, ?_⟩
                · obtain ⟨-, ⟨p1, -⟩, -, ⟨p2, -⟩, -, ⟨p3, -⟩, -⟩ := HTOK.out t ht
                  unfold SmallTri SmallReg
                  omega
                · rw [wid_of (n := wd) (fun t ht => (HTOK.out t ht).2.1.1) (by omega)]
                  omega
              first
                | exact ⟨_, ts, rfl, hdr, HG'.out⟩
                | exact ⟨_, rfl, ⟨ts, hdr⟩, HG'.out⟩
end Go.Proofs.Ytmnegfhigfipbaa
