import Derived.Test.YtmnegfhigfipbaaG12
namespace Go.Proofs.Ytmnegfhigfipbaa
open Go.RowKit Go.Sort
theorem sets_share {wr w5 w6 : World} {B : Nat} {v v' u : Value} {L : List (List Flt)} {us : List Value} {fs : List Flt} (hS : wr.ownsRow B 33 1 v L.length us) (hl : us.length = L.length)
    (hI : ∀ (i : Nat) (h : i < L.length) (h' : i < us.length), Inner wr B v.ownBlock us[i] L[i]) (hb : Below wr.heap.size wr w5) (hin : Inner w5 B v.ownBlock u fs)
    (ho : w6.ownsRow B 33 1 v' (L.length + 1) (us ++ [u])) (hg : w5.grownBy w6 v.ownBlock)
    (hv : v'.ownBlock = v.ownBlock ∨ v'.ownBlock = some w5.heap.size) : Sets w6 B v' (L ++ [fs]) := by
  refine ⟨_, by simpa using ho, by simp [hl], fun i h h' => ?_⟩
  by_cases hi : i < L.length
  · rw [List.getElem_append_left (by omega), List.getElem_append_left hi]
    refine (hI i hi (by omega)).kept (Nat.le_trans hb.size hg.size) fun g _ hgl hne => ⟨?_, ?_⟩
    · rw [hg.block g (Nat.lt_of_lt_of_le hgl hb.size) hne, hb.block g hgl]
    · rcases hv with e | e
      · rw [e]; exact hne
      · rw [e]; intro e'; injection e' with e'; have := hb.size; omega
  · have : i = L.length := by simp at h; omega
    subst this
    rw [List.getElem_append_right (by omega), List.getElem_append_right (by omega)]
    simp only [hl, Nat.sub_self, List.getElem_cons_zero]
    refine hin.kept hg.size fun g _ hgl hne => ⟨hg.block g hgl hne, ?_⟩
    rcases hv with e | e
    · rw [e]; exact hne
    · rw [e]; intro e'; injection e' with e'; omega
theorem Inner.rl' {w : World} {base g n c : Nat} {row : Option Nat} {fs : List Flt} (h : Inner w base row (.slice (some ⟨g, 0, none⟩) n c) fs) : RL FltM 2 w (some ⟨g, 0, none⟩) fs.length fs := by
  obtain ⟨g', c', e, hr⟩ := h.rl
  injection e with e1 e2 e3
  rw [e1]; exact hr
theorem Sets.elem {w : World} {B n c : Nat} {A : Option Addr} {L : List (List Flt)} (h : Sets w B (.slice A n c) L) {k : Nat} (hk : k < L.length) :
    ∃ (aS : Addr) (gl cl : Nat), A = some aS ∧ B ≤ aS.block ∧ aS.block < w.heap.size ∧ w.cell? (aS.add k) = some (.slice (some ⟨gl, 0, none⟩) L[k].length cl) ∧ Inner w B (some aS.block) (.slice (some ⟨gl, 0, none⟩) L[k].length cl) L[k] := by
  obtain ⟨us, h1, h2, h3⟩ := h
  have hi := h3 k hk (by omega)
  have hr := hi.rl
  rcases h1.2 with ⟨-, hn⟩ | ⟨g, cap, cur, e, hb, hg, -⟩
  · omega
  · injection e with e1 e2 e3
    subst e1
    obtain ⟨gl, cl, hu, hrl⟩ := hr
    have hc := h1.cells (g := g) rfl k us[k] (by simp [List.getElem?_eq_getElem (show k < us.length by omega)])
    rw [hu] at hc hi
    exact ⟨⟨g, 0, none⟩, gl, cl, rfl, hb, (Array.getElem?_eq_some_iff.1 hg).1, hc, hi⟩
theorem Inner.base {w : World} {b b' : Nat} {row : Option Nat} {u : Value} {fs : List Flt} (h : Inner w b row u fs) (hb : b' ≤ b) : Inner w b' row u fs := by
  obtain ⟨g, c, e, h0, h1, h2, h3⟩ := h
  exact ⟨g, c, e, Nat.le_trans hb h0, h1, h2, row_mono h3 hb⟩
/-- the blocks from a on that the first world has are as they were -/
def Kept (a : Nat) (w w' : World) : Prop := w.heap.size ≤ w'.heap.size ∧ ∀ g, a ≤ g → g < w.heap.size → w'.heap[g]? = w.heap[g]?
theorem Kept.refl (a : Nat) (w : World) : Kept a w w := ⟨Nat.le_refl _, fun _ _ _ => rfl⟩
theorem Kept.below {a : Nat} {w w1 w2 : World} (h : Kept a w w1) (hb : Below w1.heap.size w1 w2) : Kept a w w2 :=
  ⟨Nat.le_trans h.1 hb.size, fun g h1 h2 => by rw [hb.block g (Nat.lt_of_lt_of_le h2 h.1)]; exact h.2 g h1 h2⟩
theorem Kept.grown {a : Nat} {w w1 w2 : World} {o : Option Nat} (h : Kept a w w1) (hg : w1.grownBy w2 o) (ho : ∀ g, o = some g → g < a ∨ w.heap.size ≤ g) : Kept a w w2 :=
  ⟨Nat.le_trans h.1 hg.size, fun g h1 h2 => by
    rw [hg.block g (Nat.lt_of_lt_of_le h2 h.1) (fun e => by have := ho g e.symm; omega)]; exact h.2 g h1 h2⟩
theorem found_length (p : List Flt → Bool) {n0 m k : Nat} (hn : n0 ≤ 6) (hm : m ≤ 2) : ((fsets n0 m).take k |>.filter p).length ≤ 1000 := by
  have h1 := List.length_filter_le p ((fsets n0 m).take k)
  have h2 : ((fsets n0 m).take k).length ≤ (fsets n0 m).length := by simp; omega
  have h3 : (fsets n0 m).length ≤ 324 := by
    rcases Nat.lt_or_ge m 2 with h | h
    · exact Nat.le_trans (fsets_small hn (by omega)) (by omega)
    · obtain rfl : m = 2 := by omega
      have h4 := fsets_len n0 1
      have h5 := fsets_small hn (Nat.le_refl 1)
      have h6 : 3 * n0 * (fsets n0 1).length ≤ 18 * 18 := Nat.mul_le_mul (by omega) h5
      exact Nat.le_trans h4 h6
  omega
set_option maxRecDepth 100000 in
set_option maxHeartbeats 3200000 in
theorem explanations_any (A : Option Addr) (n c : Nat) (ts : List Tri) (n0 m : Nat) (w : World) (hr : RL TriM 7 w A n ts) (ht : ∀ t ∈ ts, TOK t ∧ t.a.digits.length = n0) (h1 : 1 ≤ n0) (h6 : n0 ≤ 6) (hm : m ≤ 2) (hn0 : 0 < n) (hn : n ≤ 1000000) :
    Calls Try.prog 36 #[.slice A n c, .int .i64 m] w fun e w' => ∃ v, e = .returned v ∧ Sets w' w.heap.size v (found ts n0 m) ∧ Below w.heap.size w w' := by
  have HL := Lib.hid hr.1
  have HT := Lib.hid ht; clear ht
  obtain ⟨ad, hA, hlt, hk0, ht0⟩ := hr.at_ hn0
  rw [Nat.zero_mul, addr_add_zero] at ht0
  obtain ⟨A1, c1, A2, c2, A3, c3, ⟨g1, g2, g3, g4, g5, g6, g7⟩, r1, r2, r3⟩ := ht0.cells
  have TN := Lib.hid (HT.out ts[0] (List.getElem_mem _)).2
  have hi2 : (0 : Int) < (n : Int) := by omega
  have hb0 : Below w.heap.size w (w.alloc (.cells #[] 33)) := (Below.refl _ _).alloc (Nat.le_refl _) _
  subst hA
  have KW := Lib.hid (fun W => width_any ts[0].a.base A1 ts[0].a.digits.length c1 W)
  clear ht0 r1 r2 r3
  go_enter Try.func36, Try.ntmps36
  go_wp2_with (go_at_call 57; refine (KW.out _).mono ?_; rintro e w1 ⟨rfl, hw1⟩; rw [TN.out])
  refine (faultLists_any n0 m w1 h6 hm).mono ?_; rintro e w2 ⟨v, rfl, hS, hw2⟩
  have hNw1 : w.heap.size + 1 ≤ w1.heap.size := by have := hw1.size; simpa using this
  have hb2 : Below w.heap.size w w2 := (hb0.trans (hw1.mono (by simp))).trans (hw2.mono (by omega))
  have hz2 := hw2.size
  have hgN : w2.heap[w.heap.size]? = some (.cells #[] 33 (0, 0)) := by
    rw [hw2.block _ (by omega), hw1.block _ (by simp)]; exact heap_alloc_new _ _
  obtain ⟨AS, cS, rfl, -⟩ := hS.reads
  have HS := Lib.hid hS; clear hS
  have hfl : (fsets n0 m).length ≤ 1000 := by have h := found_length (fun _ => true) (m := m) (k := (fsets n0 m).length) h6 hm; rw [List.take_length, List.filter_eq_self.2 (fun _ _ => rfl)] at h; exact h
  go_wp2
  go_loopw [17, 5] (fun i v wr => ∃ k : Nat, k ≤ (fsets n0 m).length ∧ i = .int .i64 k ∧ Sets wr w.heap.size v (((fsets n0 m).take k).filter (vexpl ts)) ∧ Below w.heap.size w wr ∧ Kept (w.heap.size + 1) w2 wr ∧ ∀ g, v.ownBlock = some g → g < w.heap.size + 1 ∨ w2.heap.size ≤ g) (fun i _ _ => (fsets n0 m).length - (intOf i).toNat)
  case atStart => exact ⟨0, Nat.zero_le _, rfl, by simpa using sets_nil hgN (Nat.le_refl _), hb2, Kept.refl _ _, fun g hg => by simp [Value.ownBlock] at hg; omega⟩
  case round =>
    obtain ⟨k, hk, rfl, hS, hbr, hkp, hov⟩ := hrel
    by_cases hkn : k < (fsets n0 m).length
    · have hi0 : (0 : Int) ≤ (k : Int) := by omega
      have hi1 : (k : Int) < ((fsets n0 m).length : Int) := by omega
      obtain ⟨aS, gl, cl, rfl, hbS, hgS, hcell, hin⟩ := (HS.out.mono hNw1).elem hkn
      have hcell : wr.cell? (aS.add k) = some (.slice (some ⟨gl, 0, none⟩) (fsets n0 m)[k].length cl) := by
        rw [World.cell?_of_block (w := w2) (by rw [block_of_add]; exact hkp.2 _ hbS hgS)]; exact hcell
      have hgS : aS.block < wr.heap.size := Nat.lt_of_lt_of_le hgS hkp.1
      have hrl := (hin.kept (row' := none) hkp.1 (fun g h1 h2 _ => ⟨hkp.2 g h1 h2, by simp⟩)).rl'
      obtain ⟨ok1, ok2, ok3⟩ := fsets_ok n0 m _ (List.getElem_mem hkn)
      have HT2 := Lib.hid (take_filter_succ (p := vexpl ts) hkn)
      have hlen := found_length (vexpl ts) (k := k) h6 hm
      obtain ⟨l, hl⟩ : ∃ l, l = (fsets n0 m)[k] := ⟨_, rfl⟩
      rw [← hl] at hcell hrl hin ok1 ok2 ok3 HT2
      clear hl
      have KE := Lib.hid (explain_any (some ad) n c ts (some ⟨gl, 0, none⟩) l.length cl l n0 wr (hr.below steady_TriM hbr) HT.out hrl ok1 ok2 h1 hn0 hn (by omega))
      have HCELL := Lib.hid hcell
      have HIN := Lib.hid hin
      have HOV := Lib.hid hov
      have HOK := Lib.hid ok3
      clear hin hov hrl ok1 ok2 ok3
      obtain ⟨P, hP⟩ : ∃ P, P = ((fsets n0 m).take k).filter (vexpl ts) := ⟨_, rfl⟩
      rw [← hP] at hS HT2 hlen
      clear hP
      obtain ⟨us, hO, hlu, hI⟩ := hS
      have HI := Lib.hid hI; clear hI
      have HLU := Lib.hid hlu; clear hlu
      have HBR := Lib.hid hbr
      have HKP := Lib.hid hkp
      clear hkp
      rcases hv : vexpl ts l with _ | _
      · have HV := Lib.hid hv; clear hv
        go_wp2_with (go_at_call 44; refine (calls_val KE.out (congrArg Value.bool HV.out)).mono ?_; rintro e w3 ⟨rfl, hw3⟩)
        go_roundw
        case rel => exact ⟨k + 1, by omega, by go_num, by rw [HT2.out, HV.out]; simpa using (Sets.below ⟨us, hO, HLU.out, HI.out⟩ hw3), HBR.out.trans (hw3.mono HBR.out.size), HKP.out.below hw3, HOV.out⟩
        case measure => simp [intOf]; omega
      · have HV := Lib.hid hv; clear hv
        have hwz := hbr.size
        go_wp2_with (first
          | (go_at_call 44; refine (calls_val KE.out (congrArg Value.bool HV.out)).mono ?_; rintro e w3 ⟨rfl, hw3⟩; have hz3 := hw3.size; have hcw3 : w3.cell? (aS.add k) = some (.slice (some ⟨gl, 0, none⟩) l.length cl) := (by rw [hw3.cell (by rw [block_of_add]; exact hgS)]; exact HCELL.out); have hb5 := hw3.alloc hw3.size (.cells #[.slice (some ⟨gl, 0, none⟩) l.length cl] 33))
          | (at_builtin; refine appG tpFF rfl _ _ rfl w.heap.size _ P.length us rfl (ownsRow_below hO hb5) ⟨w3.heap.size, 0, none⟩ 1 1 [.slice (some ⟨gl, 0, none⟩) l.length cl] rfl rfl (World.news_of_block (heap_alloc_new _ _)) (by simp [Value.oneCell']) (by omega) (by omega) (by simp; omega) ?_; intro v5 w6 hown5 hg5 hv5))
        have hin5 : ∀ r : Option Nat, (∀ g, r = some g → g < w.heap.size + 1 ∨ w2.heap.size ≤ g) → Inner (w3.alloc (.cells #[.slice (some ⟨gl, 0, none⟩) l.length cl] 33)) w.heap.size r (.slice (some ⟨gl, 0, none⟩) l.length cl) l := fun r hr =>
          (HIN.out.kept (row' := r) (HKP.out.below hb5).1 (fun g h1 h2 _ => ⟨(HKP.out.below hb5).2 g h1 h2, fun e => by have := hr g e.symm; omega⟩)).base (by omega)
        have hps := sets_share hO HLU.out HI.out hb5 (hin5 _ HOV.out) hown5 hg5 hv5
        have hbf := (HBR.out.trans (hb5.mono hwz)).grown hg5 (by simp; omega) (fun k hk => (own_lt hO k hk).1)
        have hkf := (HKP.out.below hb5).grown hg5 HOV.out
        have hz5 := hb5.size
        have hov5 : ∀ g, v5.ownBlock = some g → g < w.heap.size + 1 ∨ w2.heap.size ≤ g := by
          intro g hg
          rcases hv5 with e | e
          · exact HOV.out g (e ▸ hg)
          · rw [e] at hg
            injection hg with hg
            have := HKP.out.1
            omega
        have HPS := Lib.hid hps; clear hps
        have HBF := Lib.hid hbf; clear hbf
        have HKF := Lib.hid hkf; clear hkf
        have HV5 := Lib.hid hov5; clear hov5
        go_roundw
        case rel => exact ⟨k + 1, by omega, by go_num, by rw [HT2.out, HV.out]; exact HPS.out, HBF.out, HKF.out, HV5.out⟩
        case measure => simp [intOf]; omega
    · have HK : Hid (k = (fsets n0 m).length) := by simp only [Hid]; omega
      have HSF : Hid (((fsets n0 m).take k).filter (vexpl ts) = found ts n0 m) := by simp only [Hid]; rw [HK.out, List.take_length]; rfl
      go_wp2
      go_ret
      exact ⟨_, rfl, by rw [← HSF.out]; exact hS, hbr⟩
set_option maxRecDepth 100000 in
set_option maxHeartbeats 3200000 in
theorem l20Found_any (A : Option Addr) (n c : Nat) (ts : List Tri) (n0 m : Nat) (w : World) (hr : RL TriM 7 w A n ts) (ht : ∀ t ∈ ts, TOK t ∧ t.a.digits.length = n0) (h1 : 1 ≤ n0) (h6 : n0 ≤ 6) (hm : m ≤ 2) (hn0 : 0 < n) (hn : n ≤ 1000000) :
    Calls Try.prog 33 #[.slice A n c, .int .i64 m] w fun e w' => ∃ v, e = .returned v ∧ Sets w' w.heap.size v (found ts n0 m) ∧ Below w.heap.size w w' := by
  have HL := Lib.hid hr.1
  have HT := Lib.hid ht; clear ht
  obtain ⟨ad, hA, hlt, hk0, ht0⟩ := hr.at_ hn0
  rw [Nat.zero_mul, addr_add_zero] at ht0
  obtain ⟨A1, c1, A2, c2, A3, c3, ⟨g1, g2, g3, g4, g5, g6, g7⟩, r1, r2, r3⟩ := ht0.cells
  have TN := Lib.hid (HT.out ts[0] (List.getElem_mem _)).2
  have hi2 : (0 : Int) < (n : Int) := by omega
  have hb0 : Below w.heap.size w (w.alloc (.cells #[] 33)) := (Below.refl _ _).alloc (Nat.le_refl _) _
  subst hA
  clear ht0 r1 r2 r3
  go_enter Try.func33, Try.ntmps33
  go_wp2_with fail
  rw [TN.out]
  refine (l20Sets_any n0 m _ h6 hm).mono ?_; rintro e w2 ⟨v, rfl, hS, hw2⟩
  have hNw1 : w.heap.size + 1 ≤ (w.alloc (.cells #[] 33)).heap.size := by simp
  have hb2 : Below w.heap.size w w2 := hb0.trans (hw2.mono (by simp))
  have hz2 : w.heap.size + 1 ≤ w2.heap.size := by have := hw2.size; simpa using this
  have hgN : w2.heap[w.heap.size]? = some (.cells #[] 33 (0, 0)) := by
    rw [hw2.block _ (by simp)]; exact heap_alloc_new _ _
  obtain ⟨AS, cS, rfl, -⟩ := hS.reads
  have HS := Lib.hid hS; clear hS
  have hfl : (fsets n0 m).length ≤ 1000 := by have h := found_length (fun _ => true) (m := m) (k := (fsets n0 m).length) h6 hm; rw [List.take_length, List.filter_eq_self.2 (fun _ _ => rfl)] at h; exact h
  go_wp2
  go_loopw [7, 5] (fun i v wr => ∃ k : Nat, k ≤ (fsets n0 m).length ∧ i = .int .i64 k ∧ Sets wr w.heap.size v (((fsets n0 m).take k).filter (vexpl ts)) ∧ Below w.heap.size w wr ∧ Kept (w.heap.size + 1) w2 wr ∧ ∀ g, v.ownBlock = some g → g < w.heap.size + 1 ∨ w2.heap.size ≤ g) (fun i _ _ => (fsets n0 m).length - (intOf i).toNat)
  case atStart => exact ⟨0, Nat.zero_le _, rfl, by simpa using sets_nil hgN (Nat.le_refl _), hb2, Kept.refl _ _, fun g hg => by simp [Value.ownBlock] at hg; omega⟩
  case round =>
    obtain ⟨k, hk, rfl, hS, hbr, hkp, hov⟩ := hrel
    by_cases hkn : k < (fsets n0 m).length
    · have hi0 : (0 : Int) ≤ (k : Int) := by omega
      have hi1 : (k : Int) < ((fsets n0 m).length : Int) := by omega
      obtain ⟨aS, gl, cl, rfl, hbS, hgS, hcell, hin⟩ := (HS.out.mono hNw1).elem hkn
      have hcell : wr.cell? (aS.add k) = some (.slice (some ⟨gl, 0, none⟩) (fsets n0 m)[k].length cl) := by
        rw [World.cell?_of_block (w := w2) (by rw [block_of_add]; exact hkp.2 _ hbS hgS)]; exact hcell
      have hgS : aS.block < wr.heap.size := Nat.lt_of_lt_of_le hgS hkp.1
      have hrl := (hin.kept (row' := none) hkp.1 (fun g h1 h2 _ => ⟨hkp.2 g h1 h2, by simp⟩)).rl'
      obtain ⟨ok1, ok2, ok3⟩ := fsets_ok n0 m _ (List.getElem_mem hkn)
      have HT2 := Lib.hid (take_filter_succ (p := vexpl ts) hkn)
      have hlen := found_length (vexpl ts) (k := k) h6 hm
      obtain ⟨l, hl⟩ : ∃ l, l = (fsets n0 m)[k] := ⟨_, rfl⟩
      rw [← hl] at hcell hrl hin ok1 ok2 ok3 HT2
      clear hl
      have KE := Lib.hid (l20All_any (some ad) n c ts (some ⟨gl, 0, none⟩) l.length cl l n0 wr (hr.below steady_TriM hbr) HT.out hrl ok1 hn (by omega))
      have HCELL := Lib.hid hcell
      have HIN := Lib.hid hin
      have HOV := Lib.hid hov
      have HOK := Lib.hid ok3
      clear hin hov hrl ok1 ok2 ok3
      obtain ⟨P, hP⟩ : ∃ P, P = ((fsets n0 m).take k).filter (vexpl ts) := ⟨_, rfl⟩
      rw [← hP] at hS HT2 hlen
      clear hP
      obtain ⟨us, hO, hlu, hI⟩ := hS
      have HI := Lib.hid hI; clear hI
      have HLU := Lib.hid hlu; clear hlu
      have HBR := Lib.hid hbr
      have HKP := Lib.hid hkp
      clear hkp
      rcases hv : vexpl ts l with _ | _
      · have HV := Lib.hid hv; clear hv
        go_wp2_with (go_at_call 42; refine (calls_val KE.out (congrArg Value.bool HV.out)).mono ?_; rintro e w3 ⟨rfl, hw3⟩)
        go_roundw
        case rel => exact ⟨k + 1, by omega, by go_num, by rw [HT2.out, HV.out]; simpa using (Sets.below ⟨us, hO, HLU.out, HI.out⟩ hw3), HBR.out.trans (hw3.mono HBR.out.size), HKP.out.below hw3, HOV.out⟩
        case measure => simp [intOf]; omega
      · have HV := Lib.hid hv; clear hv
        have hwz := hbr.size
        go_wp2_with (first
          | (go_at_call 42; refine (calls_val KE.out (congrArg Value.bool HV.out)).mono ?_; rintro e w3 ⟨rfl, hw3⟩; have hz3 := hw3.size; have hcw3 : w3.cell? (aS.add k) = some (.slice (some ⟨gl, 0, none⟩) l.length cl) := (by rw [hw3.cell (by rw [block_of_add]; exact hgS)]; exact HCELL.out); have hb5 := hw3.alloc hw3.size (.cells #[.slice (some ⟨gl, 0, none⟩) l.length cl] 33))
          | (at_builtin; refine appG tpFF rfl _ _ rfl w.heap.size _ P.length us rfl (ownsRow_below hO hb5) ⟨w3.heap.size, 0, none⟩ 1 1 [.slice (some ⟨gl, 0, none⟩) l.length cl] rfl rfl (World.news_of_block (heap_alloc_new _ _)) (by simp [Value.oneCell']) (by omega) (by omega) (by simp; omega) ?_; intro v5 w6 hown5 hg5 hv5))
        have hin5 : ∀ r : Option Nat, (∀ g, r = some g → g < w.heap.size + 1 ∨ w2.heap.size ≤ g) → Inner (w3.alloc (.cells #[.slice (some ⟨gl, 0, none⟩) l.length cl] 33)) w.heap.size r (.slice (some ⟨gl, 0, none⟩) l.length cl) l := fun r hr =>
          (HIN.out.kept (row' := r) (HKP.out.below hb5).1 (fun g h1 h2 _ => ⟨(HKP.out.below hb5).2 g h1 h2, fun e => by have := hr g e.symm; omega⟩)).base (by omega)
        have hps := sets_share hO HLU.out HI.out hb5 (hin5 _ HOV.out) hown5 hg5 hv5
        have hbf := (HBR.out.trans (hb5.mono hwz)).grown hg5 (by simp; omega) (fun k hk => (own_lt hO k hk).1)
        have hkf := (HKP.out.below hb5).grown hg5 HOV.out
        have hz5 := hb5.size
        have hov5 : ∀ g, v5.ownBlock = some g → g < w.heap.size + 1 ∨ w2.heap.size ≤ g := by
          intro g hg
          rcases hv5 with e | e
          · exact HOV.out g (e ▸ hg)
          · rw [e] at hg
            injection hg with hg
            have := HKP.out.1
            omega
        have HPS := Lib.hid hps; clear hps
        have HBF := Lib.hid hbf; clear hbf
        have HKF := Lib.hid hkf; clear hkf
        have HV5 := Lib.hid hov5; clear hov5
        go_roundw
        case rel => exact ⟨k + 1, by omega, by go_num, by rw [HT2.out, HV.out]; exact HPS.out, HBF.out, HKF.out, HV5.out⟩
        case measure => simp [intOf]; omega
    · have HK : Hid (k = (fsets n0 m).length) := by simp only [Hid]; omega
      have HSF : Hid (((fsets n0 m).take k).filter (vexpl ts) = found ts n0 m) := by simp only [Hid]; rw [HK.out, List.take_length]; rfl
      go_wp2
      go_ret
      exact ⟨_, rfl, by rw [← HSF.out]; exact hS, hbr⟩
end Go.Proofs.Ytmnegfhigfipbaa
