import Derived.Test.YtmnegfhigfipbaaG16
namespace Go.Proofs.Ytmnegfhigfipbaa
open Go.RowKit Go.Sort
/-- six counters at block T -/
def Arr (w : World) (T : Nat) (cs : Nat → Nat) : Prop := ∀ l, l < 6 → w.cell? ⟨T, l, none⟩ = some (.int .i64 (cs l : Int)) ∧ w.frozen? ⟨T, l, none⟩ = false
theorem Arr.below {w w' : World} {T : Nat} {cs : Nat → Nat} (h : Arr w T cs) (hb : Below w.heap.size w w') (hT : T < w.heap.size) : Arr w' T cs := fun l hl => by
  obtain ⟨h1, h2⟩ := h l hl
  exact ⟨by rw [hb.cell (by exact hT)]; exact h1, by rw [hb.frozen (by exact hT)]; exact h2⟩
theorem Arr.bump {w : World} {T : Nat} {cs cs' : Nat → Nat} (h : Arr w T cs) {lv : Nat} (hl : lv < 6) (u : Int) (hu : u = (cs' lv : Int)) (ho : ∀ l, l ≠ lv → cs' l = cs l) : Arr (w.setCell ⟨T, lv, none⟩ (.int .i64 u)) T cs' := by
  intro l hl6
  obtain ⟨h1, h2⟩ := h l hl6
  obtain ⟨k1, k2⟩ := h lv hl
  by_cases e : l = lv
  · subst e
    exact ⟨by rw [World.cell?_setCell_same _ _ _ h1, hu], by go_simp⟩
  · refine ⟨?_, by go_simp⟩
    rw [ho l e, ← h1]
    refine World.cell?_setCell_other _ _ _ _ (fun e' => e ?_)
    injection e' with _ e' _
    exact e'.symm
theorem cnt_step (fs : List Flt) (f : Flt) (lv : Nat) (h : f.lever = (lv : Int)) : cntL (fs ++ [f]) lv = cntL fs lv + 1 ∧ ∀ l, l ≠ lv → cntL (fs ++ [f]) l = cntL fs l := by
  unfold cntL
  refine ⟨by rw [List.countP_append]; simp [h], fun l hl => ?_⟩
  rw [List.countP_append]
  have : ¬ ((lv : Int) = (l : Int)) := by omega
  simp [h, this]
theorem flat_take_succ (L : List (List Flt)) {i : Nat} (h : i < L.length) : (L.take (i + 1)).flatten = (L.take i).flatten ++ L[i] := by
  rw [List.take_succ_eq_append_getElem h, List.flatten_append]; simp
theorem run_ix6 (c0 c1 c2 c3 c4 c5 : Int) (l : Nat) (hl : l < 6) (w : World) : (Instr.index 70 (.agg #[.int .i64 c0, .int .i64 c1, .int .i64 c2, .int .i64 c3, .int .i64 c4, .int .i64 c5]) (.int .i64 (l : Int))).run Try.prog w = .ok (.int .i64 ([c0, c1, c2, c3, c4, c5].getD l 0)) w := by
  have : l = 0 ∨ l = 1 ∨ l = 2 ∨ l = 3 ∨ l = 4 ∨ l = 5 := by omega
  rcases this with rfl | rfl | rfl | rfl | rfl | rfl
  all_goals
    simp [Instr.index, run_underlying Try.underlying70, asIntOf, go_sem]
theorem flat_len2 (L : List (List Flt)) (h : ∀ own ∈ L, own.length ≤ 2) : L.flatten.length ≤ 2 * L.length := by
  induction L with
  | nil => simp
  | cons o L ih =>
    have h1 := h o (List.mem_cons_self ..)
    have h2 := ih (fun x hx => h x (List.mem_cons_of_mem _ hx))
    rw [List.flatten_cons, List.length_append, List.length_cons]
    omega
set_option maxRecDepth 100000 in
set_option maxHeartbeats 3200000 in
theorem impl_SuspectLevers (A : Option Addr) (n c : Nat) (ts : List Tri) (f : Int) (w : World) (hr : RL TriM 7 w A n ts) (hs : ∀ t ∈ ts, SmallTri t) (hm : n ≤ 1048576) :
    Calls Try.prog 18 #[.slice A n c, .int .i64 f] w fun e w' => ∃ v, e = .returned (.tuple #[v, .int .i64 (scode ts f)]) ∧ OwnI w' w.heap.size v (slist ts f) ∧ Below w.heap.size w w' := by
  have KC := Lib.hid (blameCode_below A n c ts f w hr hs hm)
  by_cases h0 : bcode ts f = 0
  · obtain ⟨hT, w1', w6, f0, f2, n1, n2⟩ := bcode_zero h0 hs
    have HL := Lib.hid hr.1
    obtain ⟨fn, rfl⟩ : ∃ fn : Nat, f = fn := ⟨f.toNat, by omega⟩
    have KE := Lib.hid (fun W (hW : Below w.heap.size w W) => explanations_any A n c ts (wid ts) fn W (hr.below steady_TriM hW) hT w1' w6 (by omega) (by have := HL.out; omega) (by have := HL.out; omega))
    have HS1 := Lib.hid (show scode ts fn = if found ts (wid ts) fn = [] then 3 else 0 by unfold scode; rw [if_pos h0]; rfl)
    have HS2 := Lib.hid (show slist ts fn = if found ts (wid ts) fn = [] then [] else sus (found ts (wid ts) fn) 6 by
      unfold slist; rw [if_pos h0]; simp only [Int.toNat_natCast]
      by_cases he : found ts (wid ts) fn = []
      · rw [if_pos he, if_pos he]
      · rw [if_neg he, if_neg he, sus_up (by omega) w6 he])
    have HFL : (found ts (wid ts) fn).length ≤ 1000 := by have h := found_length (vexpl ts) (k := (fsets (wid ts) fn).length) w6 (show fn ≤ 2 by omega); rw [List.take_length] at h; exact h
    have HOK := Lib.hid (fun own (h : own ∈ found ts (wid ts) fn) => found_ok h (show fn ≤ 2 by omega))
    have HS := Lib.hid hs; clear hs
    have HT := Lib.hid hT; clear hT
    have H0 := Lib.hid h0; clear h0
    obtain ⟨L, hL⟩ : ∃ L, L = found ts (wid ts) fn := ⟨_, rfl⟩
    rw [← hL] at HS1 HS2 HFL HOK KE
    clear hL
    go_enter Try.func18, Try.ntmps18
    go_wp2_with (go_at_call 35; refine KC.out.mono ?_; rintro e w1 ⟨rfl, hw1⟩; rw [H0.out])
    refine (KE.out w1 hw1).mono ?_; rintro e w2 ⟨v, rfl, hS, hw2⟩
    obtain ⟨AS, cS, rfl, -⟩ := hS.reads
    have hb2 := hw1.trans (hw2.mono hw1.size)
    have hz1 := hw1.size
    have hz2 := hw2.size
    rcases Nat.eq_zero_or_pos L.length with hz | hz
    · have HN := Lib.hid (List.eq_nil_of_length_eq_zero hz)
      have hz' : ((L.length : Int) == 0) = true := by simp [hz]
      have HSS := Lib.hid hS; clear hS
      have HZ := Lib.hid hz; clear hz
      go_wp2
      refine bodyPost_ret (v := .tuple #[.slice none 0 0, .int .i64 3]) (by simp [results, Try.results18, go_sem]) rfl ⟨_, by rw [HS1.out, if_pos HN.out], ?_, hb2⟩
      rw [HS2.out, if_pos HN.out]
      exact OwnI.nil _ _
    · have HNE : Hid (L ≠ []) := by simp only [Hid]; rintro rfl; simp at hz
      have hz' : ((L.length : Int) == 0) = false := by rw [beq_eq_false_iff_ne]; omega
      have hz3 : ¬ (L.length : Int) = 0 := by omega
      obtain ⟨aS, rfl, hbS, hgS, hel⟩ := hS.at_ hz
      have HEL := Lib.hid hel
      clear hel hS
      have hb2z := hb2.size
      go_wp2_with fail
      go_loopw [31] (fun ii wr => ∃ i : Nat, i ≤ L.length ∧ ii = .int .i64 i ∧ Arr wr w2.heap.size (cntL (L.take i).flatten) ∧ Below w2.heap.size w2 wr ∧ w2.heap.size < wr.heap.size) (fun ii _ => L.length - (intOf ii).toNat)
      case atStart =>
        refine ⟨0, Nat.zero_le _, rfl, fun l hl => ?_, ?_, ?_⟩
        · rw [show (cntL (List.take 0 L).flatten l : Int) = 0 by simp [cntL]]
          have : l = 0 ∨ l = 1 ∨ l = 2 ∨ l = 3 ∨ l = 4 ∨ l = 5 := by omega
          rcases this with rfl | rfl | rfl | rfl | rfl | rfl
          all_goals exact ⟨by go_simp, by go_simp⟩
        · exact (Below.refl _ _).alloc (Nat.le_refl _) _
        · simp
      case round =>
        obtain ⟨i, hi, rfl, har, hbr, hzr⟩ := hrel
        have HAR := Lib.hid har
        have HBR := Lib.hid hbr
        clear har hbr
        by_cases hin : i < L.length
        · have hi2 : (i : Int) < (L.length : Int) := by omega
          have hi3 : (0 : Int) ≤ (i : Int) := by omega
          obtain ⟨gl, cl, hcell, hrl⟩ := HEL.out i hin
          have hcell2 : wr.cell? (aS.add i) = some (.slice (some ⟨gl, 0, none⟩) L[i].length cl) := by rw [HBR.out.cell (by rw [block_of_add]; exact hgS)]; exact hcell
          have HRL := Lib.hid hrl
          have HFL2 := Lib.hid (flat_take_succ L hin)
          obtain ⟨hog, -, hol⟩ := HOK.out _ (List.getElem_mem hin)
          obtain ⟨own, ho⟩ : ∃ own, own = L[i] := ⟨_, rfl⟩
          rw [← ho] at hcell2 HRL HFL2 hol hog
          clear hcell hrl ho
          have HOG := Lib.hid hog; clear hog
          have hpl := flat_len2 (L.take i) (fun x hx => (HOK.out x (List.mem_of_mem_take hx)).2.2)
          have htl : (L.take i).length ≤ L.length := by simp; omega
          obtain ⟨pre, hpre⟩ : ∃ pre, pre = (L.take i).flatten := ⟨_, rfl⟩
          rw [← hpre] at HAR HFL2 hpl
          clear hpre
          go_wp2_with fail
          go_loopw [37] (fun jj W => ∃ j : Nat, j ≤ own.length ∧ jj = .int .i64 j ∧ Arr W w2.heap.size (cntL (pre ++ own.take j)) ∧ Below w2.heap.size w2 W ∧ w2.heap.size < W.heap.size) (fun jj _ => own.length - (intOf jj).toNat)
          case atStart => exact ⟨0, Nat.zero_le _, rfl, by simpa using HAR.out, HBR.out, hzr⟩
          case round =>
            obtain ⟨j, hj, rfl, har2, hbr2, hzr2⟩ := hrel
            have HAR2 := Lib.hid har2
            have HBR2 := Lib.hid hbr2
            clear har2 hbr2
            by_cases hjn : j < own.length
            · have hj2 : (j : Int) < (own.length : Int) := by omega
              have hj3 : (0 : Int) ≤ (j : Int) := by omega
              obtain ⟨hjl, hgl, q1, q2⟩ := lever_at (HRL.out.below steady_FltM HBR2.out) hjn
              obtain ⟨-, -, v1, v2⟩ := HOG.out _ (List.getElem_mem hjl)
              obtain ⟨lv, hlv⟩ : ∃ lv : Nat, own[j].lever = lv := ⟨own[j].lever.toNat, by omega⟩
              have HTK := Lib.hid (List.take_succ_eq_append_getElem hjl)
              obtain ⟨cs1, cs2⟩ := cnt_step (pre ++ own.take j) own[j] lv hlv
              rw [hlv] at q2 v2
              have hlv6 : lv < 6 := by omega
              clear v1 v2
              obtain ⟨a1, a2⟩ := HAR2.out lv hlv6
              have HAF := Lib.hid ((HAR2.out.bump hlv6 ((cntL (pre ++ own.take j) lv : Int) + 1) (by rw [cs1]; simp) cs2).below ((Below.refl _ _).alloc (Nat.le_refl _) (.cells #[.int .i64 own[j].kind, .int .i64 (lv : Int)] 41)) (by simp [World.setCell]; omega))
              have HBF := Lib.hid ((HBR2.out.setCell (p := ⟨w2.heap.size, lv, none⟩) (Nat.le_refl _) (.int .i64 ((cntL (pre ++ own.take j) lv : Int) + 1))).alloc (by simp [World.setCell]; omega) (.cells #[.int .i64 own[j].kind, .int .i64 (lv : Int)] 41))
              have hl6 : (lv : Int) < 6 := by omega
              have hcb : cntL (pre ++ own.take j) lv ≤ 100000 := by
                have h1 : cntL (pre ++ own.take j) lv ≤ (pre ++ own.take j).length := List.countP_le_length
                rw [List.length_append, List.length_take] at h1
                omega
              clear hlv cs1 cs2
              go_wp2
              go_roundw
              case rel => exact ⟨j + 1, by omega, by go_num, by rw [HTK.out, ← List.append_assoc]; exact HAF.out, HBF.out, by simp [World.setCell]; omega⟩
              case measure => simp [intOf]; omega
            · have HJ : Hid (own.take j = own) := List.take_of_length_le (by omega)
              go_wp2
              go_roundw
              case rel => exact ⟨i + 1, by omega, by go_num, by rw [HFL2.out, ← HJ.out]; exact HAR2.out, HBR2.out, hzr2⟩
              case measure => simp [intOf]; omega
        · have HI : Hid (L.take i = L) := List.take_of_length_le (by omega)
          have har := HAR.out
          rw [HI.out] at har
          obtain ⟨a0, -⟩ := har 0 (by omega)
          obtain ⟨a1, -⟩ := har 1 (by omega)
          obtain ⟨a2, -⟩ := har 2 (by omega)
          obtain ⟨a3, -⟩ := har 3 (by omega)
          obtain ⟨a4, -⟩ := har 4 (by omega)
          obtain ⟨a5, -⟩ := har 5 (by omega)
          have HCA := Lib.hid (fun l => cnt_all L l (fun own h => (HOK.out own h).2))
          obtain ⟨cs, hcs⟩ : ∃ cs : Nat → Nat, cs = cntL L.flatten := ⟨_, rfl⟩
          have HCB := Lib.hid (fun l => cnt_le L l (fun own h => (HOK.out own h).2))
          rw [← hcs] at a0 a1 a2 a3 a4 a5 HCA HCB
          clear hcs har
          have hbw := hb2.trans (HBR.out.mono hb2z)
          have HBW := Lib.hid hbw; clear hbw
          have hrz := HBR.out.size
          go_wp2_with fail
          obtain ⟨wo, rfl⟩ : ∃ wo : World, wo = wr := ⟨_, rfl⟩
          go_loopw [51, 13] (fun kk out W => ∃ l : Nat, l ≤ 6 ∧ kk = .int .i64 l ∧ OwnI W wo.heap.size out (sus L l) ∧ Below wo.heap.size wo W) (fun kk _ _ => 6 - (intOf kk).toNat)
          case atStart => exact ⟨0, Nat.zero_le _, rfl, own_lit (n := 0) (heap_alloc_new _ _) (Nat.le_refl _) rfl (by decide), (Below.refl _ _).alloc (Nat.le_refl _) _⟩
          case round =>
            obtain ⟨l, hl, rfl, hown, hbl⟩ := hrel
            have HOWN := Lib.hid hown
            have HBL := Lib.hid hbl
            have hlz := hbl.size
            clear hown hbl a0 a1 a2 a3 a4 a5
            by_cases hl6 : l < 6
            · have HSS := Lib.hid (sus_succ L l)
              have HCL := Lib.hid (HCA.out l)
              have hcb := HCB.out l
              have hsl := sus_len L l
              have H6 : l = 0 ∨ l = 1 ∨ l = 2 ∨ l = 3 ∨ l = 4 ∨ l = 5 := by omega
              clear hsl
              rcases H6 with rfl | rfl | rfl | rfl | rfl | rfl
              · obtain ⟨ck, hck⟩ : ∃ ck : Int, ck = (cs 0 : Int) := ⟨_, rfl⟩
                have hix : ∀ W, (Instr.index 70 (.agg #[.int .i64 (cs 0), .int .i64 (cs 1), .int .i64 (cs 2), .int .i64 (cs 3), .int .i64 (cs 4), .int .i64 (cs 5)]) (.int .i64 0)).run Try.prog W = .ok (.int .i64 ck) W := fun W => by rw [hck]; exact run_ix6 _ _ _ _ _ _ 0 (by omega) W
                have HCK := Lib.hid hck; clear hck
                by_cases hc : cs 0 = L.length
                · have HT1 : Hid (L.all (fun own => hasL own 0) = true) := HCL.out.1 hc
                  have he2 : ck = (L.length : Int) := by have := HCK.out; omega
                  have he : (ck == (L.length : Int)) = true := by rw [he2]; simp
                  have HC := Lib.hid hc; clear hc
                  have HOB := Lib.hid (HOWN.out.below ((Below.refl _ _).alloc (Nat.le_refl _) (.cells #[.int .i64 (0 : Int)] 2)))
                  have hbb := HBL.out.alloc hlz (.cells #[.int .i64 (0 : Int)] 2)
                  go_wp2_with (at_builtin; refine app1I rfl _ _ rfl wo.heap.size _ (sus L 0) rfl HOB.out wr.heap.size (0 : Int) rfl (heap_alloc_new _ _) (by have := sus_len L 0; omega) (by simp; omega) ?_; intro v5 w6 hown5 hg5 hv5)
                  have hbf := hbb.grown hg5 (by simp; omega) (fun k hk => (own_lt HOB.out k hk).1)
                  have HOF := Lib.hid hown5; clear hown5
                  have HBF := Lib.hid hbf; clear hbf
                  go_roundw
                  case rel => exact ⟨0 + 1, by omega, rfl, by rw [HSS.out, HT1.out]; exact HOF.out, HBF.out⟩
                  case measure => simp [intOf]
                · have HT1 : Hid (L.all (fun own => hasL own 0) = false) := by
                    simp only [Hid]
                    rcases h : L.all (fun own => hasL own 0) with _ | _
                    · rfl
                    · exact absurd (HCL.out.2 h) hc
                  have he2 : ¬ ck = (L.length : Int) := by have := HCK.out; omega
                  have he : (ck == (L.length : Int)) = false := by rw [beq_eq_false_iff_ne]; exact he2
                  go_wp2
                  go_roundw
                  case rel => exact ⟨0 + 1, by omega, rfl, by rw [HSS.out, HT1.out]; simpa using HOWN.out, HBL.out⟩
                  case measure => simp [intOf]
              · obtain ⟨ck, hck⟩ : ∃ ck : Int, ck = (cs 1 : Int) := ⟨_, rfl⟩
                have hix : ∀ W, (Instr.index 70 (.agg #[.int .i64 (cs 0), .int .i64 (cs 1), .int .i64 (cs 2), .int .i64 (cs 3), .int .i64 (cs 4), .int .i64 (cs 5)]) (.int .i64 1)).run Try.prog W = .ok (.int .i64 ck) W := fun W => by rw [hck]; exact run_ix6 _ _ _ _ _ _ 1 (by omega) W
                have HCK := Lib.hid hck; clear hck
                by_cases hc : cs 1 = L.length
                · have HT1 : Hid (L.all (fun own => hasL own 1) = true) := HCL.out.1 hc
                  have he2 : ck = (L.length : Int) := by have := HCK.out; omega
                  have he : (ck == (L.length : Int)) = true := by rw [he2]; simp
                  have HC := Lib.hid hc; clear hc
                  have HOB := Lib.hid (HOWN.out.below ((Below.refl _ _).alloc (Nat.le_refl _) (.cells #[.int .i64 (1 : Int)] 2)))
                  have hbb := HBL.out.alloc hlz (.cells #[.int .i64 (1 : Int)] 2)
                  go_wp2_with (at_builtin; refine app1I rfl _ _ rfl wo.heap.size _ (sus L 1) rfl HOB.out wr.heap.size (1 : Int) rfl (heap_alloc_new _ _) (by have := sus_len L 1; omega) (by simp; omega) ?_; intro v5 w6 hown5 hg5 hv5)
                  have hbf := hbb.grown hg5 (by simp; omega) (fun k hk => (own_lt HOB.out k hk).1)
                  have HOF := Lib.hid hown5; clear hown5
                  have HBF := Lib.hid hbf; clear hbf
                  go_roundw
                  case rel => exact ⟨1 + 1, by omega, rfl, by rw [HSS.out, HT1.out]; exact HOF.out, HBF.out⟩
                  case measure => simp [intOf]
                · have HT1 : Hid (L.all (fun own => hasL own 1) = false) := by
                    simp only [Hid]
                    rcases h : L.all (fun own => hasL own 1) with _ | _
                    · rfl
                    · exact absurd (HCL.out.2 h) hc
                  have he2 : ¬ ck = (L.length : Int) := by have := HCK.out; omega
                  have he : (ck == (L.length : Int)) = false := by rw [beq_eq_false_iff_ne]; exact he2
                  go_wp2
                  go_roundw
                  case rel => exact ⟨1 + 1, by omega, rfl, by rw [HSS.out, HT1.out]; simpa using HOWN.out, HBL.out⟩
                  case measure => simp [intOf]
              · obtain ⟨ck, hck⟩ : ∃ ck : Int, ck = (cs 2 : Int) := ⟨_, rfl⟩
                have hix : ∀ W, (Instr.index 70 (.agg #[.int .i64 (cs 0), .int .i64 (cs 1), .int .i64 (cs 2), .int .i64 (cs 3), .int .i64 (cs 4), .int .i64 (cs 5)]) (.int .i64 2)).run Try.prog W = .ok (.int .i64 ck) W := fun W => by rw [hck]; exact run_ix6 _ _ _ _ _ _ 2 (by omega) W
                have HCK := Lib.hid hck; clear hck
                by_cases hc : cs 2 = L.length
                · have HT1 : Hid (L.all (fun own => hasL own 2) = true) := HCL.out.1 hc
                  have he2 : ck = (L.length : Int) := by have := HCK.out; omega
                  have he : (ck == (L.length : Int)) = true := by rw [he2]; simp
                  have HC := Lib.hid hc; clear hc
                  have HOB := Lib.hid (HOWN.out.below ((Below.refl _ _).alloc (Nat.le_refl _) (.cells #[.int .i64 (2 : Int)] 2)))
                  have hbb := HBL.out.alloc hlz (.cells #[.int .i64 (2 : Int)] 2)
                  go_wp2_with (at_builtin; refine app1I rfl _ _ rfl wo.heap.size _ (sus L 2) rfl HOB.out wr.heap.size (2 : Int) rfl (heap_alloc_new _ _) (by have := sus_len L 2; omega) (by simp; omega) ?_; intro v5 w6 hown5 hg5 hv5)
                  have hbf := hbb.grown hg5 (by simp; omega) (fun k hk => (own_lt HOB.out k hk).1)
                  have HOF := Lib.hid hown5; clear hown5
                  have HBF := Lib.hid hbf; clear hbf
                  go_roundw
                  case rel => exact ⟨2 + 1, by omega, rfl, by rw [HSS.out, HT1.out]; exact HOF.out, HBF.out⟩
                  case measure => simp [intOf]
                · have HT1 : Hid (L.all (fun own => hasL own 2) = false) := by
                    simp only [Hid]
                    rcases h : L.all (fun own => hasL own 2) with _ | _
                    · rfl
                    · exact absurd (HCL.out.2 h) hc
                  have he2 : ¬ ck = (L.length : Int) := by have := HCK.out; omega
                  have he : (ck == (L.length : Int)) = false := by rw [beq_eq_false_iff_ne]; exact he2
                  go_wp2
                  go_roundw
                  case rel => exact ⟨2 + 1, by omega, rfl, by rw [HSS.out, HT1.out]; simpa using HOWN.out, HBL.out⟩
                  case measure => simp [intOf]
              · obtain ⟨ck, hck⟩ : ∃ ck : Int, ck = (cs 3 : Int) := ⟨_, rfl⟩
                have hix : ∀ W, (Instr.index 70 (.agg #[.int .i64 (cs 0), .int .i64 (cs 1), .int .i64 (cs 2), .int .i64 (cs 3), .int .i64 (cs 4), .int .i64 (cs 5)]) (.int .i64 3)).run Try.prog W = .ok (.int .i64 ck) W := fun W => by rw [hck]; exact run_ix6 _ _ _ _ _ _ 3 (by omega) W
                have HCK := Lib.hid hck; clear hck
                by_cases hc : cs 3 = L.length
                · have HT1 : Hid (L.all (fun own => hasL own 3) = true) := HCL.out.1 hc
                  have he2 : ck = (L.length : Int) := by have := HCK.out; omega
                  have he : (ck == (L.length : Int)) = true := by rw [he2]; simp
                  have HC := Lib.hid hc; clear hc
                  have HOB := Lib.hid (HOWN.out.below ((Below.refl _ _).alloc (Nat.le_refl _) (.cells #[.int .i64 (3 : Int)] 2)))
                  have hbb := HBL.out.alloc hlz (.cells #[.int .i64 (3 : Int)] 2)
                  go_wp2_with (at_builtin; refine app1I rfl _ _ rfl wo.heap.size _ (sus L 3) rfl HOB.out wr.heap.size (3 : Int) rfl (heap_alloc_new _ _) (by have := sus_len L 3; omega) (by simp; omega) ?_; intro v5 w6 hown5 hg5 hv5)
                  have hbf := hbb.grown hg5 (by simp; omega) (fun k hk => (own_lt HOB.out k hk).1)
                  have HOF := Lib.hid hown5; clear hown5
                  have HBF := Lib.hid hbf; clear hbf
                  go_roundw
                  case rel => exact ⟨3 + 1, by omega, rfl, by rw [HSS.out, HT1.out]; exact HOF.out, HBF.out⟩
                  case measure => simp [intOf]
                · have HT1 : Hid (L.all (fun own => hasL own 3) = false) := by
                    simp only [Hid]
                    rcases h : L.all (fun own => hasL own 3) with _ | _
                    · rfl
                    · exact absurd (HCL.out.2 h) hc
                  have he2 : ¬ ck = (L.length : Int) := by have := HCK.out; omega
                  have he : (ck == (L.length : Int)) = false := by rw [beq_eq_false_iff_ne]; exact he2
                  go_wp2
                  go_roundw
                  case rel => exact ⟨3 + 1, by omega, rfl, by rw [HSS.out, HT1.out]; simpa using HOWN.out, HBL.out⟩
                  case measure => simp [intOf]
              · obtain ⟨ck, hck⟩ : ∃ ck : Int, ck = (cs 4 : Int) := ⟨_, rfl⟩
                have hix : ∀ W, (Instr.index 70 (.agg #[.int .i64 (cs 0), .int .i64 (cs 1), .int .i64 (cs 2), .int .i64 (cs 3), .int .i64 (cs 4), .int .i64 (cs 5)]) (.int .i64 4)).run Try.prog W = .ok (.int .i64 ck) W := fun W => by rw [hck]; exact run_ix6 _ _ _ _ _ _ 4 (by omega) W
                have HCK := Lib.hid hck; clear hck
                by_cases hc : cs 4 = L.length
                · have HT1 : Hid (L.all (fun own => hasL own 4) = true) := HCL.out.1 hc
                  have he2 : ck = (L.length : Int) := by have := HCK.out; omega
                  have he : (ck == (L.length : Int)) = true := by rw [he2]; simp
                  have HC := Lib.hid hc; clear hc
                  have HOB := Lib.hid (HOWN.out.below ((Below.refl _ _).alloc (Nat.le_refl _) (.cells #[.int .i64 (4 : Int)] 2)))
                  have hbb := HBL.out.alloc hlz (.cells #[.int .i64 (4 : Int)] 2)
                  go_wp2_with (at_builtin; refine app1I rfl _ _ rfl wo.heap.size _ (sus L 4) rfl HOB.out wr.heap.size (4 : Int) rfl (heap_alloc_new _ _) (by have := sus_len L 4; omega) (by simp; omega) ?_; intro v5 w6 hown5 hg5 hv5)
                  have hbf := hbb.grown hg5 (by simp; omega) (fun k hk => (own_lt HOB.out k hk).1)
                  have HOF := Lib.hid hown5; clear hown5
                  have HBF := Lib.hid hbf; clear hbf
                  go_roundw
                  case rel => exact ⟨4 + 1, by omega, rfl, by rw [HSS.out, HT1.out]; exact HOF.out, HBF.out⟩
                  case measure => simp [intOf]
                · have HT1 : Hid (L.all (fun own => hasL own 4) = false) := by
                    simp only [Hid]
                    rcases h : L.all (fun own => hasL own 4) with _ | _
                    · rfl
                    · exact absurd (HCL.out.2 h) hc
                  have he2 : ¬ ck = (L.length : Int) := by have := HCK.out; omega
                  have he : (ck == (L.length : Int)) = false := by rw [beq_eq_false_iff_ne]; exact he2
                  go_wp2
                  go_roundw
                  case rel => exact ⟨4 + 1, by omega, rfl, by rw [HSS.out, HT1.out]; simpa using HOWN.out, HBL.out⟩
                  case measure => simp [intOf]
              · obtain ⟨ck, hck⟩ : ∃ ck : Int, ck = (cs 5 : Int) := ⟨_, rfl⟩
                have hix : ∀ W, (Instr.index 70 (.agg #[.int .i64 (cs 0), .int .i64 (cs 1), .int .i64 (cs 2), .int .i64 (cs 3), .int .i64 (cs 4), .int .i64 (cs 5)]) (.int .i64 5)).run Try.prog W = .ok (.int .i64 ck) W := fun W => by rw [hck]; exact run_ix6 _ _ _ _ _ _ 5 (by omega) W
                have HCK := Lib.hid hck; clear hck
                by_cases hc : cs 5 = L.length
                · have HT1 : Hid (L.all (fun own => hasL own 5) = true) := HCL.out.1 hc
                  have he2 : ck = (L.length : Int) := by have := HCK.out; omega
                  have he : (ck == (L.length : Int)) = true := by rw [he2]; simp
                  have HC := Lib.hid hc; clear hc
                  have HOB := Lib.hid (HOWN.out.below ((Below.refl _ _).alloc (Nat.le_refl _) (.cells #[.int .i64 (5 : Int)] 2)))
                  have hbb := HBL.out.alloc hlz (.cells #[.int .i64 (5 : Int)] 2)
                  go_wp2_with (at_builtin; refine app1I rfl _ _ rfl wo.heap.size _ (sus L 5) rfl HOB.out wr.heap.size (5 : Int) rfl (heap_alloc_new _ _) (by have := sus_len L 5; omega) (by simp; omega) ?_; intro v5 w6 hown5 hg5 hv5)
                  have hbf := hbb.grown hg5 (by simp; omega) (fun k hk => (own_lt HOB.out k hk).1)
                  have HOF := Lib.hid hown5; clear hown5
                  have HBF := Lib.hid hbf; clear hbf
                  go_roundw
                  case rel => exact ⟨5 + 1, by omega, rfl, by rw [HSS.out, HT1.out]; exact HOF.out, HBF.out⟩
                  case measure => simp [intOf]
                · have HT1 : Hid (L.all (fun own => hasL own 5) = false) := by
                    simp only [Hid]
                    rcases h : L.all (fun own => hasL own 5) with _ | _
                    · rfl
                    · exact absurd (HCL.out.2 h) hc
                  have he2 : ¬ ck = (L.length : Int) := by have := HCK.out; omega
                  have he : (ck == (L.length : Int)) = false := by rw [beq_eq_false_iff_ne]; exact he2
                  go_wp2
                  go_roundw
                  case rel => exact ⟨5 + 1, by omega, rfl, by rw [HSS.out, HT1.out]; simpa using HOWN.out, HBL.out⟩
                  case measure => simp [intOf]
            · have HK : Hid (l = 6) := by simp only [Hid]; omega
              have HOF : Hid (∀ u v ds, OwnI wr wo.heap.size (.slice u v ds) (sus L l) → OwnI wr w.heap.size (.slice u v ds) (slist ts fn)) := by
                intro u v ds h
                rw [HS2.out, if_neg HNE.out, ← HK.out]
                exact h.mono (by omega)
              have HBZ := Lib.hid (HBW.out.trans (HBL.out.mono HBW.out.size))
              obtain ⟨AO, cO, rfl, -⟩ := HOWN.out.reads
              go_wp2
              refine bodyPost_ret (v := .tuple #[.slice AO (sus L l).length cO, .int .i64 0]) (by simp [results, Try.results18, go_sem]) rfl ⟨_, by rw [HS1.out, if_neg HNE.out], HOF.out _ _ _ HOWN.out, HBZ.out⟩
  · have HF1 := Lib.hid (show scode ts f = bcode ts f by unfold scode; rw [if_neg h0])
    have HF2 := Lib.hid (show slist ts f = [] by unfold slist; rw [if_neg h0])
    have hne : (bcode ts f != 0) = true := by simpa using h0
    have H0 := Lib.hid h0; clear h0
    go_enter Try.func18, Try.ntmps18
    go_wp2_with (go_at_call 35; refine KC.out.mono ?_; rintro e w1 ⟨rfl, hw1⟩)
    refine bodyPost_ret (v := .tuple #[.slice none 0 0, .int .i64 (bcode ts f)]) (by simp [results, Try.results18, go_sem]) rfl ⟨_, by rw [HF1.out], by rw [HF2.out]; exact OwnI.nil _ _, hw1⟩
end Go.Proofs.Ytmnegfhigfipbaa
