import Derived.Test.YtmnegfhigfipbaaG10
namespace Go.Proofs.Ytmnegfhigfipbaa
open Go.RowKit Go.Sort
set_option maxRecDepth 100000 in
set_option maxHeartbeats 3200000 in
theorem l20Sets_any (n m : Nat) (w : World) (hn : n ≤ 6) (hm : m ≤ 2) :
    Calls Try.prog 55 #[.int .i64 n, .int .i64 m] w fun e w' => ∃ v, e = .returned v ∧ Sets w' w.heap.size v (fsets n m) ∧ Below w.heap.size w w' := by
  go_enter Try.func55, Try.ntmps55
  go_wp2_with fail
  go_loopw [1, 5] (fun i v wr => ∃ k j0 : Nat, k + j0 = m ∧ i = .int .i64 j0 ∧ Sets wr w.heap.size v (fsets n k) ∧ Below w.heap.size w wr) (fun i _ _ => (intOf i).toNat)
  case atStart => exact ⟨0, m, by omega, rfl, sets_zero w, ((Below.refl _ _).alloc (Nat.le_refl _) _).alloc (by simp) _⟩
  case round =>
    obtain ⟨k, j0, hk, rfl, hS, hbr⟩ := hrel
    by_cases hkm : 0 < j0
    · have hi1 : (0 : Int) < (j0 : Int) := by omega
      have hsl : (fsets n k).length ≤ 18 := fsets_small hn (by omega)
      obtain ⟨A, c, rfl, hel⟩ := hS.reads
      have HEL := Lib.hid hel
      have HS := Lib.hid hS
      have HB := Lib.hid hbr
      clear hel hS hbr
      obtain ⟨w0, rfl⟩ : ∃ w0 : World, w0 = wr := ⟨_, rfl⟩
      go_wp2_with fail
      go_loopw [7, 6] (fun i v2 wr => ∃ j : Nat, j ≤ (fsets n k).length ∧ i = .int .i64 j ∧ Sets wr w0.heap.size v2 (((fsets n k).take j).flatMap (grownL n)) ∧ Below w0.heap.size w0 wr) (fun i _ _ => (fsets n k).length - (intOf i).toNat)
      case atStart => exact ⟨0, Nat.zero_le _, rfl, sets_nil (heap_alloc_new _ _) (Nat.le_refl _), (Below.refl _ _).alloc (Nat.le_refl _) _⟩
      case round =>
        obtain ⟨j, hj, rfl, hS2, hb2⟩ := hrel
        by_cases hjk : j < (fsets n k).length
        · obtain ⟨ad, hA, hlt, gl, cl, hcell, hrl⟩ := HEL.out j hjk
          obtain ⟨ok1, ok2, ok3⟩ := fsets_ok n k _ (List.getElem_mem hjk)
          have HT := Lib.hid (show ((fsets n k).take (j + 1)).flatMap (grownL n) = ((fsets n k).take j).flatMap (grownL n) ++ grownL n (fsets n k)[j] by rw [List.take_succ_eq_append_getElem hjk, List.flatMap_append]; simp)
          obtain ⟨l, hl⟩ : ∃ l, l = (fsets n k)[j] := ⟨_, rfl⟩
          rw [← hl] at hcell hrl ok1 ok2 ok3 HT
          clear hl
          have HCELL := Lib.hid hcell
          rw [← hb2.cell (by rw [block_of_add]; exact hlt)] at hcell
          have hrl2 := hrl.below steady_FltM hb2
          have hi2 : (j : Int) < ((fsets n k).length : Int) := by omega
          have hi0 : (0 : Int) ≤ (j : Int) := by omega
          have HN : Hid (l.length = k) := ok3
          subst hA
          have HRL := Lib.hid hrl
          clear hrl ok3
          have HS2 := Lib.hid hS2
          have HB2 := Lib.hid hb2
          have HG := Lib.hid ok1
          have HH := Lib.hid HEL
          clear hS2 hb2 ok1 ok2
          obtain ⟨w1, rfl⟩ : ∃ w1 : World, w1 = wr := ⟨_, rfl⟩
          obtain ⟨P, hP⟩ : ∃ P, P = ((fsets n k).take j).flatMap (grownL n) := ⟨_, rfl⟩
          rw [← hP] at HS2 HT
          have hPl : P.length ≤ 18 * (fsets n k).length := by
            rw [hP]
            have h1 := flat_len n ((fsets n k).take j)
            have h2 : ((fsets n k).take j).length ≤ (fsets n k).length := by simp; omega
            have h3 : 3 * n * ((fsets n k).take j).length ≤ 18 * ((fsets n k).take j).length := Nat.mul_le_mul_right _ (by omega)
            omega
          clear hP
          rcases Nat.eq_zero_or_pos l.length with h0 | h0
          · have HZ := Lib.hid h0; clear h0
            have hd : l = [] := List.eq_nil_of_length_eq_zero HZ.out
            have HGR : Hid (grownL n l = (List.range' 0 (n - 0)).flatMap (grown3 l)) := by simp only [Hid]; rw [hd]; rfl
            have HD0 := Lib.hid hd; clear hd
            have hd0 : decide ((0 : Int) < (l.length : Int)) = false := by rw [HZ.out]; rfl
            have hd1 : decide (0 < l.length) = false := by rw [HZ.out]; rfl
            have hz2 : ¬ (0 : Int) < (l.length : Int) := by rw [HZ.out]; simp
            go_wp2_with fail
            go_loopw [9, 6] (fun lv v3 wr => ∃ q : Nat, 0 + q ≤ n ∧ lv = .int .i64 ((0 + q : Nat) : Int) ∧ Sets wr w0.heap.size v3 (P ++ (List.range' 0 q).flatMap (grown3 l)) ∧ Below w0.heap.size w0 wr) (fun lv _ _ => n - (intOf lv).toNat)
            case atStart => exact ⟨0, by omega, by simp, by simpa using HS2.out, HB2.out⟩
            case round =>
              obtain ⟨q, hq, rfl, hS3, hb3⟩ := hrel
              by_cases hqn : 0 + q < n
              · have hi3 : ((0 + q : Nat) : Int) < (n : Int) := by omega
                have HS3 := Lib.hid hS3
                have HB3 := Lib.hid hb3
                clear hS3 hb3
                obtain ⟨w3, rfl⟩ : ∃ w3 : World, w3 = wr := ⟨_, rfl⟩
                obtain ⟨LV, hLV⟩ : ∃ LV : Nat, LV = 0 + q := ⟨_, rfl⟩
                rw [← hLV] at hi3
                rw [← hLV]
                have HLV := Lib.hid hLV; clear hLV
                go_wp2_with fail
                go_loopw [10, 6] (fun kd v4 wr => ∃ r : Nat, r ≤ 3 ∧ kd = .int .i64 ((r : Int) + 1) ∧ Sets wr w0.heap.size v4 ((P ++ (List.range' 0 q).flatMap (grown3 l)) ++ (grown3 l LV).take r) ∧ Below w0.heap.size w0 wr) (fun kd _ _ => 4 - (intOf kd).toNat)
                case atStart => exact ⟨0, by omega, rfl, by simpa using HS3.out, HB3.out⟩
                case round =>
                  obtain ⟨r, hr, rfl, hS4, hb4⟩ := hrel
                  by_cases hr3 : r < 3
                  · have hi4 : (r : Int) + 1 ≤ 3 := by omega
                    obtain ⟨L4, hL4e⟩ : ∃ L4, L4 = ((P ++ (List.range' 0 q).flatMap (grown3 l)) ++ (grown3 l LV).take r) := ⟨_, rfl⟩
                    rw [← hL4e] at hS4
                    obtain ⟨us, hO4, hl4, hI4⟩ := hS4
                    have HI4 := Lib.hid hI4; clear hI4
                    have HL4 := Lib.hid hl4; clear hl4
                    have hwz : w0.heap.size ≤ wr.heap.size := hb4.size
                    have hba : Below wr.heap.size wr (wr.alloc (.cells #[] 41)) := (Below.refl _ _).alloc (Nat.le_refl _) _
                    have hcA : (wr.alloc (.cells #[] 41)).cell? (ad.add j) = some (.slice (some ⟨gl, 0, none⟩) l.length cl) := by rw [hba.cell (by rw [block_of_add]; exact Nat.lt_of_lt_of_le hlt hwz), hb4.cell (by rw [block_of_add]; exact hlt)]; exact HCELL.out
                    have hrw := (HRL.out.below steady_FltM hb4).below steady_FltM hba
                    have hll : l.length ≤ 2 := by have := HN.out; omega
                    have hL4 : ((P ++ (List.range' 0 q).flatMap (grown3 l)) ++ (grown3 l LV).take r).length ≤ 1000 := by
                      rw [List.length_append, List.length_append, flat3_len, List.length_range', List.length_take]
                      have : (grown3 l LV).length = 3 := rfl
                      have := HLV.out
                      omega
                    rw [← hL4e] at hL4
                    have HB4 := Lib.hid hb4; clear hb4
                    have HE4 := Lib.hid hL4e
                    go_wp2_with (first
                      | (at_builtin; refine appG tpF rfl _ _ rfl wr.heap.size (.slice (some ⟨wr.heap.size, 0, none⟩) 0 0) 0 [] rfl (own_lit (n := 0) (heap_alloc_new _ _) (Nat.le_refl _) rfl (by decide)) ⟨gl, 0, none⟩ l.length cl (fcells l) rfl (fcells_len l) (rl_fcells hrw) (fcells_one l) (by omega) (by omega) (by simp) ?_; intro v1 w2 hown1 hg1 hv1; rw [Nat.zero_add, List.nil_append] at hown1; have hbw2 : Below wr.heap.size wr w2 := hba.grown hg1 (by simp) (fun k hk => by simp [Value.ownBlock] at hk; omega); have hz2 := hbw2.size)
                      | (at_builtin; refine appG tpF rfl _ _ rfl wr.heap.size v1 l.length (fcells l) rfl (hown1.alloc _) ⟨w2.heap.size, 0, none⟩ 1 1 [.int .i64 ((r : Int) + 1), .int .i64 (LV : Int)] rfl rfl (World.news_of_block (heap_alloc_new _ _)) (by simp [Value.oneCell']) (by omega) (by omega) (by simp; omega) ?_; intro v2 w4 hown2 hg2 hv2; obtain ⟨g2, c2, rfl, hg2a, hg2b⟩ := hown2.form (by omega); have hbw4 : Below wr.heap.size wr w4 := (hbw2.alloc hz2 _).grown hg2 (by simp; omega) (fun k hk => (own_lt hown1 k hk).1); have hz4 := hbw4.size; have hbw5 := hbw4.alloc hz4 (.cells #[.slice (some ⟨g2, 0, none⟩) (l.length + 1) c2] 33))
                      | (at_builtin; refine appG tpFF rfl _ _ rfl w0.heap.size _ L4.length us rfl (ownsRow_below hO4 hbw5) ⟨w4.heap.size, 0, none⟩ 1 1 [.slice (some ⟨g2, 0, none⟩) (l.length + 1) c2] rfl rfl (World.news_of_block (heap_alloc_new _ _)) (by simp [Value.oneCell']) (by omega) (by omega) (by simp; omega) ?_; intro v5 w6 hown5 hg5 hv5))
                    have hps := sets_push (fs := l ++ [⟨(r : Int) + 1, (LV : Int)⟩]) hO4 HL4.out HI4.out hbw5 hwz hg2a (by simp; omega) (by
                      rw [fcells_app, show (l ++ [(⟨(r : Int) + 1, (LV : Int)⟩ : Flt)]).length = l.length + 1 by simp]
                      exact row_mono (hown2.alloc _) hwz) (by rw [show (l ++ [(⟨(r : Int) + 1, (LV : Int)⟩ : Flt)]).length = l.length + 1 by simp]; exact hown5) hg5 hv5
                    have hbf := ((HB4.out).trans (hbw5.mono hwz)).grown hg5 (by simp; omega) (fun k hk => (own_lt hO4 k hk).1)
                    have HPS := Lib.hid hps; clear hps
                    have HBF := Lib.hid hbf; clear hbf
                    go_roundw
                    case rel => exact ⟨r + 1, by omega, by congr 1, by rw [grown3_take hr3, ← List.append_assoc, ← HE4.out]; exact HPS.out, HBF.out⟩
                    case measure => simp [intOf]; omega
                  · have hr3' : r = 3 := by omega
                    have HR := Lib.hid hr3'; clear hr3'
                    have hi5 : (3 : Int) < (r : Int) + 1 := by omega
                    have HS4 := Lib.hid hS4
                    have HB4 := Lib.hid hb4
                    clear hS4 hb4
                    go_wp2
                    go_roundw
                    case rel => exact ⟨q + 1, by omega, by have := HLV.out; congr 1; omega, by rw [List.range'_concat, List.flatMap_append]; have h := HS4.out; rw [HR.out, HLV.out] at h; simpa [grown3] using h, HB4.out⟩
                    case measure => simp [intOf]; omega
              · have hqe : 0 + q = n := by omega
                have HQ := Lib.hid hqe; clear hqe
                have HS3 := Lib.hid hS3
                have HB3 := Lib.hid hb3
                clear hS3 hb3
                go_wp2
                go_roundw
                case rel => exact ⟨j + 1, by omega, by go_num, by rw [HT.out, HGR.out]; have h := HS3.out; rw [show q = n - 0 by have := HQ.out; omega] at h; exact h, HB3.out⟩
                case measure => simp [intOf]; omega
          · obtain ⟨ad2, e2, _, hk2, f1, f2⟩ := hrl2.at_ (show l.length - 1 < l.length by omega)
            injection e2 with e2; subst e2
            rw [add_zero_block] at f1 f2
            have g4 := HG.out (l[l.length - 1]'hk2) (List.getElem_mem _)
            obtain ⟨fr0, hfr⟩ : ∃ fr0 : Nat, (l[l.length - 1]'hk2).lever = fr0 := ⟨(l[l.length - 1]'hk2).lever.toNat, by omega⟩
            have HNX : nextL l = fr0 + 1 := by rw [nextL_last h0, hfr]; simp
            have HGR : Hid (grownL n l = (List.range' (fr0 + 1) (n - (fr0 + 1))).flatMap (grown3 l)) := by simp only [Hid, grownL, HNX]
            have hfrn : fr0 < n := by omega
            rw [hfr] at f2
            clear HNX hfr g4 f1
            have hd0 : (0 : Int) < (l.length : Int) := by omega
            have hll2 : l.length ≤ 2 := by have := HN.out; omega
            go_wp2_with fail
            go_quiet (fail)
            have HB2 := Lib.hid (below_drewN HB2.out nq)
            have HS2 := Lib.hid (HS2.out.below (w' := w1.drewN nq) (below_drewN (Below.refl _ _) nq))
            go_wp2_with fail
            go_loopw [9, 6] (fun lv v3 wr => ∃ q : Nat, (fr0 + 1) + q ≤ n ∧ lv = .int .i64 (((fr0 + 1) + q : Nat) : Int) ∧ Sets wr w0.heap.size v3 (P ++ (List.range' (fr0 + 1) q).flatMap (grown3 l)) ∧ Below w0.heap.size w0 wr) (fun lv _ _ => n - (intOf lv).toNat)
            case atStart => exact ⟨0, by omega, by simp, by simpa using HS2.out, HB2.out⟩
            case round =>
              obtain ⟨q, hq, rfl, hS3, hb3⟩ := hrel
              by_cases hqn : (fr0 + 1) + q < n
              · have hi3 : (((fr0 + 1) + q : Nat) : Int) < (n : Int) := by omega
                have HS3 := Lib.hid hS3
                have HB3 := Lib.hid hb3
                clear hS3 hb3
                obtain ⟨w3, rfl⟩ : ∃ w3 : World, w3 = wr := ⟨_, rfl⟩
                obtain ⟨LV, hLV⟩ : ∃ LV : Nat, LV = (fr0 + 1) + q := ⟨_, rfl⟩
                rw [← hLV] at hi3
                rw [← hLV]
                have HLV := Lib.hid hLV; clear hLV
                go_wp2_with fail
                go_loopw [10, 6] (fun kd v4 wr => ∃ r : Nat, r ≤ 3 ∧ kd = .int .i64 ((r : Int) + 1) ∧ Sets wr w0.heap.size v4 ((P ++ (List.range' (fr0 + 1) q).flatMap (grown3 l)) ++ (grown3 l LV).take r) ∧ Below w0.heap.size w0 wr) (fun kd _ _ => 4 - (intOf kd).toNat)
                case atStart => exact ⟨0, by omega, rfl, by simpa using HS3.out, HB3.out⟩
                case round =>
                  obtain ⟨r, hr, rfl, hS4, hb4⟩ := hrel
                  by_cases hr3 : r < 3
                  · have hi4 : (r : Int) + 1 ≤ 3 := by omega
                    obtain ⟨L4, hL4e⟩ : ∃ L4, L4 = ((P ++ (List.range' (fr0 + 1) q).flatMap (grown3 l)) ++ (grown3 l LV).take r) := ⟨_, rfl⟩
                    rw [← hL4e] at hS4
                    obtain ⟨us, hO4, hl4, hI4⟩ := hS4
                    have HI4 := Lib.hid hI4; clear hI4
                    have HL4 := Lib.hid hl4; clear hl4
                    have hwz : w0.heap.size ≤ wr.heap.size := hb4.size
                    have hba : Below wr.heap.size wr (wr.alloc (.cells #[] 41)) := (Below.refl _ _).alloc (Nat.le_refl _) _
                    have hcA : (wr.alloc (.cells #[] 41)).cell? (ad.add j) = some (.slice (some ⟨gl, 0, none⟩) l.length cl) := by rw [hba.cell (by rw [block_of_add]; exact Nat.lt_of_lt_of_le hlt hwz), hb4.cell (by rw [block_of_add]; exact hlt)]; exact HCELL.out
                    have hrw := (HRL.out.below steady_FltM hb4).below steady_FltM hba
                    have hll : l.length ≤ 2 := by have := HN.out; omega
                    have hL4 : ((P ++ (List.range' (fr0 + 1) q).flatMap (grown3 l)) ++ (grown3 l LV).take r).length ≤ 1000 := by
                      rw [List.length_append, List.length_append, flat3_len, List.length_range', List.length_take]
                      have : (grown3 l LV).length = 3 := rfl
                      have := HLV.out
                      omega
                    rw [← hL4e] at hL4
                    have HB4 := Lib.hid hb4; clear hb4
                    have HE4 := Lib.hid hL4e
                    go_wp2_with (first
                      | (at_builtin; refine appG tpF rfl _ _ rfl wr.heap.size (.slice (some ⟨wr.heap.size, 0, none⟩) 0 0) 0 [] rfl (own_lit (n := 0) (heap_alloc_new _ _) (Nat.le_refl _) rfl (by decide)) ⟨gl, 0, none⟩ l.length cl (fcells l) rfl (fcells_len l) (rl_fcells hrw) (fcells_one l) (by omega) (by omega) (by simp) ?_; intro v1 w2 hown1 hg1 hv1; rw [Nat.zero_add, List.nil_append] at hown1; have hbw2 : Below wr.heap.size wr w2 := hba.grown hg1 (by simp) (fun k hk => by simp [Value.ownBlock] at hk; omega); have hz2 := hbw2.size)
                      | (at_builtin; refine appG tpF rfl _ _ rfl wr.heap.size v1 l.length (fcells l) rfl (hown1.alloc _) ⟨w2.heap.size, 0, none⟩ 1 1 [.int .i64 ((r : Int) + 1), .int .i64 (LV : Int)] rfl rfl (World.news_of_block (heap_alloc_new _ _)) (by simp [Value.oneCell']) (by omega) (by omega) (by simp; omega) ?_; intro v2 w4 hown2 hg2 hv2; obtain ⟨g2, c2, rfl, hg2a, hg2b⟩ := hown2.form (by omega); have hbw4 : Below wr.heap.size wr w4 := (hbw2.alloc hz2 _).grown hg2 (by simp; omega) (fun k hk => (own_lt hown1 k hk).1); have hz4 := hbw4.size; have hbw5 := hbw4.alloc hz4 (.cells #[.slice (some ⟨g2, 0, none⟩) (l.length + 1) c2] 33))
                      | (at_builtin; refine appG tpFF rfl _ _ rfl w0.heap.size _ L4.length us rfl (ownsRow_below hO4 hbw5) ⟨w4.heap.size, 0, none⟩ 1 1 [.slice (some ⟨g2, 0, none⟩) (l.length + 1) c2] rfl rfl (World.news_of_block (heap_alloc_new _ _)) (by simp [Value.oneCell']) (by omega) (by omega) (by simp; omega) ?_; intro v5 w6 hown5 hg5 hv5))
                    have hps := sets_push (fs := l ++ [⟨(r : Int) + 1, (LV : Int)⟩]) hO4 HL4.out HI4.out hbw5 hwz hg2a (by simp; omega) (by
                      rw [fcells_app, show (l ++ [(⟨(r : Int) + 1, (LV : Int)⟩ : Flt)]).length = l.length + 1 by simp]
                      exact row_mono (hown2.alloc _) hwz) (by rw [show (l ++ [(⟨(r : Int) + 1, (LV : Int)⟩ : Flt)]).length = l.length + 1 by simp]; exact hown5) hg5 hv5
                    have hbf := ((HB4.out).trans (hbw5.mono hwz)).grown hg5 (by simp; omega) (fun k hk => (own_lt hO4 k hk).1)
                    have HPS := Lib.hid hps; clear hps
                    have HBF := Lib.hid hbf; clear hbf
                    go_roundw
                    case rel => exact ⟨r + 1, by omega, by congr 1, by rw [grown3_take hr3, ← List.append_assoc, ← HE4.out]; exact HPS.out, HBF.out⟩
                    case measure => simp [intOf]; omega
                  · have hr3' : r = 3 := by omega
                    have HR := Lib.hid hr3'; clear hr3'
                    have hi5 : (3 : Int) < (r : Int) + 1 := by omega
                    have HS4 := Lib.hid hS4
                    have HB4 := Lib.hid hb4
                    clear hS4 hb4
                    go_wp2
                    go_roundw
                    case rel => exact ⟨q + 1, by omega, by have := HLV.out; congr 1; omega, by rw [List.range'_concat, List.flatMap_append]; have h := HS4.out; rw [HR.out, HLV.out] at h; simpa [grown3] using h, HB4.out⟩
                    case measure => simp [intOf]; omega
              · have hqe : (fr0 + 1) + q = n := by omega
                have HQ := Lib.hid hqe; clear hqe
                have HS3 := Lib.hid hS3
                have HB3 := Lib.hid hb3
                clear hS3 hb3
                go_wp2
                go_roundw
                case rel => exact ⟨j + 1, by omega, by go_num, by rw [HT.out, HGR.out]; have h := HS3.out; rw [show q = n - (fr0 + 1) by have := HQ.out; omega] at h; exact h, HB3.out⟩
                case measure => simp [intOf]; omega
        · have HK : Hid (j = (fsets n k).length) := by simp only [Hid]; omega
          go_wp2
          go_roundw
          case rel => exact ⟨k + 1, j0 - 1, by omega, by congr 1; omega, by have h := hS2; rw [HK.out, List.take_length] at h; exact (show Sets wr w0.heap.size _ (fsets n (k + 1)) from h).mono HB.out.size, HB.out.trans (hb2.mono HB.out.size)⟩
          case measure => simp [intOf]; omega
    · have HK : Hid (k = m) := by simp only [Hid]; omega
      obtain rfl : j0 = 0 := by omega
      go_wp2
      go_ret
      exact ⟨_, rfl, by rw [← HK.out]; exact hS, hbr⟩
end Go.Proofs.Ytmnegfhigfipbaa
