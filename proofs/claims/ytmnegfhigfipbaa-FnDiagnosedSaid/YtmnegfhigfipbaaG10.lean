import Derived.Test.YtmnegfhigfipbaaG9
namespace Go.Proofs.Ytmnegfhigfipbaa
open Go.RowKit Go.Sort
theorem Sets.reads {w : World} {base : Nat} {v : Value} {L : List (List Flt)} (h : Sets w base v L) : ∃ A c, v = .slice A L.length c ∧ (∀ i (hi : i < L.length), ∃ ad, A = some ad ∧ ad.block < w.heap.size ∧ ∃ g c', w.cell? (ad.add i) = some (.slice (some ⟨g, 0, none⟩) L[i].length c') ∧ RL FltM 2 w (some ⟨g, 0, none⟩) L[i].length L[i]) := by
  obtain ⟨us, h1, h2, h3⟩ := h
  rcases h1.2 with ⟨rfl, hn⟩ | ⟨g, cap, cur, rfl, hb, hg, hnc, _, hcs, htake⟩
  · exact ⟨none, 0, by rw [hn], fun i hi => by omega⟩
  · refine ⟨_, cap, rfl, fun i hi => ⟨_, rfl, (Array.getElem?_eq_some_iff.1 hg).1, ?_⟩⟩
    obtain ⟨g', c', e, hr⟩ := (h3 i hi (by omega)).rl
    exact ⟨g', c', by rw [← e]; exact h1.cells (g := g) rfl i us[i] (by simp [List.getElem?_eq_getElem (show i < us.length by omega)]), hr⟩
theorem Sets.mono {w : World} {b b' : Nat} {v : Value} {L : List (List Flt)} (h : Sets w b v L) (hb : b' ≤ b) : Sets w b' v L := by
  obtain ⟨us, h1, h2, h3⟩ := h
  refine ⟨us, ⟨h1.1, ?_⟩, h2, fun i hi hi' => by obtain ⟨g, c, e, h4⟩ := h3 i hi hi'; exact ⟨g, c, e, Nat.le_trans hb h4.1, h4.2.1, h4.2.2.1, row_mono h4.2.2.2 hb⟩⟩
  rcases h1.2 with hn | ⟨g, cap, cur, rfl, hbg, hg, rest⟩
  · exact .inl hn
  · exact .inr ⟨g, cap, cur, rfl, by omega, hg, rest⟩
theorem own_lit {w : World} {base g n size : Nat} {e : TypeId} {cs : Array Value} (hg : w.heap[g]? = some (.cells cs e (0, 0))) (hb : base ≤ g) (hs : cs.size = n * size) (hn : n ≤ maxLen) : w.ownsRow base e size (.slice (some ⟨g, 0, none⟩) n n) n cs.toList :=
  ⟨by rw [Array.length_toList]; exact hs, .inr ⟨g, n, cs, rfl, hb, hg, Nat.le_refl _, hn, hs, by rw [← hs, ← Array.length_toList]; exact List.take_length⟩⟩
theorem sets_zero (w : World) : Sets ((w.alloc (.cells #[] 41)).alloc (.cells #[.slice (some ⟨w.heap.size, 0, none⟩) 0 0] 33)) w.heap.size (.slice (some ⟨w.heap.size + 1, 0, none⟩) 1 1) [[]] := by
  have hg : ((w.alloc (.cells #[] 41)).alloc (.cells #[.slice (some ⟨w.heap.size, 0, none⟩) 0 0] 33)).heap[w.heap.size + 1]? = some (.cells #[.slice (some ⟨w.heap.size, 0, none⟩) 0 0] 33 (0, 0)) := by
    rw [show w.heap.size + 1 = (w.alloc (.cells #[] 41)).heap.size by simp]; exact heap_alloc_new _ _
  refine ⟨[.slice (some ⟨w.heap.size, 0, none⟩) 0 0], own_lit hg (by omega) rfl (by decide), rfl, fun i h h' => ?_⟩
  obtain rfl : i = 0 := by simp at h; omega
  refine ⟨w.heap.size, 0, rfl, Nat.le_refl _, by simp; omega, by simp [Value.ownBlock], ?_⟩
  exact own_lit (n := 0) (cs := #[]) ((((Below.refl (w.alloc (.cells #[] 41)).heap.size (w.alloc (.cells #[] 41))).alloc (Nat.le_refl _) _).block w.heap.size (by simp)).trans (heap_alloc_new _ _)) (Nat.le_refl _) rfl (by decide)
theorem sets_nil {w : World} {g base : Nat} (hg : w.heap[g]? = some (.cells #[] 33 (0, 0))) (hb : base ≤ g) : Sets w base (.slice (some ⟨g, 0, none⟩) 0 0) [] :=
  ⟨[], own_lit hg hb rfl (by decide), rfl, fun i h => by simp at h⟩
theorem rl_fcells {w : World} {g : Nat} {fs : List Flt} (h : RL FltM 2 w (some ⟨g, 0, none⟩) fs.length fs) : ∀ j x, (fcells fs)[j]? = some x → w.cell? ((⟨g, 0, none⟩ : Addr).add j) = some x := by
  intro j x hx
  have hj : j < fs.length * 2 := by rw [← fcells_len]; exact (List.getElem?_eq_some_iff.1 hx).1
  obtain ⟨ad, e, _, hk, h1, h2⟩ := h.at_ (show j / 2 < fs.length by omega)
  injection e with e; subst e
  obtain ⟨g1, g2⟩ := fcells_get fs (j / 2) hk
  rw [add_zero_block] at h1 h2 ⊢
  rcases Nat.mod_two_eq_zero_or_one j with hm | hm
  · rw [show j / 2 * 2 = j by omega] at g1 h1
    rw [h1, ← hx, g1]
  · rw [show j / 2 * 2 + 1 = j by omega] at g2
    rw [g2] at hx
    have h3 : w.cell? ⟨g, j / 2 * 2 + 1, none⟩ = some (.int .i64 fs[j / 2].lever) := h2
    rw [show j / 2 * 2 + 1 = j by omega] at h3
    rw [h3, hx]
theorem ownsRow_below {w w' : World} {base : Nat} {e : TypeId} {size : Nat} {v : Value} {n : Nat} {xs : List Value} (h : w.ownsRow base e size v n xs) (hb : Below w.heap.size w w') : w'.ownsRow base e size v n xs := by
  refine ⟨h.1, ?_⟩
  rcases h.2 with hn | ⟨g, cap, cur, rfl, hbg, hg, rest⟩
  · exact .inl hn
  · exact .inr ⟨g, cap, cur, rfl, hbg, by rw [hb.block g (Array.getElem?_eq_some_iff.1 hg).1]; exact hg, rest⟩
theorem grown3_take {l : List Flt} {L r : Nat} (h : r < 3) : (grown3 l L).take (r + 1) = (grown3 l L).take r ++ [l ++ [⟨(r : Int) + 1, L⟩]] := by
  match r, h with
  | 0, _ => rfl
  | 1, _ => rfl
  | 2, _ => rfl
theorem flat3_len (l : List Flt) (ks : List Nat) : (ks.flatMap (grown3 l)).length = 3 * ks.length := by
  induction ks with
  | nil => rfl
  | cons k ks ih => simp only [List.flatMap_cons, List.length_append, ih, grown3, List.length_cons, List.length_nil]; omega
theorem fsets_small {n k : Nat} (hn : n ≤ 6) (hk : k ≤ 1) : (fsets n k).length ≤ 18 := by
  match k, hk with
  | 0, _ => simp [fsets]
  | 1, _ => have := fsets_len n 0; simp only [fsets, List.length_cons, List.length_nil] at this ⊢; omega
set_option maxRecDepth 100000 in
set_option maxHeartbeats 3200000 in
theorem faultLists_any (n m : Nat) (w : World) (hn : n ≤ 6) (hm : m ≤ 2) :
    Calls Try.prog 59 #[.int .i64 n, .int .i64 m] w fun e w' => ∃ v, e = .returned v ∧ Sets w' w.heap.size v (fsets n m) ∧ Below w.heap.size w w' := by
  go_enter Try.func59, Try.ntmps59
  go_wp2_with fail
  go_loopw [15, 5] (fun i v wr => ∃ k : Nat, k ≤ m ∧ i = .int .i64 k ∧ Sets wr w.heap.size v (fsets n k) ∧ Below w.heap.size w wr) (fun i _ _ => m - (intOf i).toNat)
  case atStart => exact ⟨0, Nat.zero_le _, rfl, sets_zero w, ((Below.refl _ _).alloc (Nat.le_refl _) _).alloc (by simp) _⟩
  case round =>
    obtain ⟨k, hk, rfl, hS, hbr⟩ := hrel
    by_cases hkm : k < m
    · have hi1 : (k : Int) < (m : Int) := by omega
      have hsl : (fsets n k).length ≤ 18 := fsets_small hn (by omega)
      obtain ⟨A, c, rfl, hel⟩ := hS.reads
      have HEL := Lib.hid hel
      have HS := Lib.hid hS
      have HB := Lib.hid hbr
      clear hel hS hbr
      obtain ⟨w0, rfl⟩ : ∃ w0 : World, w0 = wr := ⟨_, rfl⟩
      go_wp2_with fail
      go_loopw [20, 6] (fun i v2 wr => ∃ j : Nat, j ≤ (fsets n k).length ∧ i = .int .i64 j ∧ Sets wr w0.heap.size v2 (((fsets n k).take j).flatMap (grownL n)) ∧ Below w0.heap.size w0 wr) (fun i _ _ => (fsets n k).length - (intOf i).toNat)
      case atStart => exact ⟨0, Nat.zero_le _, rfl, sets_nil (heap_alloc_new _ _) (Nat.le_refl _), (Below.refl _ _).alloc (Nat.le_refl _) _⟩
      case round =>
        obtain ⟨j, hj, rfl, hS2, hb2⟩ := hrel
        by_cases hjk : j < (fsets n k).length
        · obtain ⟨ad, hA, hlt, gl, cl, hcell, hrl⟩ := HEL.out j hjk
          obtain ⟨ok1, ok2, ok3⟩ := fsets_ok n k _ (List.getElem_mem hjk)
          have HT := Lib.hid (show ((fsets n k).take (j + 1)).flatMap (grownL n) = ((fsets n k).take j).flatMap (grownL n) ++ grownL n (fsets n k)[j] by rw [List.take_succ_eq_append_getElem hjk, List.flatMap_append]; simp)
          obtain ⟨l, hl⟩ : ∃ l, l = (fsets n k)[j] := ⟨_, rfl⟩
          rw [← hl] at hcell hrl ok1 ok2 ok3 HT
          clear hl
          rw [← hb2.cell (by rw [block_of_add]; exact hlt)] at hcell
          have hrl2 := hrl.below steady_FltM hb2
          have hi2 : (j : Int) < ((fsets n k).length : Int) := by omega
          have hi0 : (0 : Int) ≤ (j : Int) := by omega
          have HN : Hid (l.length = k) := ok3
          subst hA
          have HRL := Lib.hid hrl
          clear hrl ok3
          have HS2 := Lib.hid hS2
          have HB2 := Lib.hid hb2
          have HG := Lib.hid ok1
          have HH := Lib.hid HEL
          clear hS2 hb2 ok1 ok2
          obtain ⟨w1, rfl⟩ : ∃ w1 : World, w1 = wr := ⟨_, rfl⟩
          obtain ⟨P, hP⟩ : ∃ P, P = ((fsets n k).take j).flatMap (grownL n) := ⟨_, rfl⟩
          rw [← hP] at HS2 HT
          have hPl : P.length ≤ 18 * (fsets n k).length := by
            rw [hP]
            have h1 := flat_len n ((fsets n k).take j)
            have h2 : ((fsets n k).take j).length ≤ (fsets n k).length := by simp; omega
            have h3 : 3 * n * ((fsets n k).take j).length ≤ 18 * ((fsets n k).take j).length := Nat.mul_le_mul_right _ (by omega)
            omega
          clear hP
          rcases Nat.eq_zero_or_pos l.length with h0 | h0
          · have HZ := Lib.hid h0; clear h0
            have hd : l = [] := List.eq_nil_of_length_eq_zero HZ.out
            have HGR : Hid (grownL n l = (List.range' 0 (n - 0)).flatMap (grown3 l)) := by simp only [Hid]; rw [hd]; rfl
            have HD0 := Lib.hid hd; clear hd
            have hd0 : decide ((0 : Int) < (l.length : Int)) = false := by rw [HZ.out]; rfl
            have hd1 : decide (0 < l.length) = false := by rw [HZ.out]; rfl
            have hz2 : ¬ (0 : Int) < (l.length : Int) := by rw [HZ.out]; simp
            go_wp2_with fail
            go_loopw [10, 6] (fun lv v3 wr => ∃ q : Nat, 0 + q ≤ n ∧ lv = .int .i64 ((0 + q : Nat) : Int) ∧ Sets wr w0.heap.size v3 (P ++ (List.range' 0 q).flatMap (grown3 l)) ∧ Below w0.heap.size w0 wr) (fun lv _ _ => n - (intOf lv).toNat)
            case atStart => exact ⟨0, by omega, by simp, by simpa using HS2.out, HB2.out⟩
            case round =>
              obtain ⟨q, hq, rfl, hS3, hb3⟩ := hrel
              by_cases hqn : 0 + q < n
              · have hi3 : ((0 + q : Nat) : Int) < (n : Int) := by omega
                have HS3 := Lib.hid hS3
                have HB3 := Lib.hid hb3
                clear hS3 hb3
                obtain ⟨w3, rfl⟩ : ∃ w3 : World, w3 = wr := ⟨_, rfl⟩
                obtain ⟨LV, hLV⟩ : ∃ LV : Nat, LV = 0 + q := ⟨_, rfl⟩
                rw [← hLV] at hi3
                rw [← hLV]
                have HLV := Lib.hid hLV; clear hLV
                go_wp2_with fail
                go_loopw [11, 6] (fun kd v4 wr => ∃ r : Nat, r ≤ 3 ∧ kd = .int .i64 ((r : Int) + 1) ∧ Sets wr w0.heap.size v4 ((P ++ (List.range' 0 q).flatMap (grown3 l)) ++ (grown3 l LV).take r) ∧ Below w0.heap.size w0 wr) (fun kd _ _ => 4 - (intOf kd).toNat)
                case atStart => exact ⟨0, by omega, rfl, by simpa using HS3.out, HB3.out⟩
                case round =>
                  obtain ⟨r, hr, rfl, hS4, hb4⟩ := hrel
                  by_cases hr3 : r < 3
                  · have hi4 : (r : Int) + 1 ≤ 3 := by omega
                    obtain ⟨L4, hL4e⟩ : ∃ L4, L4 = ((P ++ (List.range' 0 q).flatMap (grown3 l)) ++ (grown3 l LV).take r) := ⟨_, rfl⟩
                    rw [← hL4e] at hS4
                    obtain ⟨us, hO4, hl4, hI4⟩ := hS4
                    have HI4 := Lib.hid hI4; clear hI4
                    have HL4 := Lib.hid hl4; clear hl4
                    have hwz : w0.heap.size ≤ wr.heap.size := hb4.size
                    have hba : Below wr.heap.size wr (wr.alloc (.cells #[] 41)) := (Below.refl _ _).alloc (Nat.le_refl _) _
                    have hrw := (HRL.out.below steady_FltM hb4).below steady_FltM hba
                    have hll : l.length ≤ 2 := by have := HN.out; omega
                    have hL4 : ((P ++ (List.range' 0 q).flatMap (grown3 l)) ++ (grown3 l LV).take r).length ≤ 1000 := by
                      rw [List.length_append, List.length_append, flat3_len, List.length_range', List.length_take]
                      have : (grown3 l LV).length = 3 := rfl
                      have := HLV.out
                      omega
                    rw [← hL4e] at hL4
                    have HB4 := Lib.hid hb4; clear hb4
                    have HE4 := Lib.hid hL4e
                    go_wp2_with (first
                      | (at_builtin; refine appG tpF rfl _ _ rfl wr.heap.size (.slice (some ⟨wr.heap.size, 0, none⟩) 0 0) 0 [] rfl (own_lit (n := 0) (heap_alloc_new _ _) (Nat.le_refl _) rfl (by decide)) ⟨gl, 0, none⟩ l.length cl (fcells l) rfl (fcells_len l) (rl_fcells hrw) (fcells_one l) (by omega) (by omega) (by simp) ?_; intro v1 w2 hown1 hg1 hv1; rw [Nat.zero_add, List.nil_append] at hown1; have hbw2 : Below wr.heap.size wr w2 := hba.grown hg1 (by simp) (fun k hk => by simp [Value.ownBlock] at hk; omega); have hz2 := hbw2.size)
                      | (at_builtin; refine appG tpF rfl _ _ rfl wr.heap.size v1 l.length (fcells l) rfl (hown1.alloc _) ⟨w2.heap.size, 0, none⟩ 1 1 [.int .i64 ((r : Int) + 1), .int .i64 (LV : Int)] rfl rfl (World.news_of_block (heap_alloc_new _ _)) (by simp [Value.oneCell']) (by omega) (by omega) (by simp; omega) ?_; intro v2 w4 hown2 hg2 hv2; obtain ⟨g2, c2, rfl, hg2a, hg2b⟩ := hown2.form (by omega); have hbw4 : Below wr.heap.size wr w4 := (hbw2.alloc hz2 _).grown hg2 (by simp; omega) (fun k hk => (own_lt hown1 k hk).1); have hz4 := hbw4.size; have hbw5 := hbw4.alloc hz4 (.cells #[.slice (some ⟨g2, 0, none⟩) (l.length + 1) c2] 33))
                      | (at_builtin; refine appG tpFF rfl _ _ rfl w0.heap.size _ L4.length us rfl (ownsRow_below hO4 hbw5) ⟨w4.heap.size, 0, none⟩ 1 1 [.slice (some ⟨g2, 0, none⟩) (l.length + 1) c2] rfl rfl (World.news_of_block (heap_alloc_new _ _)) (by simp [Value.oneCell']) (by omega) (by omega) (by simp; omega) ?_; intro v5 w6 hown5 hg5 hv5))
                    have hps := sets_push (fs := l ++ [⟨(r : Int) + 1, (LV : Int)⟩]) hO4 HL4.out HI4.out hbw5 hwz hg2a (by simp; omega) (by
                      rw [fcells_app, show (l ++ [(⟨(r : Int) + 1, (LV : Int)⟩ : Flt)]).length = l.length + 1 by simp]
                      exact row_mono (hown2.alloc _) hwz) (by rw [show (l ++ [(⟨(r : Int) + 1, (LV : Int)⟩ : Flt)]).length = l.length + 1 by simp]; exact hown5) hg5 hv5
                    have hbf := ((HB4.out).trans (hbw5.mono hwz)).grown hg5 (by simp; omega) (fun k hk => (own_lt hO4 k hk).1)
                    have HPS := Lib.hid hps; clear hps
                    have HBF := Lib.hid hbf; clear hbf
                    go_roundw
                    case rel => exact ⟨r + 1, by omega, by congr 1, by rw [grown3_take hr3, ← List.append_assoc, ← HE4.out]; exact HPS.out, HBF.out⟩
                    case measure => simp [intOf]; omega
                  · have hr3' : r = 3 := by omega
                    have HR := Lib.hid hr3'; clear hr3'
                    have hi5 : (3 : Int) < (r : Int) + 1 := by omega
                    have HS4 := Lib.hid hS4
                    have HB4 := Lib.hid hb4
                    clear hS4 hb4
                    go_wp2
                    go_roundw
                    case rel => exact ⟨q + 1, by omega, by have := HLV.out; congr 1; omega, by rw [List.range'_concat, List.flatMap_append]; have h := HS4.out; rw [HR.out, HLV.out] at h; simpa [grown3] using h, HB4.out⟩
                    case measure => simp [intOf]; omega
              · have hqe : 0 + q = n := by omega
                have HQ := Lib.hid hqe; clear hqe
                have HS3 := Lib.hid hS3
                have HB3 := Lib.hid hb3
                clear hS3 hb3
                go_wp2
                go_roundw
                case rel => exact ⟨j + 1, by omega, by go_num, by rw [HT.out, HGR.out]; have h := HS3.out; rw [show q = n - 0 by have := HQ.out; omega] at h; exact h, HB3.out⟩
                case measure => simp [intOf]; omega
          · obtain ⟨ad2, e2, _, hk2, f1, f2⟩ := hrl2.at_ (show l.length - 1 < l.length by omega)
            injection e2 with e2; subst e2
            rw [add_zero_block] at f1 f2
            have g4 := HG.out (l[l.length - 1]'hk2) (List.getElem_mem _)
            obtain ⟨fr0, hfr⟩ : ∃ fr0 : Nat, (l[l.length - 1]'hk2).lever = fr0 := ⟨(l[l.length - 1]'hk2).lever.toNat, by omega⟩
            have HNX : nextL l = fr0 + 1 := by rw [nextL_last h0, hfr]; simp
            have HGR : Hid (grownL n l = (List.range' (fr0 + 1) (n - (fr0 + 1))).flatMap (grown3 l)) := by simp only [Hid, grownL, HNX]
            have hfrn : fr0 < n := by omega
            rw [hfr] at f2
            clear HNX hfr g4 f1
            have hd0 : (0 : Int) < (l.length : Int) := by omega
            have hll2 : l.length ≤ 2 := by have := HN.out; omega
            go_wp2_with fail
            go_loopw [10, 6] (fun lv v3 wr => ∃ q : Nat, (fr0 + 1) + q ≤ n ∧ lv = .int .i64 (((fr0 + 1) + q : Nat) : Int) ∧ Sets wr w0.heap.size v3 (P ++ (List.range' (fr0 + 1) q).flatMap (grown3 l)) ∧ Below w0.heap.size w0 wr) (fun lv _ _ => n - (intOf lv).toNat)
            case atStart => exact ⟨0, by omega, by simp, by simpa using HS2.out, HB2.out⟩
            case round =>
              obtain ⟨q, hq, rfl, hS3, hb3⟩ := hrel
              by_cases hqn : (fr0 + 1) + q < n
              · have hi3 : (((fr0 + 1) + q : Nat) : Int) < (n : Int) := by omega
                have HS3 := Lib.hid hS3
                have HB3 := Lib.hid hb3
                clear hS3 hb3
                obtain ⟨w3, rfl⟩ : ∃ w3 : World, w3 = wr := ⟨_, rfl⟩
                obtain ⟨LV, hLV⟩ : ∃ LV : Nat, LV = (fr0 + 1) + q := ⟨_, rfl⟩
                rw [← hLV] at hi3
                rw [← hLV]
                have HLV := Lib.hid hLV; clear hLV
                go_wp2_with fail
                go_loopw [11, 6] (fun kd v4 wr => ∃ r : Nat, r ≤ 3 ∧ kd = .int .i64 ((r : Int) + 1) ∧ Sets wr w0.heap.size v4 ((P ++ (List.range' (fr0 + 1) q).flatMap (grown3 l)) ++ (grown3 l LV).take r) ∧ Below w0.heap.size w0 wr) (fun kd _ _ => 4 - (intOf kd).toNat)
                case atStart => exact ⟨0, by omega, rfl, by simpa using HS3.out, HB3.out⟩
                case round =>
                  obtain ⟨r, hr, rfl, hS4, hb4⟩ := hrel
                  by_cases hr3 : r < 3
                  · have hi4 : (r : Int) + 1 ≤ 3 := by omega
                    obtain ⟨L4, hL4e⟩ : ∃ L4, L4 = ((P ++ (List.range' (fr0 + 1) q).flatMap (grown3 l)) ++ (grown3 l LV).take r) := ⟨_, rfl⟩
                    rw [← hL4e] at hS4
                    obtain ⟨us, hO4, hl4, hI4⟩ := hS4
                    have HI4 := Lib.hid hI4; clear hI4
                    have HL4 := Lib.hid hl4; clear hl4
                    have hwz : w0.heap.size ≤ wr.heap.size := hb4.size
                    have hba : Below wr.heap.size wr (wr.alloc (.cells #[] 41)) := (Below.refl _ _).alloc (Nat.le_refl _) _
                    have hrw := (HRL.out.below steady_FltM hb4).below steady_FltM hba
                    have hll : l.length ≤ 2 := by have := HN.out; omega
                    have hL4 : ((P ++ (List.range' (fr0 + 1) q).flatMap (grown3 l)) ++ (grown3 l LV).take r).length ≤ 1000 := by
                      rw [List.length_append, List.length_append, flat3_len, List.length_range', List.length_take]
                      have : (grown3 l LV).length = 3 := rfl
                      have := HLV.out
                      omega
                    rw [← hL4e] at hL4
                    have HB4 := Lib.hid hb4; clear hb4
                    have HE4 := Lib.hid hL4e
                    go_wp2_with (first
                      | (at_builtin; refine appG tpF rfl _ _ rfl wr.heap.size (.slice (some ⟨wr.heap.size, 0, none⟩) 0 0) 0 [] rfl (own_lit (n := 0) (heap_alloc_new _ _) (Nat.le_refl _) rfl (by decide)) ⟨gl, 0, none⟩ l.length cl (fcells l) rfl (fcells_len l) (rl_fcells hrw) (fcells_one l) (by omega) (by omega) (by simp) ?_; intro v1 w2 hown1 hg1 hv1; rw [Nat.zero_add, List.nil_append] at hown1; have hbw2 : Below wr.heap.size wr w2 := hba.grown hg1 (by simp) (fun k hk => by simp [Value.ownBlock] at hk; omega); have hz2 := hbw2.size)
                      | (at_builtin; refine appG tpF rfl _ _ rfl wr.heap.size v1 l.length (fcells l) rfl (hown1.alloc _) ⟨w2.heap.size, 0, none⟩ 1 1 [.int .i64 ((r : Int) + 1), .int .i64 (LV : Int)] rfl rfl (World.news_of_block (heap_alloc_new _ _)) (by simp [Value.oneCell']) (by omega) (by omega) (by simp; omega) ?_; intro v2 w4 hown2 hg2 hv2; obtain ⟨g2, c2, rfl, hg2a, hg2b⟩ := hown2.form (by omega); have hbw4 : Below wr.heap.size wr w4 := (hbw2.alloc hz2 _).grown hg2 (by simp; omega) (fun k hk => (own_lt hown1 k hk).1); have hz4 := hbw4.size; have hbw5 := hbw4.alloc hz4 (.cells #[.slice (some ⟨g2, 0, none⟩) (l.length + 1) c2] 33))
                      | (at_builtin; refine appG tpFF rfl _ _ rfl w0.heap.size _ L4.length us rfl (ownsRow_below hO4 hbw5) ⟨w4.heap.size, 0, none⟩ 1 1 [.slice (some ⟨g2, 0, none⟩) (l.length + 1) c2] rfl rfl (World.news_of_block (heap_alloc_new _ _)) (by simp [Value.oneCell']) (by omega) (by omega) (by simp; omega) ?_; intro v5 w6 hown5 hg5 hv5))
                    have hps := sets_push (fs := l ++ [⟨(r : Int) + 1, (LV : Int)⟩]) hO4 HL4.out HI4.out hbw5 hwz hg2a (by simp; omega) (by
                      rw [fcells_app, show (l ++ [(⟨(r : Int) + 1, (LV : Int)⟩ : Flt)]).length = l.length + 1 by simp]
                      exact row_mono (hown2.alloc _) hwz) (by rw [show (l ++ [(⟨(r : Int) + 1, (LV : Int)⟩ : Flt)]).length = l.length + 1 by simp]; exact hown5) hg5 hv5
                    have hbf := ((HB4.out).trans (hbw5.mono hwz)).grown hg5 (by simp; omega) (fun k hk => (own_lt hO4 k hk).1)
                    have HPS := Lib.hid hps; clear hps
                    have HBF := Lib.hid hbf; clear hbf
                    go_roundw
                    case rel => exact ⟨r + 1, by omega, by congr 1, by rw [grown3_take hr3, ← List.append_assoc, ← HE4.out]; exact HPS.out, HBF.out⟩
                    case measure => simp [intOf]; omega
                  · have hr3' : r = 3 := by omega
                    have HR := Lib.hid hr3'; clear hr3'
                    have hi5 : (3 : Int) < (r : Int) + 1 := by omega
                    have HS4 := Lib.hid hS4
                    have HB4 := Lib.hid hb4
                    clear hS4 hb4
                    go_wp2
                    go_roundw
                    case rel => exact ⟨q + 1, by omega, by have := HLV.out; congr 1; omega, by rw [List.range'_concat, List.flatMap_append]; have h := HS4.out; rw [HR.out, HLV.out] at h; simpa [grown3] using h, HB4.out⟩
                    case measure => simp [intOf]; omega
              · have hqe : (fr0 + 1) + q = n := by omega
                have HQ := Lib.hid hqe; clear hqe
                have HS3 := Lib.hid hS3
                have HB3 := Lib.hid hb3
                clear hS3 hb3
                go_wp2
                go_roundw
                case rel => exact ⟨j + 1, by omega, by go_num, by rw [HT.out, HGR.out]; have h := HS3.out; rw [show q = n - (fr0 + 1) by have := HQ.out; omega] at h; exact h, HB3.out⟩
                case measure => simp [intOf]; omega
        · have HK : Hid (j = (fsets n k).length) := by simp only [Hid]; omega
          go_wp2
          go_roundw
          case rel => exact ⟨k + 1, by omega, by go_num, by have h := hS2; rw [HK.out, List.take_length] at h; exact (show Sets wr w0.heap.size _ (fsets n (k + 1)) from h).mono HB.out.size, HB.out.trans (hb2.mono HB.out.size)⟩
          case measure => simp [intOf]; omega
    · have HK : Hid (k = m) := by simp only [Hid]; omega
      go_wp2
      go_ret
      exact ⟨_, rfl, by rw [← HK.out]; exact hS, hbr⟩
end Go.Proofs.Ytmnegfhigfipbaa
