import Derived.Test.YtmnegfhigfipbaaG15
namespace Go.Proofs.Ytmnegfhigfipbaa
open Go.RowKit Go.Sort
theorem Sets.at_ {w : World} {B n c : Nat} {A : Option Addr} {L : List (List Flt)} (h : Sets w B (.slice A n c) L) (h0 : 0 < L.length) :
    ∃ aS : Addr, A = some aS ∧ B ≤ aS.block ∧ aS.block < w.heap.size ∧ ∀ (k : Nat) (hk : k < L.length), ∃ gl cl, w.cell? (aS.add k) = some (.slice (some ⟨gl, 0, none⟩) L[k].length cl) ∧ RL FltM 2 w (some ⟨gl, 0, none⟩) L[k].length L[k] := by
  obtain ⟨aS, gl, cl, hA, h1, h2, -, -⟩ := h.elem h0
  subst hA
  refine ⟨aS, rfl, h1, h2, fun k hk => ?_⟩
  obtain ⟨aS', gl', cl', e, -, -, h4, h5⟩ := h.elem hk
  injection e with e
  subst e
  exact ⟨gl', cl', h4, h5.rl'⟩
theorem lever_at {w : World} {gl n j : Nat} {own : List Flt} (h : RL FltM 2 w (some ⟨gl, 0, none⟩) n own) (hj : j < n) : ∃ h : j < own.length, gl < w.heap.size ∧ w.cell? ⟨gl, j * 2, none⟩ = some (.int .i64 own[j].kind) ∧ w.cell? ⟨gl, j * 2 + 1, none⟩ = some (.int .i64 own[j].lever) := by
  obtain ⟨ad, e, hlt, hk, f1, f2⟩ := h.at_ hj
  injection e with e
  subst e
  rw [add_zero_block] at f1 f2
  exact ⟨hk, hlt, f1, f2⟩
theorem any_take_succ {own : List Flt} {j : Nat} (h : j < own.length) (p : Flt → Bool) : (own.take (j + 1)).any p = ((own.take j).any p || p own[j]) := by
  rw [List.take_succ_eq_append_getElem h, List.any_append]; simp
theorem allL_take_succ {L : List (List Flt)} {j : Nat} (h : j < L.length) (p : List Flt → Bool) : (L.take (j + 1)).all p = ((L.take j).all p && p L[j]) := by
  rw [List.take_succ_eq_append_getElem h, List.all_append]; simp
set_option maxRecDepth 100000 in
set_option maxHeartbeats 3200000 in
theorem spec_SuspectLevers (A : Option Addr) (n c : Nat) (ts : List Tri) (f : Int) (w : World) (hr : RL TriM 7 w A n ts) (hs : ∀ t ∈ ts, SmallTri t) (hm : n ≤ 1048576) :
    Calls Try.prog 22 #[.slice A n c, .int .i64 f] w fun e w' => ∃ v, e = .returned (.tuple #[v, .int .i64 (scode ts f)]) ∧ OwnI w' w.heap.size v (slist ts f) ∧ Below w.heap.size w w' := by
  have KC := Lib.hid (l20Code_below A n c ts f w hr hs hm)
  by_cases h0 : bcode ts f = 0
  · obtain ⟨hT, w1', w6, f0, f2, n1, n2⟩ := bcode_zero h0 hs
    have HL := Lib.hid hr.1
    obtain ⟨fn, rfl⟩ : ∃ fn : Nat, f = fn := ⟨f.toNat, by omega⟩
    have KE := Lib.hid (fun W (hW : Below w.heap.size w W) => l20Found_any A n c ts (wid ts) fn W (hr.below steady_TriM hW) hT w1' w6 (by omega) (by have := HL.out; omega) (by have := HL.out; omega))
    have HS1 := Lib.hid (show scode ts fn = if found ts (wid ts) fn = [] then 3 else 0 by unfold scode; rw [if_pos h0]; rfl)
    have HS2 := Lib.hid (show slist ts fn = if found ts (wid ts) fn = [] then [] else sus (found ts (wid ts) fn) (wid ts) by unfold slist; rw [if_pos h0]; rfl)
    have HFL : (found ts (wid ts) fn).length ≤ 1000 := by have h := found_length (vexpl ts) (k := (fsets (wid ts) fn).length) w6 (show fn ≤ 2 by omega); rw [List.take_length] at h; exact h
    have HOK := Lib.hid (fun own (h : own ∈ found ts (wid ts) fn) => found_ok h (show fn ≤ 2 by omega))
    have HWID := Lib.hid (hT ts[0] (List.getElem_mem _)).2
    have HS := Lib.hid hs; clear hs
    have HT := Lib.hid hT; clear hT
    have H0 := Lib.hid h0; clear h0
    obtain ⟨L, hL⟩ : ∃ L, L = found ts (wid ts) fn := ⟨_, rfl⟩
    have HLE := Lib.hid hL
    rw [← hL] at HS1 HS2 HFL
    rw [← hL] at KE HOK
    clear hL
    have hn0 : 0 < n := by have := HL.out; omega
    obtain ⟨ad, hA, hlt, hk0, ht0⟩ := hr.at_ hn0
    rw [Nat.zero_mul, addr_add_zero] at ht0
    obtain ⟨A1, c1, A2, c2, A3, c3, ⟨g1, g2, -, -, -, -, -⟩, -, -, -⟩ := ht0.cells
    rw [HWID.out] at g2
    have hi2 : (0 : Int) < (n : Int) := by omega
    subst hA
    clear ht0 g1
    have HG2 := Lib.hid g2; clear g2
    go_enter Try.func22, Try.ntmps22
    go_wp2_with (go_at_call 32; refine KC.out.mono ?_; rintro e w1 ⟨rfl, hw1⟩; rw [H0.out])
    refine (KE.out w1 hw1).mono ?_; rintro e w2 ⟨v, rfl, hS, hw2⟩
    obtain ⟨AS, cS, rfl, -⟩ := hS.reads
    have hb2 := hw1.trans (hw2.mono hw1.size)
    have hz1 := hw1.size
    have hz2 := hw2.size
    rcases Nat.eq_zero_or_pos L.length with hz | hz
    · have HN := Lib.hid (List.eq_nil_of_length_eq_zero hz)
      have hz' : ((L.length : Int) == 0) = true := by simp [hz]
      have HSS := Lib.hid hS; clear hS
      have HZ := Lib.hid hz; clear hz
      go_wp2
      refine bodyPost_ret (v := .tuple #[.slice none 0 0, .int .i64 3]) (by simp [results, Try.results22, go_sem]) rfl ⟨_, by rw [HS1.out, if_pos HN.out], ?_, hb2⟩
      rw [HS2.out, if_pos HN.out]
      exact OwnI.nil _ _
    · have HNE : Hid (L ≠ []) := by simp only [Hid]; rintro rfl; simp at hz
      have hz' : ((L.length : Int) == 0) = false := by rw [beq_eq_false_iff_ne]; omega
      have hz3 : ¬ (L.length : Int) = 0 := by omega
      obtain ⟨aS, rfl, hbS, hgS, hel⟩ := hS.at_ hz
      have HEL := Lib.hid hel
      clear hel hS
      have hb2z := hb2.size
      go_wp2_with fail
      go_loopw [9, 8] (fun kk out wr => ∃ k : Nat, k ≤ wid ts ∧ kk = .int .i64 k ∧ OwnI wr w2.heap.size out (sus L k) ∧ Below w2.heap.size w2 wr) (fun kk _ _ => wid ts - (intOf kk).toNat)
      case atStart => exact ⟨0, Nat.zero_le _, rfl, own_lit (n := 0) (heap_alloc_new _ _) (Nat.le_refl _) rfl (by decide), (Below.refl _ _).alloc (Nat.le_refl _) _⟩
      case round =>
        obtain ⟨k, hk, rfl, hown, hbr⟩ := hrel
        have hbw : Below w.heap.size w wr := hb2.trans (hbr.mono hb2z)
        have g2 : wr.cell? ⟨ad.block, ad.off + 1, none⟩ = some (.slice A1 (wid ts) c1) := by rw [hbw.cell (by exact hlt)]; exact HG2.out
        have HOWN := Lib.hid hown
        have HBR := Lib.hid hbr
        have HBW := Lib.hid hbw
        clear hown hbr hbw
        by_cases hkn : k < wid ts
        · have hi1 : (k : Int) < (wid ts : Int) := by omega
          go_wp2_with fail
          go_loopw [11, 10] (fun ii al W => ∃ i : Nat, i ≤ L.length ∧ ii = .int .i64 i ∧ al = .bool ((L.take i).all (fun own => hasL own k)) ∧ wr = W) (fun ii _ _ => L.length - (intOf ii).toNat)
          case atStart => exact ⟨0, Nat.zero_le _, rfl, rfl, rfl⟩
          case round =>
            obtain ⟨i, hi, rfl, rfl, rfl⟩ := hrel
            by_cases hin : i < L.length
            · have hi2 : (i : Int) < (L.length : Int) := by omega
              have hi3 : (0 : Int) ≤ (i : Int) := by omega
              obtain ⟨gl, cl, hcell, hrl⟩ := HEL.out i hin
              have hcell2 : wr.cell? (aS.add i) = some (.slice (some ⟨gl, 0, none⟩) L[i].length cl) := by rw [HBR.out.cell (by rw [block_of_add]; exact hgS)]; exact hcell
              have HRL := Lib.hid (hrl.below steady_FltM HBR.out)
              have HAL := Lib.hid (allL_take_succ hin (fun own => hasL own k))
              have hol := (HOK.out _ (List.getElem_mem hin)).2.2
              obtain ⟨own, ho⟩ : ∃ own, own = L[i] := ⟨_, rfl⟩
              rw [← ho] at hcell2 HRL HAL hol
              clear hcell hrl ho
              obtain ⟨al, hal⟩ : ∃ al, al = (L.take i).all (fun own => hasL own k) := ⟨_, rfl⟩
              rw [← hal] at HAL ⊢
              clear hal
              go_wp2_with fail
              go_loopw [13, 12] (fun jj sm W => ∃ j : Nat, j ≤ own.length ∧ jj = .int .i64 j ∧ sm = .bool ((own.take j).any (fun f => f.lever == (k : Int))) ∧ wr = W) (fun jj _ _ => own.length - (intOf jj).toNat)
              case atStart => exact ⟨0, Nat.zero_le _, rfl, rfl, rfl⟩
              case round =>
                obtain ⟨j, hj, rfl, rfl, rfl⟩ := hrel
                by_cases hjn : j < own.length
                · have hj2 : (j : Int) < (own.length : Int) := by omega
                  have hj3 : (0 : Int) ≤ (j : Int) := by omega
                  obtain ⟨hjl, hgl, q1, q2⟩ := lever_at HRL.out hjn
                  have HAN := Lib.hid (any_take_succ hjl (fun f => f.lever == (k : Int)))
                  rcases hsm : (own.take j).any (fun f => f.lever == (k : Int)) with _ | _
                  · rcases hlv : (own[j].lever == (k : Int)) with _ | _
                    all_goals
                      have H1 := Lib.hid hsm
                      have H2 := Lib.hid hlv
                      clear hsm
                      go_wp2
                      go_roundw
                      case rel => exact ⟨j + 1, by omega, by go_num, by rw [HAN.out, H1.out, H2.out]; rfl, by simp⟩
                      case measure => simp [intOf]; omega
                  · have H1 := Lib.hid hsm
                    clear hsm
                    go_wp2
                    go_roundw
                    case rel => exact ⟨j + 1, by omega, by go_num, by rw [HAN.out, H1.out]; rfl, by simp⟩
                    case measure => simp [intOf]; omega
                · have hje : (own.take j).any (fun f => f.lever == (k : Int)) = hasL own k := by rw [List.take_of_length_le (by omega)]; rfl
                  rcases hal : al with _ | _
                  · have H1 := Lib.hid hal
                    have H2 := Lib.hid hje
                    clear hje
                    subst hal
                    go_wp2
                    go_roundw
                    case rel => exact ⟨i + 1, by omega, by go_num, by rw [HAL.out]; rfl, by simp⟩
                    case measure => simp [intOf]; omega
                  · have H2 := Lib.hid hje
                    clear hje
                    subst hal
                    go_wp2
                    go_roundw
                    case rel => exact ⟨i + 1, by omega, by go_num, by rw [HAL.out, ← H2.out]; rfl, by simp⟩
                    case measure => simp [intOf]; omega
            · have hie : (L.take i).all (fun own => hasL own k) = L.all (fun own => hasL own k) := by rw [List.take_of_length_le (by omega)]
              rw [hie]
              clear hie
              have HSS := Lib.hid (sus_succ L k)
              have hsl := sus_len L k
              have hrz := HBR.out.size
              rcases hal : L.all (fun own => hasL own k) with _ | _
              · have H1 := Lib.hid hal; clear hal
                go_wp2
                go_roundw
                case rel => exact ⟨k + 1, by omega, by go_num, by rw [HSS.out, H1.out]; simpa using HOWN.out, HBR.out⟩
                case measure => simp [intOf]; omega
              · have H1 := Lib.hid hal; clear hal
                have hba : Below w2.heap.size w2 (wr.alloc (.cells #[.int .i64 (k : Int)] 2)) := HBR.out.alloc hrz _
                have hoa := HOWN.out.below ((Below.refl wr.heap.size wr).alloc (Nat.le_refl _) (.cells #[.int .i64 (k : Int)] 2))
                have HOA := Lib.hid hoa; clear hoa
                go_wp2_with (at_builtin; refine app1I rfl _ _ rfl w2.heap.size _ (sus L k) rfl HOA.out wr.heap.size (k : Int) rfl (heap_alloc_new _ _) (by omega) (by simp; omega) ?_; intro v5 w6 hown5 hg5 hv5)
                have hbf := hba.grown hg5 (by simp; omega) (fun k hk => (own_lt HOA.out k hk).1)
                have HOF := Lib.hid hown5; clear hown5
                have HBF := Lib.hid hbf; clear hbf
                go_roundw
                case rel => exact ⟨k + 1, by omega, by go_num, by rw [HSS.out, H1.out]; exact HOF.out, HBF.out⟩
                case measure => simp [intOf]; omega
        · have HK : Hid (k = wid ts) := by simp only [Hid]; omega
          have HOF : Hid (∀ u v ds, OwnI wr w2.heap.size (.slice u v ds) (sus L k) → OwnI wr w.heap.size (.slice u v ds) (slist ts fn)) := by
            intro u v ds h
            rw [HS2.out, if_neg HNE.out, ← HK.out]
            exact h.mono hb2z
          obtain ⟨AO, cO, rfl, -⟩ := HOWN.out.reads
          go_wp2
          refine bodyPost_ret (v := .tuple #[.slice AO (sus L k).length cO, .int .i64 0]) (by simp [results, Try.results22, go_sem]) rfl ⟨_, by rw [HS1.out, if_neg HNE.out], HOF.out _ _ _ HOWN.out, HBW.out⟩
  · have HF1 := Lib.hid (show scode ts f = bcode ts f by unfold scode; rw [if_neg h0])
    have HF2 := Lib.hid (show slist ts f = [] by unfold slist; rw [if_neg h0])
    have hne : (bcode ts f != 0) = true := by simpa using h0
    have H0 := Lib.hid h0; clear h0
    go_enter Try.func22, Try.ntmps22
    go_wp2_with (go_at_call 32; refine KC.out.mono ?_; rintro e w1 ⟨rfl, hw1⟩)
    refine bodyPost_ret (v := .tuple #[.slice none 0 0, .int .i64 (bcode ts f)]) (by simp [results, Try.results22, go_sem]) rfl ⟨_, by rw [HF1.out], by rw [HF2.out]; exact OwnI.nil _ _, hw1⟩
end Go.Proofs.Ytmnegfhigfipbaa
