import Derived.Test.YtmnegfhigfipbaaW10
namespace Go.Proofs.Ytmnegfhigfipbaa
open Go.RowKit Go.Sort
set_option maxRecDepth 100000 in
set_option maxHeartbeats 3200000 in
theorem WrongTrials_any (A : Option Addr) (n c : Nat) (ts : List Tri) (w : World) (hr : RL TriM 7 w A n ts) (hs : ∀ t ∈ ts, SmallTri t) (hv : vtrials ts = true) (hT : ∀ t ∈ ts, TOK t) (hn : n ≤ 1000) :
    Calls Try.prog 19 #[.slice A n c] w fun e w' => ∃ A' c' ds, e = .returned (.tuple #[.slice A' ds.length c', .int .i64 0]) ∧ OwnI w' w.heap.size (.slice A' ds.length c') ds ∧ (ds.length = 0 ↔ vexpl ts [] = true) ∧ Below w.heap.size w w' := by
  have KV := Lib.hid (calls_val (ValidTrials_any A n c ts w hr hs (by omega)) (congrArg Value.bool hv))
  have HL := Lib.hid hr.1
  have HT := Lib.hid hT
  clear hv hT hs
  go_enter Try.func19, Try.ntmps19
  go_wp2_with (go_at_call 43; refine KV.out.mono ?_; rintro e w1 ⟨rfl, hw1⟩)
  have hz1 := hw1.size
  go_loopw [13, 4] (fun kk out wr => ∃ (k : Nat) (ds : List Int), k ≤ n ∧ kk = .int .i64 k ∧ OwnI wr w.heap.size out ds ∧ ds.length ≤ k ∧ (ds.length = 0 ↔ (ts.take k).all (fun t => expl t []) = true) ∧ Below w.heap.size w wr) (fun kk _ _ => n - (intOf kk).toNat)
  case atStart => exact ⟨0, [], Nat.zero_le _, rfl, own_lit (n := 0) (heap_alloc_new _ _) hz1 rfl (by decide), Nat.le_refl _, by simp, hw1.alloc hz1 _⟩
  case round =>
    obtain ⟨k, ds, hk, rfl, hown, hdl, hiff, hbr⟩ := hrel
    have HO := Lib.hid hown
    have HI := Lib.hid hiff
    have HBR := Lib.hid hbr
    have hwz := hbr.size
    clear hown hiff hbr
    by_cases hkn : k < n
    · obtain ⟨ad, hA, hlt, hkl, htk⟩ := (hr.below steady_TriM HBR.out).at_ hkn
      obtain ⟨A1, c1, A2, c2, A3, c3, ⟨g1, g2, g3, g4, g5, g6, g7⟩, r1, r2, r3⟩ := htk.cells
      have hi0 : (0 : Int) ≤ (k : Int) := by omega
      have hi1 : (k : Int) < (n : Int) := by omega
      have hb1 : Below wr.heap.size wr (wr.alloc (.cells #[.int .i64 ts[k].a.base, .slice A1 ts[k].a.digits.length c1, .int .i64 ts[k].b.base, .slice A2 ts[k].b.digits.length c2, .int .i64 ts[k].s.base, .slice A3 ts[k].s.digits.length c3, .int .i64 ts[k].carry] 62)) := (Below.refl _ _).alloc (Nat.le_refl _) _
      have HAS := Lib.hid (all_take_succ (p := fun t => expl t []) hkl)
      have KX := fun W (hW : Below wr.heap.size wr W) => explained_any ts[k] A1 A2 A3 c1 c2 c3 none 0 0 [] W (r1.below hW) (r2.below hW) (r3.below hW) ⟨rfl, fun h => absurd h (by omega)⟩ (HT.out _ (List.getElem_mem _)) (fun f hf => absurd hf List.not_mem_nil) (by omega)
      subst hA
      clear htk r1 r2 r3
      rcases hx : expl ts[k] [] with _ | _
      all_goals
        rw [hx] at KX
        have HX := Lib.hid hx
        have KX := Lib.hid KX
        clear hx
        go_wp2_with fail
        refine (KX.out _ hb1).mono ?_; rintro e w3 ⟨rfl, hw3⟩
        have hz3 : wr.heap.size ≤ w3.heap.size := by have := hw3.size; have := hb1.size; omega
        have hb3 : Below wr.heap.size wr w3 := hb1.trans (hw3.mono hb1.size)
        have HB3 := Lib.hid hb3
        have HO3 := Lib.hid (HO.out.below hb3)
        have HBR3 := Lib.hid (HBR.out.trans (hb3.mono hwz))
        clear hw3 hb3
      · have HOB := Lib.hid (HO3.out.below ((Below.refl _ _).alloc (Nat.le_refl _) (.cells #[.int .i64 (k : Int)] 2)))
        have hbb := HBR3.out.alloc (by omega) (.cells #[.int .i64 (k : Int)] 2)
        go_wp2_with (at_builtin; refine app1I rfl _ _ rfl w.heap.size _ ds rfl HOB.out w3.heap.size (k : Int) rfl (heap_alloc_new _ _) (by omega) (by simp; omega) ?_; intro v5 w6 hown5 hg5 hv5)
        have hbf := hbb.grown hg5 (by simp; omega) (ownI_lo HOB.out)
        have HOF := Lib.hid hown5; clear hown5
        have HBF := Lib.hid hbf; clear hbf
        go_roundw
        case rel => exact ⟨k + 1, ds ++ [(k : Int)], by omega, by go_num, HOF.out, by rw [List.length_append, List.length_cons, List.length_nil]; omega, by rw [HAS.out, HX.out]; simp, HBF.out⟩
        case measure => simp [intOf]; omega
      · go_wp2
        go_roundw
        case rel => exact ⟨k + 1, ds, by omega, by go_num, HO3.out, by omega, by rw [HAS.out, HX.out, Bool.and_true]; exact HI.out, HBR3.out⟩
        case measure => simp [intOf]; omega
    · have HF : Hid (ds.length = 0 ↔ vexpl ts [] = true) := by
        have h := HI.out
        rw [List.take_of_length_le (by have := HL.out; omega)] at h
        exact h
      obtain ⟨AO, cO, rfl, -⟩ := HO.out.reads
      go_wp2
      refine bodyPost_ret (v := .tuple #[.slice AO ds.length cO, .int .i64 0]) (by simp [results, Try.results19, go_sem]) rfl ⟨_, _, ds, rfl, HO.out, HF.out, HBR.out⟩
end Go.Proofs.Ytmnegfhigfipbaa
