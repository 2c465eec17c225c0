import Derived.Test.YtmnegfhigfipbaaG1
namespace Go.Proofs.Ytmnegfhigfipbaa
open Go.RowKit Go.Sort
structure Flt where
  kind : Int
  lever : Int
def FltM (w : World) (p : Addr) (f : Flt) : Prop := w.cell? p = some (.int .i64 f.kind) ∧ w.cell? ⟨p.block, p.off + 1, none⟩ = some (.int .i64 f.lever)
theorem steady_FltM : Steady FltM := by
  rintro w w' p f hp hb ⟨h1, h2⟩
  exact ⟨by rw [hb.cell hp]; exact h1, by rw [hb.cell (by exact hp)]; exact h2⟩
def kindAt (fs : List Flt) (j : Int) : Int := fs.foldl (fun a f => if f.lever = j then f.kind else a) 0
theorem kindAt_succ {fs : List Flt} {k : Nat} (h : k < fs.length) (j : Int) : kindAt (fs.take (k + 1)) j = if fs[k].lever = j then fs[k].kind else kindAt (fs.take k) j := by
  unfold kindAt
  rw [List.take_succ_eq_append_getElem h, List.foldl_append]; rfl
def kindsL (fs : List Flt) (n : Nat) : List Int := (List.range n).map (fun (i : Nat) => kindAt fs (i : Int))
theorem kindsL_set {fs : List Flt} {k n l : Nat} (h : k < fs.length) (hl : fs[k].lever = (l : Int)) : ((kindsL (fs.take k) n).map (Value.int .i64)).set l (.int .i64 fs[k].kind) = (kindsL (fs.take (k + 1)) n).map (Value.int .i64) := by
  apply List.ext_getElem
  · simp [kindsL]
  · intro i h1 h2
    rw [List.getElem_set]
    simp only [kindsL, List.map_map, List.getElem_map, List.getElem_range, Function.comp, kindAt_succ h, hl]
    by_cases g : l = i
    · subst g; simp
    · have : ¬ (l : Int) = (i : Int) := by omega
      rw [if_neg g, if_neg this]
theorem kindsL_nil (n : Nat) : (kindsL [] n).map (Value.int .i64) = List.replicate n (.int .i64 0) := by
  apply List.ext_getElem
  · simp [kindsL]
  · intro i h1 h2; simp [kindsL, kindAt]
def GoodF (n : Nat) (fs : List Flt) : Prop := ∀ f ∈ fs, 1 ≤ f.kind ∧ f.kind ≤ 3 ∧ 0 ≤ f.lever ∧ f.lever < n
set_option maxHeartbeats 800000 in
theorem l08Kinds_any (n : Nat) (A : Option Addr) (m c : Nat) (fs : List Flt) (w : World) (hr : RL FltM 2 w A m fs) (hg : GoodF n fs) (hn : n ≤ 16) (hm : m ≤ 9223372036854775807) :
    Calls Try.prog 91 #[.int .i64 n, .slice A m c] w fun e w' => ∃ A' c', e = .returned (.slice A' n c') ∧ OwnI w' w.heap.size (.slice A' n c') (kindsL fs n) ∧ Below w.heap.size w w' := by
  have HL := Lib.hid hr.1
  obtain ⟨i0, hi, hz0, hz1, hz2⟩ := info_parts info_i64
  go_enter Try.func91, Try.ntmps91
  go_wp2_with (at_make; refine wpList_make_full _ rfl _ _ 37 rfl w.heap.size 2 i0 _ 1 Try.underlying37 hi hz0 hz1 _ _ _ _ n rfl rfl rfl rfl (by rw [hz2]; omega) (by unfold maxLen; omega) (Nat.le_refl _) ?_; intro w1 hown1 hg1)
  rw [madeI] at hown1
  have hb1 : Below w.heap.size w w1 := (Below.refl _ _).grown hg1 (Nat.le_refl _) (by simp)
  clear hg1
  go_loopw [6] (fun i wr => ∃ k : Nat, k ≤ m ∧ i = .int .i64 k ∧ wr.ownsRow w.heap.size 2 1 (.slice (some ⟨w.heap.size, 0, none⟩) n n) n ((kindsL (fs.take k) n).map (Value.int .i64)) ∧ Below w.heap.size w wr) (fun i _ => m - (intOf i).toNat)
  case atStart => exact ⟨0, Nat.zero_le _, rfl, by rw [List.take_zero, kindsL_nil]; exact hown1, hb1⟩
  case round =>
    obtain ⟨k, hk, rfl, hown, hbr⟩ := hrel
    by_cases hkn : k < m
    · obtain ⟨ad, hA, hlt, hkl, f1, f2⟩ := (hr.below steady_FltM hbr).at_ hkn
      obtain ⟨q1, q2, q3, q4⟩ := hg fs[k] (List.getElem_mem _)
      obtain ⟨l, hl⟩ : ∃ l : Nat, fs[k].lever = l := ⟨fs[k].lever.toNat, by omega⟩
      have hln : l < n := by omega
      have hi0 : (0 : Int) ≤ (k : Int) := by omega
      have hi1 : (k : Int) < (m : Int) := by omega
      have hi2 : (0 : Int) ≤ (l : Int) := by omega
      have hi3 : (l : Int) < (n : Int) := by omega
      rw [hl] at f2
      have HE := Lib.hid (kindsL_set (n := n) hkl hl)
      subst hA
      obtain ⟨u, hu⟩ : ∃ u, ((kindsL (fs.take k) n).map (Value.int .i64))[l]? = some u := ⟨_, List.getElem?_eq_getElem (by rw [hown.1]; omega)⟩
      have hcell := (hown.cellAt l (by omega)).trans hu
      clear hu
      have hfz := hown.frozenAt l
      have hst := Lib.hid (fun (W : World) (h : W.ownsRow w.heap.size 2 1 (.slice (some ⟨w.heap.size, 0, none⟩) n n) n ((kindsL (fs.take k) n).map (Value.int .i64))) => (h.stored l (.int .i64 fs[k].kind)).1)
      have HO := Lib.hid hown
      clear hown hl q3 q4
      go_wp2
      go_region
      all_goals
        go_wp2
        go_roundw
        case rel => exact ⟨k + 1, by omega, by go_num, by rw [← HE.out]; exact hst.out _ HO.out.drew, hbr.drew.setCell (Nat.le_refl _) _⟩
        case measure => simp [intOf]; omega
    · have HK : Hid (k = m) := by simp only [Hid]; omega
      go_wp2
      go_ret
      refine ⟨_, _, rfl, ?_, hbr⟩
      rw [HK.out, List.take_of_length_le (by have := HL.out; omega)] at hown
      unfold OwnI
      simpa [kindsL] using hown
end Go.Proofs.Ytmnegfhigfipbaa
