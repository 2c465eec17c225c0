import Derived.Test.YtcngeifkddhkmaaDoorR3
namespace Go.Proofs.YtcngeifkddhkmaaDoor
open Go.RowKit
/-- 'left - n', or -1 -/
def lft (left n : Int) : Int := if left - n < 0 then -1 else left - n
theorem lft_bd (left n : Int) (h : -1 ≤ left) (hn : 0 ≤ n) : -1 ≤ lft left n ∧ lft left n ≤ left := by unfold lft; split <;> omega
theorem take_eq_of_succ {ds es : List Int} {k : Nat} (h : ds.take k = es.take k) (h1 : k < ds.length) (h2 : k < es.length) (h3 : ds[k] = es[k]) : ds.take (k + 1) = es.take (k + 1) := by
  rw [List.take_succ_eq_append_getElem h1, List.take_succ_eq_append_getElem h2, h, h3]
set_option maxHeartbeats 400000 in
theorem eqInt64S_any (A B : Option Addr) (n c m d : Nat) (ds es : List Int) (w : World) (hr : RI w A n ds) (hs : RI w B m es) (hm : n ≤ 9223372036854775807) (hm2 : m ≤ 9223372036854775807) :
    Calls Tryd.prog 203 #[.slice A n c, .slice B m d] w fun e w' => e = .returned (.bool (decide (ds = es))) ∧ ∃ q, w' = w.drewN q := by
  have HL := Lib.hid hr.1
  have HM := Lib.hid hs.1
  by_cases hnm : n = m
  · subst hnm
    go_enter Tryd.func203, Tryd.ntmps203
    go_wp2
    go_loopw [5] (fun i wr => ∃ k : Nat, k ≤ n ∧ i = .int .i64 k ∧ ds.take k = es.take k ∧ ∃ q, wr = w.drewN q) (fun i _ => n - (intOf i).toNat)
    case atStart => exact ⟨0, Nat.zero_le _, rfl, by simp, 0, rfl⟩
    case round =>
      obtain ⟨k, hk, rfl, hdg, q, rfl⟩ := hrel
      have HD := Lib.hid hdg; clear hdg
      by_cases hkn : k < n
      · obtain ⟨ad, hA, hlt, hkl, hc⟩ := hr.at_ hkn
        obtain ⟨ad2, hB, hlt2, hkl2, hc2⟩ := hs.at_ hkn
        subst hA; subst hB
        have hi0 : (0 : Int) ≤ (k : Int) := by omega
        have hi1 : (k : Int) < (n : Int) := by omega
        rcases hd : (ds[k] != es[k]) with _ | _
        · go_wp2
          go_quiet (fail)
          go_wp2
          have he : ds[k] = es[k] := by simpa using hd
          have HE := Lib.hid he; clear he
          go_roundw
          case rel => exact ⟨k + 1, by omega, by go_num, take_eq_of_succ HD.out hkl hkl2 HE.out, by first | exact ⟨_, rfl⟩ | exact ⟨_, World.drewN_drewN _ _ _⟩⟩
          case measure => simp [intOf]; omega
        · go_wp2
          go_quiet (fail)
          go_wp2
          go_ret
          refine ⟨ret_bool ?_, by first | exact ⟨_, rfl⟩ | exact ⟨_, World.drewN_drewN _ _ _⟩⟩
          have : ds ≠ es := by rintro rfl; simp at hd
          simp [this]
      · have HF : Hid (ds = es) := by
          have := HD.out
          rwa [List.take_of_length_le (by have := HL.out; omega), List.take_of_length_le (by have := HM.out; omega)] at this
        go_wp2
        go_ret
        exact ⟨ret_bool (by simp [HF.out]), q, rfl⟩
  · have HF : Hid (ds ≠ es) := by rintro rfl; exact hnm (hr.1.symm.trans hs.1)
    go_enter Tryd.func203, Tryd.ntmps203
    go_wp2
    go_ret
    exact ⟨ret_bool (by simp [HF.out]), 0, rfl⟩
theorem bcellB {B : Nat} {W w1 : World} (hb : Below B W w1) : (∀ b o, b < B → w1.cell? ⟨b, o, none⟩ = W.cell? ⟨b, o, none⟩) ∧ (∀ b o, b < B → w1.frozen? ⟨b, o, none⟩ = W.frozen? ⟨b, o, none⟩) :=
  ⟨fun b o h => hb.cell (p := ⟨b, o, none⟩) h, fun b o h => hb.frozen (p := ⟨b, o, none⟩) h⟩
theorem bcell {W w1 : World} (hb : Below W.heap.size W w1) : (∀ b o, b < W.heap.size → w1.cell? ⟨b, o, none⟩ = W.cell? ⟨b, o, none⟩) ∧ (∀ b o, b < W.heap.size → w1.frozen? ⟨b, o, none⟩ = W.frozen? ⟨b, o, none⟩) :=
  ⟨fun b o h => hb.cell (p := ⟨b, o, none⟩) h, fun b o h => hb.frozen (p := ⟨b, o, none⟩) h⟩
theorem OwnI.setBelow {w : World} {base : Nat} {v : Value} {ds : List Int} (h : OwnI w base v ds) {a : Addr} (ha : a.block < base) (u : Value) : OwnI (w.setCell a u) base v ds := ownsRow_setCell_below h ha u
theorem set_fill (xs : List Value) (n k : Nat) (z u : Value) (h : k < n) (hl : xs.length = k) : (xs ++ List.replicate (n - k) z).set k u = (xs ++ [u]) ++ List.replicate (n - (k + 1)) z := by
  obtain ⟨m, hm⟩ : ∃ m, n - k = m + 1 := ⟨n - k - 1, by omega⟩
  rw [List.set_append_right _ _ (by omega), hm, hl, Nat.sub_self, List.replicate_succ, List.set_cons_zero, show n - (k + 1) = m by omega]; simp
theorem madeI (n : Nat) : (madeCells (Value.int .i64 0).cells (n * 1)).toList = List.replicate n (.int .i64 0) := by
  rw [Nat.mul_one]; exact toList_madeCells_one _ n
set_option maxHeartbeats 400000 in
theorem eqRegister_any (b b' : Int) (A B : Option Addr) (n c m d : Nat) (ds es : List Int) (w : World) (hr : RI w A n ds) (hs : RI w B m es) (hm : n ≤ 9223372036854775807) (hm2 : m ≤ 9223372036854775807) :
    Calls Tryd.prog 148 #[.agg #[.int .i64 b, .slice A n c], .agg #[.int .i64 b', .slice B m d]] w fun e w' => e = .returned (.bool (decide (b = b' ∧ ds = es))) ∧ Below w.heap.size w w' := by
  have hb0 : Below w.heap.size w ((w.alloc (.cells #[.int .i64 b, .slice A n c] 26)).alloc (.cells #[.int .i64 b', .slice B m d] 26)) := ((Below.refl _ _).alloc (Nat.le_refl _) _).alloc (by simp) _
  have hr' := hr.below hb0
  have hs' := hs.below hb0
  rcases hd : (b != b') with _ | _
  · have HF : Hid (decide (b = b' ∧ ds = es) = decide (ds = es)) := by
      have : b = b' := by simpa using hd
      simp [Hid, this]
    go_enter Tryd.func148, Tryd.ntmps148
    go_wp2_with (go_at_call 203; refine (eqInt64S_any _ _ _ _ _ _ ds es _ hr' hs' hm hm2).mono ?_; rintro e w' ⟨rfl, q, rfl⟩; rcases he : decide (ds = es) with _ | _)
    all_goals
      go_ret
      exact ⟨ret_bool (by rw [HF.out, he]), below_drewN hb0 _⟩
  · have HF : Hid (decide (b = b' ∧ ds = es) = false) := by
      have : b ≠ b' := by simpa using hd
      simp [Hid, this]
    go_enter Tryd.func148, Tryd.ntmps148
    go_wp2
    go_ret
    exact ⟨ret_bool HF.out.symm, hb0⟩
end Go.Proofs.YtcngeifkddhkmaaDoor
