import Derived.Test.YtmnegfhigfipbaaK1
import Derived.Test.YtmnegfhigfipbaaG9
namespace Go.Proofs.Ytmnegfhigfipbaa
open Go.RowKit Go.Sort
/-- a list of faults in an own row -/
def OwnF (w : World) (base : Nat) (v : Value) (fs : List Flt) : Prop := w.ownsRow base 41 2 v fs.length (fcells fs)
theorem OwnF.nil (w : World) (base : Nat) : OwnF w base (.slice none 0 0) [] := ⟨rfl, .inl ⟨rfl, rfl⟩⟩
theorem OwnF.below {w w' : World} {base : Nat} {v : Value} {fs : List Flt} (h : OwnF w base v fs) (hb : Below w.heap.size w w') : OwnF w' base v fs := row_below h hb
theorem OwnF.reads {w : World} {base : Nat} {v : Value} {fs : List Flt} (h : OwnF w base v fs) : ∃ A c, v = .slice A fs.length c ∧ RL FltM 2 w A fs.length fs := by
  rcases h.2 with ⟨rfl, hn⟩ | ⟨g, cap, cur, rfl, hb, hg, -⟩
  · exact ⟨none, 0, by rw [hn], rfl, fun h => by omega⟩
  · refine ⟨_, cap, rfl, rfl, fun hn => ⟨_, rfl, (Array.getElem?_eq_some_iff.1 hg).1, fun k hk => ?_⟩⟩
    obtain ⟨e1, e2⟩ := fcells_get fs k hk
    have f1 := World.ownsRow.cells h (g := g) rfl _ _ e1
    have f2 := World.ownsRow.cells h (g := g) rfl _ _ e2
    rw [add_zero_block] at f1 f2 ⊢
    exact ⟨f1, f2⟩
def cellsI (fs : List Flt) : List Int := fs.flatMap (fun f => [f.kind, f.lever])
theorem fcells_ints (fs : List Flt) : fcells fs = (cellsI fs).map (Value.int .i64) := by
  induction fs with
  | nil => rfl
  | cons f fs ih => simp only [fcells, cellsI, List.flatMap_cons, List.map_append, List.map_cons, List.map_nil] at ih ⊢; rw [ih]
theorem cellsI_len (fs : List Flt) : (cellsI fs).length = fs.length * 2 := by
  have h := fcells_len fs
  rw [fcells_ints, List.length_map] at h
  exact h
set_option maxHeartbeats 800000 in
theorem eqLeverFault_same (x y : Int) (w : World) :
    Calls Try.prog 52 #[.agg #[.int .i64 x, .int .i64 y], .agg #[.int .i64 x, .int .i64 y]] w fun e w' => e = .returned (.bool true) ∧ Below w.heap.size w w' := by
  go_enter Try.func52, Try.ntmps52
  go_wp2
  go_ret
  exact ⟨rfl, by first | exact Below.refl _ _ | exact ((Below.refl _ _).alloc (Nat.le_refl _) _).alloc (by simp) _⟩
set_option maxRecDepth 100000 in
set_option maxHeartbeats 1600000 in
theorem eqLeverFaultS_same (A B : Option Addr) (n c d : Nat) (fs : List Flt) (w : World) (hr : RL FltM 2 w A n fs) (hq : RL FltM 2 w B n fs) (hm : n ≤ 1048576) :
    Calls Try.prog 28 #[.slice A n c, .slice B n d] w fun e w' => e = .returned (.bool true) ∧ Below w.heap.size w w' := by
  have HL := Lib.hid hr.1
  go_enter Try.func28, Try.ntmps28
  go_wp2
  go_loopw [5] (fun i wr => ∃ k : Nat, k ≤ n ∧ i = .int .i64 k ∧ Below w.heap.size w wr) (fun i _ => n - (intOf i).toNat)
  case atStart => exact ⟨0, Nat.zero_le _, rfl, Below.refl _ _⟩
  case round =>
    obtain ⟨k, hk, rfl, hbr⟩ := hrel
    by_cases hkn : k < n
    · obtain ⟨ad, hA, hlt, hkl, g1, g2⟩ := (hr.below steady_FltM hbr).at_ hkn
      obtain ⟨ad2, hB, hlt2, hkl2, q1, q2⟩ := (hq.below steady_FltM hbr).at_ hkn
      have hi0 : (0 : Int) ≤ (k : Int) := by omega
      have hi1 : (k : Int) < (n : Int) := by omega
      have KT := Lib.hid (fun W => eqLeverFault_same fs[k].kind fs[k].lever W)
      subst hA; subst hB
      go_wp2_with fail
      go_region_with (go_at_call 52; refine (KT.out _).mono ?_; rintro e w1 ⟨rfl, hw1⟩)
      all_goals
        have hbz : Below w.heap.size w w1 := hbr.drew.trans (hw1.mono hbr.size)
        have HB := Lib.hid hbz; clear hbz
        go_wp2
        go_roundw
        case rel => exact ⟨k + 1, by omega, by go_num, HB.out⟩
        case measure => simp [intOf]; omega
    · go_wp2
      go_ret
      exact ⟨rfl, hbr⟩
/-- the cells of a marked list of faults -/
def MarkF (w : World) (base : Nat) (v : Value) (n : Nat) (k : Int) : Prop := w.ownsRow base 41 2 v n ((upto k (n * 2)).map (Value.int .i64))
set_option maxHeartbeats 1600000 in
theorem markLeverFaultS_any (base : Nat) (A : Option Addr) (n c : Nat) (fs : List Flt) (k : Int) (w : World) (ho : OwnF w base (.slice A n c) fs) (hl : fs.length = n) (h0 : 0 ≤ k) (hk : k + n * 2 ≤ 4611686018427387904) :
    Calls Try.prog 29 #[.slice A n c, .int .i64 k] w fun e w' => e = .returned (.int .i64 (k + n * 2)) ∧ Marks (fun b => (Value.slice A n c).ownBlock = some b) w w' ∧ MarkF w' base (.slice A n c) n k := by
  have HL := Lib.hid hl
  rcases ho.2 with ⟨hv, hn⟩ | ⟨g, cap, cur, hv, hb, hg, rest⟩
  · injection hv with e1 e2 e3
    subst e1; subst e3
    have hn0 : n = 0 := by rw [← hl]; exact hn
    subst hn0
    go_enter Try.func29, Try.ntmps29
    go_wp2
    go_loopw [5, 1] (fun i kk wr => i = .int .i64 0 ∧ kk = .int .i64 k ∧ w = wr) (fun _ _ _ => 0)
    case atStart => exact ⟨rfl, rfl, rfl⟩
    case round =>
      obtain ⟨rfl, rfl, rfl⟩ := hrel
      clear ho hl
      go_wp2
      go_ret
      exact ⟨ret_int (by simp), .refl _, ⟨by simp [upto], .inl ⟨rfl, rfl⟩⟩⟩
  · injection hv with e1 e2 e3
    subst e1; subst e3
    clear hg rest
    have hlc : (cellsI fs).length = n * 2 := by rw [cellsI_len, hl]
    have HLC := Lib.hid hlc
    have hstart : w.ownsRow base 41 2 (.slice (some ⟨g, 0, none⟩) n c) n ((marked k (cellsI fs) 0).map (Value.int .i64)) := by
      have h := ho
      unfold OwnF at h
      rw [hl, fcells_ints] at h
      simpa [marked, upto] using h
    have HO := Lib.hid hstart
    clear hstart hl ho hlc
    go_enter Try.func29, Try.ntmps29
    go_wp2
    go_loopw [5, 1] (fun i kk wr => ∃ j : Nat, j ≤ n ∧ i = .int .i64 j ∧ kk = .int .i64 (k + j * 2) ∧ wr.ownsRow base 41 2 (.slice (some ⟨g, 0, none⟩) n c) n ((marked k (cellsI fs) (j * 2)).map (Value.int .i64)) ∧ Marks (fun b => (some g : Option Nat) = some b) w wr) (fun i _ _ => n - (intOf i).toNat)
    case atStart => exact ⟨0, Nat.zero_le _, rfl, by simp, HO.out, .refl _⟩
    case round =>
      obtain ⟨j, hj, rfl, rfl, hown, hmk⟩ := hrel
      by_cases hjn : j < n
      · have hi0 : (0 : Int) ≤ (j : Int) := by omega
        have hi1 : (j : Int) < (n : Int) := by omega
        have hlc := HLC.out
        obtain ⟨u, hu⟩ : ∃ u, wr.cell? ⟨g, j * 2, none⟩ = some u := ⟨_, (World.ownsRow.cellAt hown (j * 2) (by omega)).trans (List.getElem?_eq_getElem (by rw [hown.1]; omega))⟩
        obtain ⟨u', hu'⟩ : ∃ u, wr.cell? ⟨g, j * 2 + 1, none⟩ = some u := ⟨_, (World.ownsRow.cellAt hown (j * 2 + 1) (by omega)).trans (List.getElem?_eq_getElem (by rw [hown.1]; omega))⟩
        have hfz := World.ownsRow.frozenAt hown (j * 2)
        have hfz' := World.ownsRow.frozenAt hown (j * 2 + 1)
        have hst := (World.ownsRow.stored hown (j * 2) (.int .i64 (k + j * 2))).1
        have e1 := marked_set k (cellsI fs) (j := j * 2) (by omega)
        have e2 := marked_set k (cellsI fs) (j := j * 2 + 1) (by omega)
        rw [show ((j * 2 : Nat) : Int) = (j : Int) * 2 by omega] at e1
        rw [show ((j * 2 + 1 : Nat) : Int) = (j : Int) * 2 + 1 by omega, ← Int.add_assoc] at e2
        rw [map_set_int, e1] at hst
        have hst2 := (World.ownsRow.stored hst (j * 2 + 1) (.int .i64 (k + j * 2 + 1))).1
        rw [map_set_int, e2] at hst2
        have HST := Lib.hid hst2
        have HMK := Lib.hid ((hmk.step (P := fun b => (some g : Option Nat) = some b) rfl (j * 2) (k + j * 2)).step rfl (j * 2 + 1) (k + j * 2 + 1))
        clear hst hst2 hown hmk e1 e2 hlc
        go_wp2
        go_roundw
        case rel => exact ⟨j + 1, by omega, by go_num, by congr 1; omega, by rw [show (j + 1) * 2 = j * 2 + 1 + 1 by omega]; exact HST.out, HMK.out⟩
        case measure => simp [intOf]; omega
      · have HJ : Hid (j = n) := by simp only [Hid]; omega
        have HM : Hid (marked k (cellsI fs) (j * 2) = upto k (n * 2)) := by
          simp only [Hid]
          rw [HJ.out]
          simp [marked, List.drop_eq_nil_of_le (Nat.le_of_eq HLC.out)]
        have HOWN := Lib.hid hown
        have HMK := Lib.hid hmk
        clear hown hmk
        go_wp2
        go_ret
        exact ⟨ret_int (by rw [HJ.out]), HMK.out, by unfold MarkF; rw [← HM.out]; exact HOWN.out⟩
set_option maxHeartbeats 1600000 in
theorem heldLeverFaultS_any (base : Nat) (A : Option Addr) (n c : Nat) (k : Int) (w : World) (hr : MarkF w base (.slice A n c) n k) (h0 : 0 ≤ k) (hk : k + n * 2 ≤ 4611686018427387904) :
    Calls Try.prog 30 #[.slice A n c, .int .i64 k] w fun e w' => e = .returned (.int .i64 (k + n * 2)) ∧ w = w' := by
  have HR := Lib.hid hr; clear hr
  go_enter Try.func30, Try.ntmps30
  go_wp2
  go_loopw [5, 1] (fun i kk wr => ∃ j : Nat, j ≤ n ∧ i = .int .i64 j ∧ kk = .int .i64 (k + j * 2) ∧ w = wr) (fun i _ _ => n - (intOf i).toNat)
  case atStart => exact ⟨0, Nat.zero_le _, rfl, by simp, rfl⟩
  case round =>
    obtain ⟨j, hj, rfl, rfl, rfl⟩ := hrel
    by_cases hjn : j < n
    · obtain ⟨g, hA⟩ : ∃ g, A = some ⟨g, 0, none⟩ := by
        rcases HR.out.2 with ⟨-, hn⟩ | ⟨g, cap, cur, hv, -⟩
        · omega
        · injection hv with e1; exact ⟨g, e1⟩
      subst hA
      have c1 : w.cell? ⟨g, j * 2, none⟩ = some (.int .i64 (k + j * 2)) := by
        rw [World.ownsRow.cellAt HR.out (j * 2) (by omega), List.getElem?_map, upto_get k (show j * 2 < n * 2 by omega)]
        simp
      have c2 : w.cell? ⟨g, j * 2 + 1, none⟩ = some (.int .i64 (k + j * 2 + 1)) := by
        rw [World.ownsRow.cellAt HR.out (j * 2 + 1) (by omega), List.getElem?_map, upto_get k (show j * 2 + 1 < n * 2 by omega)]
        simp; omega
      have hi0 : (0 : Int) ≤ (j : Int) := by omega
      have hi1 : (j : Int) < (n : Int) := by omega
      go_wp2
      go_roundw
      case rel => exact ⟨j + 1, by omega, by go_num, by congr 1; omega, by simp⟩
      case measure => simp [intOf]; omega
    · have HJ : Hid (j = n) := by simp only [Hid]; omega
      go_wp2
      go_ret
      exact ⟨ret_int (by rw [HJ.out]), rfl⟩
end Go.Proofs.Ytmnegfhigfipbaa
