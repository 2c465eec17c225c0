import Derived.Test.YtmnegfhigfipbaaG16
import Derived.Test.YtmnegfhigfipbaaK3
namespace Go.Proofs.Ytmnegfhigfipbaa
open Go.RowKit Go.Sort
/-- the first list that explains the trials, from k faults on -/
def dpick (ts : List Tri) (n0 : Nat) : Nat → Nat → List Flt × Int
  | _, 0 => ([], 3)
  | k, j + 1 => if h : found ts n0 k = [] then dpick ts n0 (k + 1) j else ((found ts n0 k).head h, 0)
def dres (ts : List Tri) : List Flt × Int := if bcode ts 0 = 0 then dpick ts (wid ts) 0 3 else ([], bcode ts 0)
theorem dpick_len (ts : List Tri) (n0 : Nat) : ∀ (j k : Nat), k + j ≤ 3 → (dpick ts n0 k j).1.length ≤ 2
  | 0, _, _ => by simp [dpick]
  | j + 1, k, h => by
    unfold dpick
    split
    · exact dpick_len ts n0 j (k + 1) (by omega)
    · rename_i hne
      exact (found_ok (List.head_mem hne) (show k ≤ 2 by omega)).2.2
theorem dres_len (ts : List Tri) : (dres ts).1.length ≤ 2 := by
  unfold dres
  split
  · exact dpick_len _ _ _ _ (by omega)
  · simp
set_option maxHeartbeats 1600000 in
theorem impl_Diagnose (A : Option Addr) (n c : Nat) (ts : List Tri) (w : World) (hr : RL TriM 7 w A n ts) (hs : ∀ t ∈ ts, SmallTri t) (hm : n ≤ 1048576) :
    Calls Try.prog 15 #[.slice A n c] w fun e w' => ∃ v, e = .returned (.tuple #[v, .int .i64 (dres ts).2]) ∧ OwnF w' w.heap.size v (dres ts).1 ∧ Below w.heap.size w w' := by
  have KC := Lib.hid (blameCode_below A n c ts 0 w hr hs hm)
  by_cases h0 : bcode ts 0 = 0
  · obtain ⟨hT, w1', w6, -, -, n1, n2⟩ := bcode_zero h0 hs
    have HL := Lib.hid hr.1
    have KE := Lib.hid (fun m W (hm : m ≤ 2) (hW : Below w.heap.size w W) => explanations_any A n c ts (wid ts) m W (hr.below steady_TriM hW) hT w1' w6 hm (by have := HL.out; omega) (by have := HL.out; omega))
    have HR := Lib.hid (show dres ts = dpick ts (wid ts) 0 3 by unfold dres; rw [if_pos h0])
    have HFL := Lib.hid (fun (m : Nat) (hm : m ≤ 2) => (show (found ts (wid ts) m).length ≤ 1000 by have h := found_length (vexpl ts) (k := (fsets (wid ts) m).length) w6 hm; rw [List.take_length] at h; exact h))
    have HS := Lib.hid hs; clear hs
    have HT := Lib.hid hT; clear hT
    have H0 := Lib.hid h0; clear h0
    go_enter Try.func15, Try.ntmps15
    go_wp2_with (go_at_call 35; refine KC.out.mono ?_; rintro e w1 ⟨rfl, hw1⟩; rw [H0.out])
    go_loopw [12] (fun ii W => ∃ k : Nat, k ≤ 3 ∧ ii = .int .i64 k ∧ dres ts = dpick ts (wid ts) k (3 - k) ∧ Below w.heap.size w W) (fun ii _ => 3 - (intOf ii).toNat)
    case atStart => exact ⟨0, by omega, rfl, HR.out, hw1⟩
    case round =>
      obtain ⟨k, hk, rfl, hd, hbr⟩ := hrel
      have HD := Lib.hid hd; clear hd
      have HB := Lib.hid hbr; clear hbr
      by_cases hk3 : k < 3
      · have hi1 : (k : Int) < 3 := by omega
        have hi2 : (k : Int) ≤ 2 := by omega
        have hfl := HFL.out k (by omega)
        have KK := Lib.hid (KE.out k wr (by omega) HB.out)
        have HDK := Lib.hid (show dpick ts (wid ts) k (3 - k) = if h : found ts (wid ts) k = [] then dpick ts (wid ts) (k + 1) (3 - (k + 1)) else ((found ts (wid ts) k).head h, 0) by
          obtain ⟨j, hj⟩ : ∃ j, 3 - k = j + 1 := ⟨3 - k - 1, by omega⟩
          rw [hj, dpick, show 3 - (k + 1) = j by omega])
        obtain ⟨L, hL⟩ : ∃ L, L = found ts (wid ts) k := ⟨_, rfl⟩
        have HLE := Lib.hid hL
        rw [← hL] at hfl KK
        clear hL
        go_wp2_with fail
        refine KK.out.mono ?_; rintro e w2 ⟨v, rfl, hS, hw2⟩
        obtain ⟨AS, cS, rfl, -⟩ := hS.reads
        have hz := HB.out.size
        have HB2 := Lib.hid (HB.out.trans (hw2.mono hz))
        rcases Nat.eq_zero_or_pos L.length with hz0 | hz0
        · have HN := Lib.hid (List.eq_nil_of_length_eq_zero hz0)
          have hz' : ¬ (0 : Int) < (L.length : Int) := by omega
          have hz4 : decide (0 < L.length) = false := decide_eq_false (by omega)
          have hz5 : decide ((0 : Int) < (L.length : Int)) = false := decide_eq_false (by omega)
          have HSS := Lib.hid hS; clear hS
          have HZ := Lib.hid hz0; clear hz0
          go_wp2
          go_roundw
          case rel => exact ⟨k + 1, by omega, by go_num, by rw [HD.out, HDK.out, dif_pos (by rw [← HLE.out]; exact HN.out)], HB2.out⟩
          case measure => simp [intOf]; omega
        · have hz' : (0 : Int) < (L.length : Int) := by omega
          obtain ⟨aS, gl, cl, rfl, hbS, hgS, hcell, hin⟩ := hS.elem hz0
          rw [addr_add_zero] at hcell
          obtain ⟨-, -, -, -, -, -, hrow⟩ := hin
          have HNE : Hid (¬ found ts (wid ts) k = []) := by simp only [Hid]; rw [← HLE.out]; rintro rfl; simp at hz0
          have HHD : Hid ((dres ts).1 = L[0] ∧ (dres ts).2 = 0) := by
            simp only [Hid]
            rw [HD.out, HDK.out, dif_neg HNE.out]
            refine ⟨?_, rfl⟩
            simp only [List.head_eq_getElem]
            congr 1
            exact HLE.out.symm
          have HROW := Lib.hid (row_mono hrow hz)
          clear hS hrow
          go_wp2
          refine bodyPost_ret (v := .tuple #[.slice (some ⟨gl, 0, none⟩) L[0].length cl, .int .i64 0]) (by simp [results, Try.results15, go_sem]) rfl ⟨_, by rw [HHD.out.2], by rw [HHD.out.1]; exact HROW.out, HB2.out⟩
      · have HK : Hid (k = 3) := by simp only [Hid]; omega
        have HHD : Hid (dres ts = ([], 3)) := by simp only [Hid]; rw [HD.out, HK.out]; rfl
        have hi3 : ¬ (k : Int) ≤ 2 := by omega
        go_wp2
        refine bodyPost_ret (v := .tuple #[.slice none 0 0, .int .i64 3]) (by simp [results, Try.results15, go_sem]) rfl ⟨_, by rw [HHD.out], by rw [HHD.out]; exact OwnF.nil _ _, HB.out⟩
  · have HF1 := Lib.hid (show dres ts = ([], bcode ts 0) by unfold dres; rw [if_neg h0])
    have hne : (bcode ts 0 != 0) = true := by simpa using h0
    have H0 := Lib.hid h0; clear h0
    go_enter Try.func15, Try.ntmps15
    go_wp2_with (go_at_call 35; refine KC.out.mono ?_; rintro e w1 ⟨rfl, hw1⟩)
    refine bodyPost_ret (v := .tuple #[.slice none 0 0, .int .i64 (bcode ts 0)]) (by simp [results, Try.results15, go_sem]) rfl ⟨_, by rw [HF1.out], by rw [HF1.out]; exact OwnF.nil _ _, hw1⟩
set_option maxHeartbeats 1600000 in
theorem spec_Diagnose (A : Option Addr) (n c : Nat) (ts : List Tri) (w : World) (hr : RL TriM 7 w A n ts) (hs : ∀ t ∈ ts, SmallTri t) (hm : n ≤ 1048576) :
    Calls Try.prog 27 #[.slice A n c] w fun e w' => ∃ v, e = .returned (.tuple #[v, .int .i64 (dres ts).2]) ∧ OwnF w' w.heap.size v (dres ts).1 ∧ Below w.heap.size w w' := by
  have KC := Lib.hid (l20Code_below A n c ts 0 w hr hs hm)
  by_cases h0 : bcode ts 0 = 0
  · obtain ⟨hT, w1', w6, -, -, n1, n2⟩ := bcode_zero h0 hs
    have HL := Lib.hid hr.1
    have KE := Lib.hid (fun m W (hm : m ≤ 2) (hW : Below w.heap.size w W) => l20Found_any A n c ts (wid ts) m W (hr.below steady_TriM hW) hT w1' w6 hm (by have := HL.out; omega) (by have := HL.out; omega))
    have HR := Lib.hid (show dres ts = dpick ts (wid ts) 0 3 by unfold dres; rw [if_pos h0])
    have HFL := Lib.hid (fun (m : Nat) (hm : m ≤ 2) => (show (found ts (wid ts) m).length ≤ 1000 by have h := found_length (vexpl ts) (k := (fsets (wid ts) m).length) w6 hm; rw [List.take_length] at h; exact h))
    have HS := Lib.hid hs; clear hs
    have HT := Lib.hid hT; clear hT
    have H0 := Lib.hid h0; clear h0
    go_enter Try.func27, Try.ntmps27
    go_wp2_with (go_at_call 32; refine KC.out.mono ?_; rintro e w1 ⟨rfl, hw1⟩; rw [H0.out])
    go_loopw [5] (fun ii W => ∃ k : Nat, k ≤ 3 ∧ ii = .int .i64 k ∧ dres ts = dpick ts (wid ts) k (3 - k) ∧ Below w.heap.size w W) (fun ii _ => 3 - (intOf ii).toNat)
    case atStart => exact ⟨0, by omega, rfl, HR.out, hw1⟩
    case round =>
      obtain ⟨k, hk, rfl, hd, hbr⟩ := hrel
      have HD := Lib.hid hd; clear hd
      have HB := Lib.hid hbr; clear hbr
      by_cases hk3 : k < 3
      · have hi1 : (k : Int) < 3 := by omega
        have hi2 : (k : Int) ≤ 2 := by omega
        have hfl := HFL.out k (by omega)
        have KK := Lib.hid (KE.out k wr (by omega) HB.out)
        have HDK := Lib.hid (show dpick ts (wid ts) k (3 - k) = if h : found ts (wid ts) k = [] then dpick ts (wid ts) (k + 1) (3 - (k + 1)) else ((found ts (wid ts) k).head h, 0) by
          obtain ⟨j, hj⟩ : ∃ j, 3 - k = j + 1 := ⟨3 - k - 1, by omega⟩
          rw [hj, dpick, show 3 - (k + 1) = j by omega])
        obtain ⟨L, hL⟩ : ∃ L, L = found ts (wid ts) k := ⟨_, rfl⟩
        have HLE := Lib.hid hL
        rw [← hL] at hfl KK
        clear hL
        go_wp2_with fail
        refine KK.out.mono ?_; rintro e w2 ⟨v, rfl, hS, hw2⟩
        obtain ⟨AS, cS, rfl, -⟩ := hS.reads
        have hz := HB.out.size
        have HB2 := Lib.hid (HB.out.trans (hw2.mono hz))
        rcases Nat.eq_zero_or_pos L.length with hz0 | hz0
        · have HN := Lib.hid (List.eq_nil_of_length_eq_zero hz0)
          have hz' : ¬ (0 : Int) < (L.length : Int) := by omega
          have hz4 : decide (0 < L.length) = false := decide_eq_false (by omega)
          have hz5 : decide ((0 : Int) < (L.length : Int)) = false := decide_eq_false (by omega)
          have HSS := Lib.hid hS; clear hS
          have HZ := Lib.hid hz0; clear hz0
          go_wp2
          go_roundw
          case rel => exact ⟨k + 1, by omega, by go_num, by rw [HD.out, HDK.out, dif_pos (by rw [← HLE.out]; exact HN.out)], HB2.out⟩
          case measure => simp [intOf]; omega
        · have hz' : (0 : Int) < (L.length : Int) := by omega
          obtain ⟨aS, gl, cl, rfl, hbS, hgS, hcell, hin⟩ := hS.elem hz0
          rw [addr_add_zero] at hcell
          obtain ⟨-, -, -, -, -, -, hrow⟩ := hin
          have HNE : Hid (¬ found ts (wid ts) k = []) := by simp only [Hid]; rw [← HLE.out]; rintro rfl; simp at hz0
          have HHD : Hid ((dres ts).1 = L[0] ∧ (dres ts).2 = 0) := by
            simp only [Hid]
            rw [HD.out, HDK.out, dif_neg HNE.out]
            refine ⟨?_, rfl⟩
            simp only [List.head_eq_getElem]
            congr 1
            exact HLE.out.symm
          have HROW := Lib.hid (row_mono hrow hz)
          clear hS hrow
          go_wp2
          refine bodyPost_ret (v := .tuple #[.slice (some ⟨gl, 0, none⟩) L[0].length cl, .int .i64 0]) (by simp [results, Try.results27, go_sem]) rfl ⟨_, by rw [HHD.out.2], by rw [HHD.out.1]; exact HROW.out, HB2.out⟩
      · have HK : Hid (k = 3) := by simp only [Hid]; omega
        have HHD : Hid (dres ts = ([], 3)) := by simp only [Hid]; rw [HD.out, HK.out]; rfl
        have hi3 : ¬ (k : Int) ≤ 2 := by omega
        go_wp2
        refine bodyPost_ret (v := .tuple #[.slice none 0 0, .int .i64 3]) (by simp [results, Try.results27, go_sem]) rfl ⟨_, by rw [HHD.out], by rw [HHD.out]; exact OwnF.nil _ _, HB.out⟩
  · have HF1 := Lib.hid (show dres ts = ([], bcode ts 0) by unfold dres; rw [if_neg h0])
    have hne : (bcode ts 0 != 0) = true := by simpa using h0
    have H0 := Lib.hid h0; clear h0
    go_enter Try.func27, Try.ntmps27
    go_wp2_with (go_at_call 32; refine KC.out.mono ?_; rintro e w1 ⟨rfl, hw1⟩)
    refine bodyPost_ret (v := .tuple #[.slice none 0 0, .int .i64 (bcode ts 0)]) (by simp [results, Try.results27, go_sem]) rfl ⟨_, by rw [HF1.out], by rw [HF1.out]; exact OwnF.nil _ _, hw1⟩
end Go.Proofs.Ytmnegfhigfipbaa
