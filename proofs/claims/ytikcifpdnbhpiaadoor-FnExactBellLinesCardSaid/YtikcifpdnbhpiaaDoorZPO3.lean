/- For every input the law FnExactBellLines returns true and leaves its arguments as they were: the program's bell lines of a session are the reference's. Condition: the tables of strconv hold what the program's text lays (tied by the card). -/
import Derived.Test.YtikcifpdnbhpiaaDoorZC1
import Derived.Test.YtikcifpdnbhpiaaDoorZC2
import Derived.Test.YtikcifpdnbhpiaaDoorZC3
import Derived.Test.YtikcifpdnbhpiaaDoorZC4
import Derived.Test.YtikcifpdnbhpiaaDoorZC5
import Derived.Test.YtikcifpdnbhpiaaDoorZC6
import Derived.Test.YtikcifpdnbhpiaaDoorZC7
import Derived.OpenShut
import Derived.ProofKit
import Derived.Carry
import Derived.ChangeMaps5
namespace Go.Proofs.YtikcifpdnbhpiaaDoor
open Go.RowKit Go.Sort
set_option maxRecDepth 100000 in
set_option maxHeartbeats 6400000 in
theorem law_SessionFault (SA0 : Option Addr) (sn0 sc0 : Nat) (SL0 : List ByteArray) (w : World) (hs0 : RL StrM 1 w SA0 sn0 SL0) (hsn0 : sn0 ≤ 9223372036854775807) (hsz0 : ∀ s ∈ SL0, s.size ≤ 9223372036854775807) (ht : TB w) :
    Calls Tryd.prog 4 #[.slice SA0 sn0 sc0] w fun e w' => e = .returned (.bool true) ∧ Below w.heap.size w w' := by
  have HID0 := True.intro
  by_cases hsl0 : (sn0 : Int) + totS SL0 ≤ (1048576 : Int)
  rotate_left
  · have hsm0 : (-1 : Int) < 0 := by omega
    go_enter Tryd.func4, Tryd.ntmps4
    go_wp2_with fail
    refine (szStringS_any SA0 sn0 sc0 SL0 _ _ hs0 hsz0 (by first | exact hl0 | omega) (by first | exact hl1 | omega) hsn0).mono ?_; rintro e w3 ⟨rfl, hww⟩
    subst hww
    rw [if_neg (by omega)]
    go_wp2_with fail
    go_ret
    exact ⟨rfl, Below.refl _ _⟩
  have hsb0 : sn0 ≤ 1048576 := by omega
  have hsp0 : ¬ ((1048576 : Int) - (sn0 : Int) - totS SL0 < 0) := by omega
  have hst0 : ∀ s ∈ SL0, s.size ≤ 1048576 := fun s hs => by have := totS_mem hs; omega
  have TS0 := Lib.hid (fun W (hW : Below w.heap.size w W) => toStringS_kn SA0 sn0 sc0 SL0 W (hs0.below steady_StrM hW) hsb0)
  have HST0 := Lib.hid hst0
  have HSZ0 := Lib.hid hsz0
  have HTB := Lib.hid (fun W (hW : Below w.heap.size w W) => TB.below ht hW)
  have KS := (fun (SX0 : Option Addr) (sx0 : Nat) W ht0 (hW : Below w.heap.size w W) => specSessionFault_any SX0 sn0 sx0 SL0 W ht0 HST0.out)
  have KI := (fun (SX0 : Option Addr) (sx0 : Nat) W ht0 (hW : Below w.heap.size w W) => SessionFault_any SX0 sn0 sx0 SL0 W ht0 HST0.out (HTB.out W hW))
  unfold SFRet at KS KI
  obtain ⟨RI0, hRI0⟩ : ∃ x, sfA (SL0.map strB) = x := ⟨_, rfl⟩
  rw [hRI0] at KS KI
  clear hRI0
  obtain ⟨RI1, hRI1⟩ : ∃ x, sfF (SL0.map strB) = x := ⟨_, rfl⟩
  rw [hRI1] at KS KI
  clear hRI1
  obtain ⟨RI2, hRI2⟩ : ∃ x, sfC (SL0.map strB) = x := ⟨_, rfl⟩
  rw [hRI2] at KS KI
  clear hRI2
  have KS := Lib.hid KS
  have KI := Lib.hid KI
  clear hst0
  go_enter Tryd.func4, Tryd.ntmps4
  go_wp2_with fail
  refine (szStringS_any SA0 sn0 sc0 SL0 _ _ hs0 hsz0 (by first | exact hl0 | omega) (by first | exact hl1 | omega) hsn0).mono ?_; rintro e w3 ⟨rfl, hww⟩
  subst hww
  rw [if_pos (by omega)]
  have hK := Kn.nil w
  go_wp2_with fail
  refine (TS0.out _ hK.below).mono ?_; rintro e w4 ⟨X1, x1, rfl, hKn⟩
  have hK : Kn w [rowSN X1 sn0 x1 SL0] w4 := hK.join hKn
  clear hKn
  go_wp2_with fail
  refine (KS.out X1 x1 _ (Kn.rlSN (hK.sel [0] 99 (by decide) (by decide))).2 hK.below).mono ?_; rintro e w5 ⟨rfl, hw⟩
  have hK : Kn w [rowSN X1 sn0 x1 SL0] w5 := hK.keep hw
  clear hw
  go_wp2_with fail
  refine (TS0.out _ hK.below).mono ?_; rintro e w6 ⟨X2, x2, rfl, hKn⟩
  have hK : Kn w [rowSN X2 sn0 x2 SL0, rowSN X1 sn0 x1 SL0] w6 := hK.join hKn
  clear hKn
  go_wp2_with fail
  refine (KI.out X2 x2 _ (Kn.rlSN (hK.sel [0] 99 (by decide) (by decide))).2 hK.below).mono ?_; rintro e w7 ⟨rfl, hw⟩
  have hK : Kn w [rowSN X2 sn0 x2 SL0, rowSN X1 sn0 x1 SL0] w7 := hK.keep hw
  clear hw
  go_wp2_with fail
  refine (TS0.out _ hK.below).mono ?_; rintro e w8 ⟨X3, x3, rfl, hKn⟩
  have hK : Kn w [rowSN X3 sn0 x3 SL0, rowSN X2 sn0 x2 SL0, rowSN X1 sn0 x1 SL0] w8 := hK.join hKn
  clear hKn
  go_wp2_with fail
  refine (eqS_same _ _ _ _ _ _ _ ((Kn.rlSN (hK.sel [1] 99 (by decide) (by decide))).2) ((Kn.rlSN (hK.sel [0] 99 (by decide) (by decide))).2) (by omega)).mono ?_; rintro e w9 ⟨rfl, hw⟩
  have hK : Kn w [rowSN X3 sn0 x3 SL0, rowSN X2 sn0 x2 SL0, rowSN X1 sn0 x1 SL0] w9 := hK.keep hw
  clear hw
  go_wp2_with fail
  go_ret
  exact ⟨rfl, hK.below⟩
set_option maxRecDepth 100000 in
set_option maxHeartbeats 6400000 in
theorem law_SessionStrokes (SA0 : Option Addr) (sn0 sc0 : Nat) (SL0 : List ByteArray) (w : World) (hs0 : RL StrM 1 w SA0 sn0 SL0) (hsn0 : sn0 ≤ 9223372036854775807) (hsz0 : ∀ s ∈ SL0, s.size ≤ 9223372036854775807) (ht : TB w) :
    Calls Tryd.prog 5 #[.slice SA0 sn0 sc0] w fun e w' => e = .returned (.bool true) ∧ Below w.heap.size w w' := by
  have HID0 := True.intro
  by_cases hsl0 : (sn0 : Int) + totS SL0 ≤ (1048576 : Int)
  rotate_left
  · have hsm0 : (-1 : Int) < 0 := by omega
    go_enter Tryd.func5, Tryd.ntmps5
    go_wp2_with fail
    refine (szStringS_any SA0 sn0 sc0 SL0 _ _ hs0 hsz0 (by first | exact hl0 | omega) (by first | exact hl1 | omega) hsn0).mono ?_; rintro e w3 ⟨rfl, hww⟩
    subst hww
    rw [if_neg (by omega)]
    go_wp2_with fail
    go_ret
    exact ⟨rfl, Below.refl _ _⟩
  have hsb0 : sn0 ≤ 1048576 := by omega
  have hsp0 : ¬ ((1048576 : Int) - (sn0 : Int) - totS SL0 < 0) := by omega
  have hst0 : ∀ s ∈ SL0, s.size ≤ 1048576 := fun s hs => by have := totS_mem hs; omega
  have TS0 := Lib.hid (fun W (hW : Below w.heap.size w W) => toStringS_kn SA0 sn0 sc0 SL0 W (hs0.below steady_StrM hW) hsb0)
  have HST0 := Lib.hid hst0
  have HSZ0 := Lib.hid hsz0
  have HTB := Lib.hid (fun W (hW : Below w.heap.size w W) => TB.below ht hW)
  have KS := (fun (SX0 : Option Addr) (sx0 : Nat) W ht0 (hW : Below w.heap.size w W) => specSessionStrokes_any SX0 sn0 sx0 SL0 W ht0 HST0.out)
  have KI := (fun (SX0 : Option Addr) (sx0 : Nat) W ht0 (hW : Below w.heap.size w W) => SessionStrokes_any SX0 sn0 sx0 SL0 W ht0 HST0.out (HTB.out W hW))
  unfold ssRet at KS KI
  have lv := ssL_len (SL0.map strB)
  obtain ⟨RV, hRV⟩ : ∃ x : List Int, ssL (SL0.map strB) = x := ⟨_, rfl⟩
  rw [hRV] at KS KI lv
  clear hRV
  obtain ⟨kv, hkv⟩ : ∃ n, RV.length = n := ⟨_, rfl⟩
  unfold rowI at KI KS
  rw [hkv] at KS KI lv
  clear hkv
  obtain ⟨RI1, hRI1⟩ : ∃ x, wholeC (SL0.map strB) = x := ⟨_, rfl⟩
  rw [hRI1] at KS KI
  clear hRI1
  have KS := Lib.hid KS
  have KI := Lib.hid KI
  clear hst0
  go_enter Tryd.func5, Tryd.ntmps5
  go_wp2_with fail
  refine (szStringS_any SA0 sn0 sc0 SL0 _ _ hs0 hsz0 (by first | exact hl0 | omega) (by first | exact hl1 | omega) hsn0).mono ?_; rintro e w3 ⟨rfl, hww⟩
  subst hww
  rw [if_pos (by omega)]
  have hK := Kn.nil w
  go_wp2_with fail
  refine (TS0.out _ hK.below).mono ?_; rintro e w4 ⟨X1, x1, rfl, hKn⟩
  have hK : Kn w [rowSN X1 sn0 x1 SL0] w4 := hK.join hKn
  clear hKn
  go_wp2_with fail
  refine (KS.out X1 x1 _ (Kn.rlSN (hK.sel [0] 99 (by decide) (by decide))).2 hK.below).mono ?_; rintro e w5 ⟨SV, sv, rfl, hKn⟩
  have hK : Kn w [rowN SV kv sv RV, rowSN X1 sn0 x1 SL0] w5 := hK.join hKn
  clear hKn
  go_wp2_with fail
  refine (TS0.out _ hK.below).mono ?_; rintro e w6 ⟨X2, x2, rfl, hKn⟩
  have hK : Kn w [rowSN X2 sn0 x2 SL0, rowN SV kv sv RV, rowSN X1 sn0 x1 SL0] w6 := hK.join hKn
  clear hKn
  go_wp2_with fail
  refine (KI.out X2 x2 _ (Kn.rlSN (hK.sel [0] 99 (by decide) (by decide))).2 hK.below).mono ?_; rintro e w7 ⟨GV, gv, rfl, hKn⟩
  have hK : Kn w [rowN GV kv gv RV, rowSN X2 sn0 x2 SL0, rowN SV kv sv RV, rowSN X1 sn0 x1 SL0] w7 := hK.join hKn
  clear hKn
  go_wp2_with fail
  refine (eqI_same _ _ _ _ _ _ _ (Kn.riN (hK.sel [0] 99 (by decide) (by decide))) (Kn.riN (hK.sel [2] 99 (by decide) (by decide))) (by omega)).mono ?_; rintro e w8 ⟨rfl, hw⟩
  have hK : Kn w [rowN GV kv gv RV, rowSN X2 sn0 x2 SL0, rowN SV kv sv RV, rowSN X1 sn0 x1 SL0] w8 := hK.keep hw
  clear hw
  go_wp2_with fail
  refine (TS0.out _ hK.below).mono ?_; rintro e w9 ⟨X3, x3, rfl, hKn⟩
  have hK : Kn w [rowSN X3 sn0 x3 SL0, rowN GV kv gv RV, rowSN X2 sn0 x2 SL0, rowN SV kv sv RV, rowSN X1 sn0 x1 SL0] w9 := hK.join hKn
  clear hKn
  go_wp2_with fail
  refine (eqS_same _ _ _ _ _ _ _ ((Kn.rlSN (hK.sel [2] 99 (by decide) (by decide))).2) ((Kn.rlSN (hK.sel [0] 99 (by decide) (by decide))).2) (by omega)).mono ?_; rintro e w10 ⟨rfl, hw⟩
  have hK : Kn w [rowSN X3 sn0 x3 SL0, rowN GV kv gv RV, rowSN X2 sn0 x2 SL0, rowN SV kv sv RV, rowSN X1 sn0 x1 SL0] w10 := hK.keep hw
  clear hw
  go_wp2_with fail
  have hK : Kn w [rowSN X2 sn0 x2 SL0, rowSN X3 sn0 x3 SL0, rowN GV kv gv RV, rowN SV kv sv RV, rowSN X1 sn0 x1 SL0] w10 := hK.sel [2, 0, 1, 3, 4] 5 (by decide) (by decide)
  refine (markS_kn w _ X2 sn0 x2 SL0 1 _ hK (by omega) (by omega)).mono ?_; rintro e w11 ⟨rfl, hKn⟩
  have hK : Kn w [rowSN X2 sn0 x2 (marksS 1 sn0), rowSN X3 sn0 x3 SL0, rowN GV kv gv RV, rowN SV kv sv RV, rowSN X1 sn0 x1 SL0] w11 := hKn
  clear hKn
  obtain ⟨pk1, hpk1⟩ : ∃ x : Int, 1 + (sn0 : Int) = x := ⟨_, rfl⟩
  have hpk1n : ¬ pk1 < 0 := by omega
  have hpk1b : 0 ≤ pk1 ∧ pk1 ≤ 40000000 := by omega
  rw [hpk1]
  have Hpk1 := Lib.hid hpk1
  clear hpk1
  go_wp2_with fail
  refine (eqI_same _ _ _ _ _ _ _ (Kn.riN (hK.sel [2] 99 (by decide) (by decide))) (Kn.riN (hK.sel [3] 99 (by decide) (by decide))) (by omega)).mono ?_; rintro e w12 ⟨rfl, hw⟩
  have hK : Kn w [rowSN X2 sn0 x2 (marksS 1 sn0), rowSN X3 sn0 x3 SL0, rowN GV kv gv RV, rowN SV kv sv RV, rowSN X1 sn0 x1 SL0] w12 := hK.keep hw
  clear hw
  go_wp2_with fail
  have hK : Kn w [rowN GV kv gv RV, rowSN X2 sn0 x2 (marksS 1 sn0), rowSN X3 sn0 x3 SL0, rowN SV kv sv RV, rowSN X1 sn0 x1 SL0] w12 := hK.sel [2, 0, 1, 3, 4] 5 (by decide) (by decide)
  refine (markI_kn w _ GV kv gv RV 1 _ hK (by omega) (by omega)).mono ?_; rintro e w13 ⟨rfl, hKn⟩
  have hK : Kn w [rowN GV kv gv (upto 1 kv), rowSN X2 sn0 x2 (marksS 1 sn0), rowSN X3 sn0 x3 SL0, rowN SV kv sv RV, rowSN X1 sn0 x1 SL0] w13 := hKn
  clear hKn
  obtain ⟨pk2, hpk2⟩ : ∃ x : Int, 1 + (kv : Int) = x := ⟨_, rfl⟩
  have hpk2n : ¬ pk2 < 0 := by omega
  have hpk2b : 0 ≤ pk2 ∧ pk2 ≤ 40000000 := by omega
  rw [hpk2]
  have Hpk2 := Lib.hid hpk2
  clear hpk2
  go_wp2_with fail
  refine (heldInt64S_any GV kv gv 1 _ (Kn.riN (hK.sel [0] 99 (by decide) (by decide))) (by omega) (by omega)).mono ?_; rintro e w14 ⟨rfl, hww⟩; subst hww
  rw [Hpk2.out]
  go_wp2_with fail
  refine (TS0.out _ hK.below).mono ?_; rintro e w15 ⟨X4, x4, rfl, hKn⟩
  have hK : Kn w [rowSN X4 sn0 x4 SL0, rowN GV kv gv (upto 1 kv), rowSN X2 sn0 x2 (marksS 1 sn0), rowSN X3 sn0 x3 SL0, rowN SV kv sv RV, rowSN X1 sn0 x1 SL0] w15 := hK.join hKn
  clear hKn
  go_wp2_with fail
  refine (KI.out X4 x4 _ (Kn.rlSN (hK.sel [0] 99 (by decide) (by decide))).2 hK.below).mono ?_; rintro e w16 ⟨HV, hv, rfl, hKn⟩
  have hK : Kn w [rowN HV kv hv RV, rowSN X4 sn0 x4 SL0, rowN GV kv gv (upto 1 kv), rowSN X2 sn0 x2 (marksS 1 sn0), rowSN X3 sn0 x3 SL0, rowN SV kv sv RV, rowSN X1 sn0 x1 SL0] w16 := hK.join hKn
  clear hKn
  go_wp2_with fail
  refine (eqI_same _ _ _ _ _ _ _ (Kn.riN (hK.sel [0] 99 (by decide) (by decide))) (Kn.riN (hK.sel [5] 99 (by decide) (by decide))) (by omega)).mono ?_; rintro e w17 ⟨rfl, hw⟩
  have hK : Kn w [rowN HV kv hv RV, rowSN X4 sn0 x4 SL0, rowN GV kv gv (upto 1 kv), rowSN X2 sn0 x2 (marksS 1 sn0), rowSN X3 sn0 x3 SL0, rowN SV kv sv RV, rowSN X1 sn0 x1 SL0] w17 := hK.keep hw
  clear hw
  go_wp2_with fail
  refine (heldInt64S_any GV kv gv 1 _ (Kn.riN (hK.sel [2] 99 (by decide) (by decide))) (by omega) (by omega)).mono ?_; rintro e w18 ⟨rfl, hww⟩; subst hww
  rw [Hpk2.out]
  go_wp2_with fail
  go_ret
  exact ⟨rfl, hK.below⟩
set_option maxRecDepth 100000 in
set_option maxHeartbeats 6400000 in
theorem law_BellLines (SA0 : Option Addr) (sn0 sc0 : Nat) (SL0 : List ByteArray) (w : World) (hs0 : RL StrM 1 w SA0 sn0 SL0) (hsn0 : sn0 ≤ 9223372036854775807) (hsz0 : ∀ s ∈ SL0, s.size ≤ 9223372036854775807) (ht : TB w) :
    Calls Tryd.prog 6 #[.slice SA0 sn0 sc0] w fun e w' => e = .returned (.bool true) ∧ Below w.heap.size w w' := by
  have HID0 := True.intro
  by_cases hsl0 : (sn0 : Int) + totS SL0 ≤ (1048576 : Int)
  rotate_left
  · have hsm0 : (-1 : Int) < 0 := by omega
    go_enter Tryd.func6, Tryd.ntmps6
    go_wp2_with fail
    refine (szStringS_any SA0 sn0 sc0 SL0 _ _ hs0 hsz0 (by first | exact hl0 | omega) (by first | exact hl1 | omega) hsn0).mono ?_; rintro e w3 ⟨rfl, hww⟩
    subst hww
    rw [if_neg (by omega)]
    go_wp2_with fail
    go_ret
    exact ⟨rfl, Below.refl _ _⟩
  have hsb0 : sn0 ≤ 1048576 := by omega
  have hsp0 : ¬ ((1048576 : Int) - (sn0 : Int) - totS SL0 < 0) := by omega
  have hst0 : ∀ s ∈ SL0, s.size ≤ 1048576 := fun s hs => by have := totS_mem hs; omega
  have TS0 := Lib.hid (fun W (hW : Below w.heap.size w W) => toStringS_kn SA0 sn0 sc0 SL0 W (hs0.below steady_StrM hW) hsb0)
  have HST0 := Lib.hid hst0
  have HSZ0 := Lib.hid hsz0
  have HTB := Lib.hid (fun W (hW : Below w.heap.size w W) => TB.below ht hW)
  have KS := (fun (SX0 : Option Addr) (sx0 : Nat) W ht0 (hW : Below w.heap.size w W) => specBellLines_any SX0 sn0 sx0 SL0 W ht0 HST0.out)
  have KI := (fun (SX0 : Option Addr) (sx0 : Nat) W ht0 (hW : Below w.heap.size w W) => BellLines_any SX0 sn0 sx0 SL0 W ht0 HST0.out (HTB.out W hW))
  unfold blRet at KS KI
  have lv := blL_len (SL0.map strB)
  obtain ⟨RV, hRV⟩ : ∃ x : List Int, blL (SL0.map strB) = x := ⟨_, rfl⟩
  rw [hRV] at KS KI lv
  clear hRV
  obtain ⟨kv, hkv⟩ : ∃ n, RV.length = n := ⟨_, rfl⟩
  unfold rowI at KI KS
  rw [hkv] at KS KI lv
  clear hkv
  obtain ⟨RI1, hRI1⟩ : ∃ x, wholeC (SL0.map strB) = x := ⟨_, rfl⟩
  rw [hRI1] at KS KI
  clear hRI1
  have KS := Lib.hid KS
  have KI := Lib.hid KI
  clear hst0
  go_enter Tryd.func6, Tryd.ntmps6
  go_wp2_with fail
  refine (szStringS_any SA0 sn0 sc0 SL0 _ _ hs0 hsz0 (by first | exact hl0 | omega) (by first | exact hl1 | omega) hsn0).mono ?_; rintro e w3 ⟨rfl, hww⟩
  subst hww
  rw [if_pos (by omega)]
  have hK := Kn.nil w
  go_wp2_with fail
  refine (TS0.out _ hK.below).mono ?_; rintro e w4 ⟨X1, x1, rfl, hKn⟩
  have hK : Kn w [rowSN X1 sn0 x1 SL0] w4 := hK.join hKn
  clear hKn
  go_wp2_with fail
  refine (KS.out X1 x1 _ (Kn.rlSN (hK.sel [0] 99 (by decide) (by decide))).2 hK.below).mono ?_; rintro e w5 ⟨SV, sv, rfl, hKn⟩
  have hK : Kn w [rowN SV kv sv RV, rowSN X1 sn0 x1 SL0] w5 := hK.join hKn
  clear hKn
  go_wp2_with fail
  refine (TS0.out _ hK.below).mono ?_; rintro e w6 ⟨X2, x2, rfl, hKn⟩
  have hK : Kn w [rowSN X2 sn0 x2 SL0, rowN SV kv sv RV, rowSN X1 sn0 x1 SL0] w6 := hK.join hKn
  clear hKn
  go_wp2_with fail
  refine (KI.out X2 x2 _ (Kn.rlSN (hK.sel [0] 99 (by decide) (by decide))).2 hK.below).mono ?_; rintro e w7 ⟨GV, gv, rfl, hKn⟩
  have hK : Kn w [rowN GV kv gv RV, rowSN X2 sn0 x2 SL0, rowN SV kv sv RV, rowSN X1 sn0 x1 SL0] w7 := hK.join hKn
  clear hKn
  go_wp2_with fail
  refine (eqI_same _ _ _ _ _ _ _ (Kn.riN (hK.sel [0] 99 (by decide) (by decide))) (Kn.riN (hK.sel [2] 99 (by decide) (by decide))) (by omega)).mono ?_; rintro e w8 ⟨rfl, hw⟩
  have hK : Kn w [rowN GV kv gv RV, rowSN X2 sn0 x2 SL0, rowN SV kv sv RV, rowSN X1 sn0 x1 SL0] w8 := hK.keep hw
  clear hw
  go_wp2_with fail
  refine (TS0.out _ hK.below).mono ?_; rintro e w9 ⟨X3, x3, rfl, hKn⟩
  have hK : Kn w [rowSN X3 sn0 x3 SL0, rowN GV kv gv RV, rowSN X2 sn0 x2 SL0, rowN SV kv sv RV, rowSN X1 sn0 x1 SL0] w9 := hK.join hKn
  clear hKn
  go_wp2_with fail
  refine (eqS_same _ _ _ _ _ _ _ ((Kn.rlSN (hK.sel [2] 99 (by decide) (by decide))).2) ((Kn.rlSN (hK.sel [0] 99 (by decide) (by decide))).2) (by omega)).mono ?_; rintro e w10 ⟨rfl, hw⟩
  have hK : Kn w [rowSN X3 sn0 x3 SL0, rowN GV kv gv RV, rowSN X2 sn0 x2 SL0, rowN SV kv sv RV, rowSN X1 sn0 x1 SL0] w10 := hK.keep hw
  clear hw
  go_wp2_with fail
  have hK : Kn w [rowSN X2 sn0 x2 SL0, rowSN X3 sn0 x3 SL0, rowN GV kv gv RV, rowN SV kv sv RV, rowSN X1 sn0 x1 SL0] w10 := hK.sel [2, 0, 1, 3, 4] 5 (by decide) (by decide)
  refine (markS_kn w _ X2 sn0 x2 SL0 1 _ hK (by omega) (by omega)).mono ?_; rintro e w11 ⟨rfl, hKn⟩
  have hK : Kn w [rowSN X2 sn0 x2 (marksS 1 sn0), rowSN X3 sn0 x3 SL0, rowN GV kv gv RV, rowN SV kv sv RV, rowSN X1 sn0 x1 SL0] w11 := hKn
  clear hKn
  obtain ⟨pk1, hpk1⟩ : ∃ x : Int, 1 + (sn0 : Int) = x := ⟨_, rfl⟩
  have hpk1n : ¬ pk1 < 0 := by omega
  have hpk1b : 0 ≤ pk1 ∧ pk1 ≤ 40000000 := by omega
  rw [hpk1]
  have Hpk1 := Lib.hid hpk1
  clear hpk1
  go_wp2_with fail
  refine (eqI_same _ _ _ _ _ _ _ (Kn.riN (hK.sel [2] 99 (by decide) (by decide))) (Kn.riN (hK.sel [3] 99 (by decide) (by decide))) (by omega)).mono ?_; rintro e w12 ⟨rfl, hw⟩
  have hK : Kn w [rowSN X2 sn0 x2 (marksS 1 sn0), rowSN X3 sn0 x3 SL0, rowN GV kv gv RV, rowN SV kv sv RV, rowSN X1 sn0 x1 SL0] w12 := hK.keep hw
  clear hw
  go_wp2_with fail
  have hK : Kn w [rowN GV kv gv RV, rowSN X2 sn0 x2 (marksS 1 sn0), rowSN X3 sn0 x3 SL0, rowN SV kv sv RV, rowSN X1 sn0 x1 SL0] w12 := hK.sel [2, 0, 1, 3, 4] 5 (by decide) (by decide)
  refine (markI_kn w _ GV kv gv RV 1 _ hK (by omega) (by omega)).mono ?_; rintro e w13 ⟨rfl, hKn⟩
  have hK : Kn w [rowN GV kv gv (upto 1 kv), rowSN X2 sn0 x2 (marksS 1 sn0), rowSN X3 sn0 x3 SL0, rowN SV kv sv RV, rowSN X1 sn0 x1 SL0] w13 := hKn
  clear hKn
  obtain ⟨pk2, hpk2⟩ : ∃ x : Int, 1 + (kv : Int) = x := ⟨_, rfl⟩
  have hpk2n : ¬ pk2 < 0 := by omega
  have hpk2b : 0 ≤ pk2 ∧ pk2 ≤ 40000000 := by omega
  rw [hpk2]
  have Hpk2 := Lib.hid hpk2
  clear hpk2
  go_wp2_with fail
  refine (heldInt64S_any GV kv gv 1 _ (Kn.riN (hK.sel [0] 99 (by decide) (by decide))) (by omega) (by omega)).mono ?_; rintro e w14 ⟨rfl, hww⟩; subst hww
  rw [Hpk2.out]
  go_wp2_with fail
  refine (TS0.out _ hK.below).mono ?_; rintro e w15 ⟨X4, x4, rfl, hKn⟩
  have hK : Kn w [rowSN X4 sn0 x4 SL0, rowN GV kv gv (upto 1 kv), rowSN X2 sn0 x2 (marksS 1 sn0), rowSN X3 sn0 x3 SL0, rowN SV kv sv RV, rowSN X1 sn0 x1 SL0] w15 := hK.join hKn
  clear hKn
  go_wp2_with fail
  refine (KI.out X4 x4 _ (Kn.rlSN (hK.sel [0] 99 (by decide) (by decide))).2 hK.below).mono ?_; rintro e w16 ⟨HV, hv, rfl, hKn⟩
  have hK : Kn w [rowN HV kv hv RV, rowSN X4 sn0 x4 SL0, rowN GV kv gv (upto 1 kv), rowSN X2 sn0 x2 (marksS 1 sn0), rowSN X3 sn0 x3 SL0, rowN SV kv sv RV, rowSN X1 sn0 x1 SL0] w16 := hK.join hKn
  clear hKn
  go_wp2_with fail
  refine (eqI_same _ _ _ _ _ _ _ (Kn.riN (hK.sel [0] 99 (by decide) (by decide))) (Kn.riN (hK.sel [5] 99 (by decide) (by decide))) (by omega)).mono ?_; rintro e w17 ⟨rfl, hw⟩
  have hK : Kn w [rowN HV kv hv RV, rowSN X4 sn0 x4 SL0, rowN GV kv gv (upto 1 kv), rowSN X2 sn0 x2 (marksS 1 sn0), rowSN X3 sn0 x3 SL0, rowN SV kv sv RV, rowSN X1 sn0 x1 SL0] w17 := hK.keep hw
  clear hw
  go_wp2_with fail
  refine (heldInt64S_any GV kv gv 1 _ (Kn.riN (hK.sel [2] 99 (by decide) (by decide))) (by omega) (by omega)).mono ?_; rintro e w18 ⟨rfl, hww⟩; subst hww
  rw [Hpk2.out]
  go_wp2_with fail
  go_ret
  exact ⟨rfl, hK.below⟩
end Go.Proofs.YtikcifpdnbhpiaaDoor

namespace Go.Proofs.YtikcifpdnbhpiaaDoor.fnExactBellLines
open Go.ChangeShapes Go.WideShapes Go.ChangeAt Go.RowKit
set_option maxRecDepth 100000 in
theorem contract (H : Type) (enc : TypeId × Value → H) (W : World) (base : Nat) (args : Array Value) (ds gs : List (DataW H)) (before : List MemPlace)
    (hval : ∀ (j : Nat) t v, Tryd.f6.params[j]? = some t → args[j]? = some v → Value.okWide Tryd.prog W .any base t v)
    (hW : DataW.Whole enc Tryd.prog Tryd.f6.params.toList Rows.fnExactBellLinesSpec.vars false W args.toList ds gs before) (hL : laidMetH Tryd.prog Rows.fnExactBellLinesRow.laid W) :
    Calls Tryd.prog 6 args W fun e W' => ∃ v, e = .returned v ∧ Rows.fnExactBellLinesSpec.post enc Tryd.prog Tryd.f6 false true false false W args v W' := by
  have hW' := hW
  obtain ⟨p, q, hA0, hV, rfl, hfz, hnd⟩ := hW
  have hA : DataW.TrodAll enc Tryd.prog W 0 (fun _ => true) true Tryd.f6.params.toList args.toList ds p := hA0
  rw [Tryd.params6] at hA hval
  obtain ⟨v0, vs0, d0, ds0, p0, q0, hargs, rfl, rfl, h0, r0⟩ := trodAll_cons hA
  obtain ⟨rfl, rfl, rfl⟩ := trodAll_nil r0
  obtain rfl : args = #[v0] := by cases args; simp_all
  obtain ⟨rfl, rfl⟩ := trodVars_none hV
  clear hA0
  simp only [List.append_nil] at hW'
  have hlt : ∀ x ∈ p0, x.block < W.heap.size := fun x hx => by
    have := hW'.lt x (by simpa using hx)
    simpa using this
  obtain ⟨S0A, S0n, S0c, rfl⟩ := okWide_slice Tryd.underlying41 (hval 0 _ _ rfl rfl)
  have t0 := h0
  obtain ⟨fuel0, hf0⟩ := h0
  obtain ⟨A0, n0, c0, S0xs, hcs0, hr0, hn0, hs0⟩ := rd_strings hf0
  obtain ⟨rfl, rfl, rfl⟩ : A0 = S0A ∧ n0 = S0n ∧ c0 = S0c := by
    have : [Value.slice S0A S0n S0c] = [.slice A0 n0 c0] := hcs0
    injection this with this
    injection this with e1 e2 e3
    exact ⟨e1.symm, e2.symm, e3.symm⟩
  have walk : Calls Tryd.prog 6 #[.slice A0 n0 c0] W fun e w' => e = .returned (.bool true) ∧ Below W.heap.size W w' :=
    law_BellLines A0 n0 c0 S0xs W hr0 hn0 hs0 (tb_of_laid hL)
  refine walk.mono fun e W' ⟨he, hb⟩ => ?_
  subst he
  have u0 := Below.trod laidOut (by kernel_rfl) (of_decide_eq_true (by kernel_rfl)) t0 hb hlt
  exact ⟨_, rfl, [d0], [], p0 ++ [], [], p0 ++ [], [], by simpa using hW', trodAll_cons_mk (shut_bool Tryd.underlying4 _) trodAll_mk0, (trodAll_cons_mk u0 trodAll_mk0), rfl, hb.frame _, fun h => by cases h⟩
theorem reads (os : Os) {H : Type} (enc : TypeId × Value → H) : ∃ places, DataW.whole enc Tryd.prog ((laidWorld os).forCall (fun _ _ => 0) ⟨#[], #[.slice none 0 0], []⟩).memory Tryd.f6.params.toList Rows.fnExactBellLinesSpec.vars false (#[.slice none 0 0] : Array Value).toList 8 = some ([.nil], [], places) :=
  ⟨[], by kernel_rfl⟩
set_option maxRecDepth 100000 in
theorem lifted (os : Os) (started : os.Started) (H : Type) (enc : TypeId × Value → H) (F : Stop.Interp) :
    ReturnsInHanded {} Tryd.checked os 6 .any ((OpenSpec.ofChange Rows.fnExactBellLinesSpec).preRow enc Tryd.prog Tryd.f6 Rows.fnExactBellLinesRow.domain false Rows.fnExactBellLinesRow.laid) (((OpenSpec.ofChange Rows.fnExactBellLinesSpec).at F).post enc Tryd.prog Tryd.f6 false true false false) := by
  obtain ⟨places, hx⟩ := reads os enc
  refine returnsInHanded_of_row (C := Tryd.checked) (s := OpenSpec.ofChange Rows.fnExactBellLinesSpec) own started (by kernel_rfl) Tryd.func6
    (witness_row_at (enc := enc) (C := Tryd.checked) false (laidWorld os) #[.slice none 0 0] rfl (by kernel_rfl) (by kernel_rfl) (by kernel_rfl)
      (OpenSpec.preRow_of_cond 8 hx (by kernel_rfl) (fun k hk => by cases hk) (by kernel_rfl) (laid_met os _))) ?_
  intro W base args ds gs before hval hW _ _ _ hL _ _
  exact contract H enc W base args ds gs before hval hW hL
theorem said : Rows.FnExactBellLinesSaid :=
  OpenClaim.holds_of_cond 6 Tryd.f6 rfl rfl rfl rfl rfl rfl rfl ⟨rfl, rfl, rfl, rfl, rfl⟩ rfl rfl rfl rfl rfl (by kernel_rfl) Tryd.func6 (by kernel_rfl)
    (of_decide_eq_true (by kernel_rfl)) (by unfold Func.isWrapper; first | (rw [if_pos (by decide +kernel)]; kernel_rfl) | (rw [if_neg (by decide +kernel)]; exact ⟨rfl, rfl⟩))
    (fun os started H enc _ F => by rw [OpenClaim.pre_eq_preRow]; exact lifted os started H enc F)
theorem plain (f : FuncId) (fn : Func) (hf : Tryd.pinned.checked.prog.funcNamed "loop.example/g00930/laws.FnExactBellLines" = some f) (hfn : Tryd.pinned.checked.prog.funcs[f]? = some fn) :
    false = Tryd.pinned.checked.prog.looks [] ∧ ∀ (j : Nat) t, fn.params[j]? = some t → Tryd.pinned.checked.prog.wantsStandIn t = false := by
  obtain rfl : f = 6 := Option.some.inj ((show Tryd.prog.funcNamed "loop.example/g00930/laws.FnExactBellLines" = some 6 by kernel_rfl).symm.trans hf) |>.symm
  obtain rfl : fn = Tryd.f6 := (Option.some.inj (Tryd.func6.symm.trans hfn)).symm
  refine ⟨by kernel_rfl, fun j t ht => ?_⟩
  rw [Tryd.params6] at ht
  have s0 : Tryd.prog.wantsStandIn 41 = false := by kernel_rfl
  have hm := Array.mem_of_getElem? ht
  obtain rfl : t = 41 := by simpa using hm
  exact s0
/-- THE CARD. -/
theorem card : Rows.FnExactBellLinesCardSaid :=
  Claim7.holds_tied_plain_at .later [] _ _ _ _ said (fun _ h => by cases h) (by kernel_rfl) (fun _ h => by cases h) fnExactBellLines_row_tie rfl ⟨rfl, rfl⟩ (by kernel_rfl) rfl plain (by kernel_rfl)
end Go.Proofs.YtikcifpdnbhpiaaDoor.fnExactBellLines
