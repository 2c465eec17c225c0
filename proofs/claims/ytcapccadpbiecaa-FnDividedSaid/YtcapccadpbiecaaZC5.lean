/- Part 5: lemmas and contracts of the claim's functions. -/
import Derived.Test.YtcapccadpbiecaaZC1
import Derived.Test.YtcapccadpbiecaaZC2
import Derived.Test.YtcapccadpbiecaaZC3
import Derived.Test.YtcapccadpbiecaaZC4
import Derived.Deep.OwnRows
namespace Go.Proofs.Ytcapccadpbiecaa
open Go.RowKit Go.Sort
theorem cellsIns_app (xs ys : List Ins) : cellsIns (xs ++ ys) = cellsIns xs ++ cellsIns ys := by simp [cellsIns]
theorem kn_pushIns {ops : Array Oper} {rest : List Oper} {o : Oper} {a : Act} {Q : Exit → Act → World → Prop} {w0 w : World} {m : List Ent} (hgd : o.guard = none) (s x : Operand) (ho : o.op = .call { callee := .builtin .append, args := #[s, x], argTypes := #[34, 34] })
    (v : Value) (xs ys : List Ins) (hs : a.eval s = v) {g c : Nat} {T' : TypeId} (hx : a.eval x = .slice (some ⟨g, 0, none⟩) ys.length c)
    (hK : Kn w0 (.blk g (cellsIns ys) T' :: rowIns v xs :: m) w) (hl : xs.length + ys.length ≤ 10000000)
    (h : ∀ v' w', Kn w0 (rowIns v' (xs ++ ys) :: m) w' → wpList Try.prog ops Q rest (a.put o.dst v') w') : wpList Try.prog ops Q (o :: rest) a w := by
  refine kn_app tpIns hgd s x ho v xs.length (cellsIns xs) hs hx hK (cellsIns_len ys) (cellsIns_one ys) (by omega) (by omega) (fun v' w' hK' => h v' w' ?_)
  unfold rowIns
  rw [List.length_append, cellsIns_app]
  exact hK'
/-- the program that divides -/
def divHead (p : Nat) : List Ins := if 1 < p then [⟨4, (p : Int) - 1⟩] else []
def divPart (p j : Nat) : List Ins := [⟨9, 0⟩, ⟨3, 1⟩, ⟨10, 0⟩, ⟨2, 1⟩] ++ (if j + 1 < p then [⟨5, 1⟩] else [])
def divUpto (p : Nat) : Nat → List Ins
  | 0 => divHead p
  | j + 1 => divUpto p j ++ divPart p j
def divProg (p : Nat) : List Ins := divUpto p p
theorem divUpto_len (p j : Nat) : (divUpto p j).length ≤ 1 + 5 * j := by
  induction j with
  | zero => simp only [divUpto, divHead]; split <;> simp
  | succ j ih => simp only [divUpto, divPart, List.length_append]; split <;> simp <;> omega
theorem divProg_ok {p : Nat} (h1 : 1 ≤ p) (h2 : p ≤ 16) : vprog (divProg p) = true := by
  have H : ∀ p : Fin 17, 1 ≤ p.val → vprog (divProg p.val) = true := by decide +kernel
  exact H ⟨p, by omega⟩ h1
set_option maxRecDepth 100000 in
set_option maxHeartbeats 1600000 in
theorem divideProgram_any (p : Nat) (w : World) (h1 : 1 ≤ p) (h2 : p ≤ 16) :
    Calls Try.prog 65 #[.int .i64 p] w fun e w' => ∃ A c, e = .returned (.slice A (divProg p).length c) ∧ Kn w [rowIns (.slice A (divProg p).length c) (divProg p)] w' := by
  have HD0 := Lib.hid (show divUpto p 0 = divHead p from rfl)
  have HDS := Lib.hid (fun j => show divUpto p (j + 1) = divUpto p j ++ divPart p j from rfl)
  have HLN := Lib.hid (divUpto_len p)
  have HPR := Lib.hid (show divProg p = divUpto p p from rfl)
  go_enter Try.func65, Try.ntmps65
  by_cases hp1 : 1 < p
  · have hi1 : (1 : Int) < (p : Int) := by omega
    have hhl : divHead p = [] ++ [⟨4, (p : Int) - 1⟩] := by unfold divHead; rw [if_pos hp1]; rfl
    have HHL := Lib.hid hhl
    clear hhl
    have hK1 := (((Kn.nil w).al [] 71).litRow (size := 2) (n := 0) rfl (by decide)).al [.int .i64 4, .int .i64 ((p : Int) - 1)] 71
    simp only [World.size_alloc] at hK1
    go_wp2_with (at_builtin; refine kn_pushIns (m := []) (xs := []) (ys := [⟨4, (p : Int) - 1⟩]) rfl _ _ rfl _ rfl rfl hK1 (by simp) ?_; intro v2 w2 hK2; rw [← HHL.out, ← HD0.out] at hK2)
    go_loopw [3, 15] (fun vv kk wr => ∃ (j : Nat), j ≤ p ∧ kk = .int .i64 (j : Int) ∧ Kn w [rowIns vv (divUpto p j)] wr) (fun _ kk _ => p - (intOf kk).toNat)
    case atStart => exact ⟨0, Nat.zero_le _, rfl, hK2⟩
    case round =>
      clear hK2
      obtain ⟨j, hj, rfl, hK⟩ := hrel
      have hln := HLN.out j
      obtain ⟨ds, hds⟩ : ∃ ds, divUpto p j = ds := ⟨_, rfl⟩
      have HDJ := Lib.hid hds
      have HNX := Lib.hid (HDS.out j)
      rw [hds] at hK hln
      obtain ⟨A0, c0, rfl⟩ := row_form hK.at0
      by_cases hjp : j < p
      · have hi2 : (j : Int) < (p : Int) := by omega
        by_cases hl : j + 1 < p
        · have hi3 : (j : Int) + 1 < (p : Int) := by omega
          have HP := Lib.hid (show divPart p j = [⟨9, 0⟩, ⟨3, 1⟩, ⟨10, 0⟩, ⟨2, 1⟩] ++ [⟨5, 1⟩] by unfold divPart; rw [if_pos hl])
          clear hds
          go_wp2_with (first
            | (at_builtin; refine kn_pushIns (m := []) (ys := [⟨9, 0⟩, ⟨3, 1⟩, ⟨10, 0⟩, ⟨2, 1⟩]) rfl _ _ rfl _ ds rfl rfl (hK.al [.int .i64 9, .int .i64 0, .int .i64 3, .int .i64 1, .int .i64 10, .int .i64 0, .int .i64 2, .int .i64 1] 71) (by simp; omega) ?_; intro v3 w3 hK3; clear hK)
            | (at_builtin; refine kn_pushIns (m := []) (ys := [⟨5, 1⟩]) rfl _ _ rfl _ (ds ++ [⟨9, 0⟩, ⟨3, 1⟩, ⟨10, 0⟩, ⟨2, 1⟩]) rfl rfl (hK3.al [.int .i64 5, .int .i64 1] 71) (by simp; omega) ?_; intro v4 w4 hK4))
          go_roundw
          case rel => exact ⟨j + 1, by omega, by go_num, by rw [HNX.out, HP.out, HDJ.out, ← List.append_assoc]; exact hK4⟩
          case measure => simp [intOf]; omega
        · have hi3 : ¬ (j : Int) + 1 < (p : Int) := by omega
          have HP := Lib.hid (show divPart p j = [⟨9, 0⟩, ⟨3, 1⟩, ⟨10, 0⟩, ⟨2, 1⟩] by unfold divPart; rw [if_neg hl]; rfl)
          clear hds
          go_wp2_with (first
            | (at_builtin; refine kn_pushIns (m := []) (ys := [⟨9, 0⟩, ⟨3, 1⟩, ⟨10, 0⟩, ⟨2, 1⟩]) rfl _ _ rfl _ ds rfl rfl (hK.al [.int .i64 9, .int .i64 0, .int .i64 3, .int .i64 1, .int .i64 10, .int .i64 0, .int .i64 2, .int .i64 1] 71) (by simp; omega) ?_; intro v3 w3 hK3; clear hK))
          go_roundw
          case rel => exact ⟨j + 1, by omega, by go_num, by rw [HNX.out, HP.out, HDJ.out]; exact hK3⟩
          case measure => simp [intOf]; omega
      · have hi2 : ¬ (j : Int) < (p : Int) := by omega
        obtain rfl : j = p := by omega
        clear hds
        go_wp2_with fail
        go_ret
        exact ⟨A0, c0, by (rw [HPR.out, HDJ.out]; try rfl), by rw [HPR.out, HDJ.out]; exact hK⟩
  · have hi1 : ¬ (1 : Int) < (p : Int) := by omega
    have hhl : divHead p = [] := by unfold divHead; rw [if_neg hp1]
    have HHL := Lib.hid hhl
    clear hhl
    go_wp2_with fail
    have hK1 := ((Kn.nil w).al [] 71).litRow (size := 2) (n := 0) rfl (by decide)
    have hK2 : Kn w [rowIns (.slice (some ⟨w.heap.size, 0, none⟩) 0 0) (divUpto p 0)] (w.alloc (.cells #[] 71)) := by rw [HD0.out, HHL.out]; exact hK1
    go_loopw [3, 15] (fun vv kk wr => ∃ (j : Nat), j ≤ p ∧ kk = .int .i64 (j : Int) ∧ Kn w [rowIns vv (divUpto p j)] wr) (fun _ kk _ => p - (intOf kk).toNat)
    case atStart => exact ⟨0, Nat.zero_le _, rfl, hK2⟩
    case round =>
      clear hK2
      obtain ⟨j, hj, rfl, hK⟩ := hrel
      have hln := HLN.out j
      obtain ⟨ds, hds⟩ : ∃ ds, divUpto p j = ds := ⟨_, rfl⟩
      have HDJ := Lib.hid hds
      have HNX := Lib.hid (HDS.out j)
      rw [hds] at hK hln
      obtain ⟨A0, c0, rfl⟩ := row_form hK.at0
      by_cases hjp : j < p
      · have hi2 : (j : Int) < (p : Int) := by omega
        by_cases hl : j + 1 < p
        · exfalso; omega
        · have hi3 : ¬ (j : Int) + 1 < (p : Int) := by omega
          have HP := Lib.hid (show divPart p j = [⟨9, 0⟩, ⟨3, 1⟩, ⟨10, 0⟩, ⟨2, 1⟩] by unfold divPart; rw [if_neg hl]; rfl)
          clear hds
          go_wp2_with (first
            | (at_builtin; refine kn_pushIns (m := []) (ys := [⟨9, 0⟩, ⟨3, 1⟩, ⟨10, 0⟩, ⟨2, 1⟩]) rfl _ _ rfl _ ds rfl rfl (hK.al [.int .i64 9, .int .i64 0, .int .i64 3, .int .i64 1, .int .i64 10, .int .i64 0, .int .i64 2, .int .i64 1] 71) (by simp; omega) ?_; intro v3 w3 hK3; clear hK))
          go_roundw
          case rel => exact ⟨j + 1, by omega, by go_num, by rw [HNX.out, HP.out, HDJ.out]; exact hK3⟩
          case measure => simp [intOf]; omega
      · have hi2 : ¬ (j : Int) < (p : Int) := by omega
        obtain rfl : j = p := by omega
        clear hds
        go_wp2_with fail
        go_ret
        exact ⟨A0, c0, by (rw [HPR.out, HDJ.out]; try rfl), by rw [HPR.out, HDJ.out]; exact hK⟩
set_option maxRecDepth 100000 in
set_option maxHeartbeats 1600000 in
theorem l12Divide_any (p : Nat) (w : World) (h1 : 1 ≤ p) (h2 : p ≤ 16) :
    Calls Try.prog 75 #[.int .i64 p] w fun e w' => ∃ A c, e = .returned (.slice A (divProg p).length c) ∧ Kn w [rowIns (.slice A (divProg p).length c) (divProg p)] w' := by
  have HD0 := Lib.hid (show divUpto p 0 = divHead p from rfl)
  have HDS := Lib.hid (fun j => show divUpto p (j + 1) = divUpto p j ++ divPart p j from rfl)
  have HLN := Lib.hid (divUpto_len p)
  have HPR := Lib.hid (show divProg p = divUpto p p from rfl)
  go_enter Try.func75, Try.ntmps75
  by_cases hp1 : 1 < p
  · have hi1 : (1 : Int) < (p : Int) := by omega
    have hhl : divHead p = [] ++ [⟨4, (p : Int) - 1⟩] := by unfold divHead; rw [if_pos hp1]; rfl
    have HHL := Lib.hid hhl
    clear hhl
    have hK1 := (((Kn.nil w).al [] 71).litRow (size := 2) (n := 0) rfl (by decide)).al [.int .i64 4, .int .i64 ((p : Int) - 1)] 71
    simp only [World.size_alloc] at hK1
    go_wp2_with (at_builtin; refine kn_pushIns (m := []) (xs := []) (ys := [⟨4, (p : Int) - 1⟩]) rfl _ _ rfl _ rfl rfl hK1 (by simp) ?_; intro v2 w2 hK2; rw [← HHL.out, ← HD0.out] at hK2)
    go_loopw [3, 4] (fun vv kk wr => ∃ (j : Nat), j ≤ p ∧ kk = .int .i64 ((p - j : Nat) : Int) ∧ Kn w [rowIns vv (divUpto p j)] wr) (fun _ kk _ => (intOf kk).toNat)
    case atStart => exact ⟨0, Nat.zero_le _, rfl, hK2⟩
    case round =>
      clear hK2
      obtain ⟨j, hj, rfl, hK⟩ := hrel
      have hln := HLN.out j
      obtain ⟨ds, hds⟩ : ∃ ds, divUpto p j = ds := ⟨_, rfl⟩
      have HDJ := Lib.hid hds
      have HNX := Lib.hid (HDS.out j)
      rw [hds] at hK hln
      obtain ⟨A0, c0, rfl⟩ := row_form hK.at0
      by_cases hjp : j < p
      · have hi2 : (0 : Int) < ((p - j : Nat) : Int) := by omega
        by_cases hl : j + 1 < p
        · have hi3 : (1 : Int) < ((p - j : Nat) : Int) := by omega
          have HP := Lib.hid (show divPart p j = [⟨9, 0⟩, ⟨3, 1⟩, ⟨10, 0⟩, ⟨2, 1⟩] ++ [⟨5, 1⟩] by unfold divPart; rw [if_pos hl])
          clear hds
          go_wp2_with (first
            | (at_builtin; refine kn_pushIns (m := []) (ys := [⟨9, 0⟩, ⟨3, 1⟩, ⟨10, 0⟩, ⟨2, 1⟩]) rfl _ _ rfl _ ds rfl rfl (hK.al [.int .i64 9, .int .i64 0, .int .i64 3, .int .i64 1, .int .i64 10, .int .i64 0, .int .i64 2, .int .i64 1] 71) (by simp; omega) ?_; intro v3 w3 hK3; clear hK)
            | (at_builtin; refine kn_pushIns (m := []) (ys := [⟨5, 1⟩]) rfl _ _ rfl _ (ds ++ [⟨9, 0⟩, ⟨3, 1⟩, ⟨10, 0⟩, ⟨2, 1⟩]) rfl rfl (hK3.al [.int .i64 5, .int .i64 1] 71) (by simp; omega) ?_; intro v4 w4 hK4))
          go_roundw
          case rel => exact ⟨j + 1, by omega, by (congr 1; omega), by rw [HNX.out, HP.out, HDJ.out, ← List.append_assoc]; exact hK4⟩
          case measure => simp [intOf]; omega
        · have hi3 : ¬ (1 : Int) < ((p - j : Nat) : Int) := by omega
          have HP := Lib.hid (show divPart p j = [⟨9, 0⟩, ⟨3, 1⟩, ⟨10, 0⟩, ⟨2, 1⟩] by unfold divPart; rw [if_neg hl]; rfl)
          clear hds
          go_wp2_with (first
            | (at_builtin; refine kn_pushIns (m := []) (ys := [⟨9, 0⟩, ⟨3, 1⟩, ⟨10, 0⟩, ⟨2, 1⟩]) rfl _ _ rfl _ ds rfl rfl (hK.al [.int .i64 9, .int .i64 0, .int .i64 3, .int .i64 1, .int .i64 10, .int .i64 0, .int .i64 2, .int .i64 1] 71) (by simp; omega) ?_; intro v3 w3 hK3; clear hK))
          go_roundw
          case rel => exact ⟨j + 1, by omega, by (congr 1; omega), by rw [HNX.out, HP.out, HDJ.out]; exact hK3⟩
          case measure => simp [intOf]; omega
      · have hi2 : ¬ (0 : Int) < ((p - j : Nat) : Int) := by omega
        obtain rfl : j = p := by omega
        clear hds
        go_wp2_with fail
        go_ret
        exact ⟨A0, c0, by (rw [HPR.out, HDJ.out]; try rfl), by rw [HPR.out, HDJ.out]; exact hK⟩
  · have hi1 : ¬ (1 : Int) < (p : Int) := by omega
    have hhl : divHead p = [] := by unfold divHead; rw [if_neg hp1]
    have HHL := Lib.hid hhl
    clear hhl
    go_wp2_with fail
    have hK1 := ((Kn.nil w).al [] 71).litRow (size := 2) (n := 0) rfl (by decide)
    have hK2 : Kn w [rowIns (.slice (some ⟨w.heap.size, 0, none⟩) 0 0) (divUpto p 0)] (w.alloc (.cells #[] 71)) := by rw [HD0.out, HHL.out]; exact hK1
    go_loopw [3, 4] (fun vv kk wr => ∃ (j : Nat), j ≤ p ∧ kk = .int .i64 ((p - j : Nat) : Int) ∧ Kn w [rowIns vv (divUpto p j)] wr) (fun _ kk _ => (intOf kk).toNat)
    case atStart => exact ⟨0, Nat.zero_le _, rfl, hK2⟩
    case round =>
      clear hK2
      obtain ⟨j, hj, rfl, hK⟩ := hrel
      have hln := HLN.out j
      obtain ⟨ds, hds⟩ : ∃ ds, divUpto p j = ds := ⟨_, rfl⟩
      have HDJ := Lib.hid hds
      have HNX := Lib.hid (HDS.out j)
      rw [hds] at hK hln
      obtain ⟨A0, c0, rfl⟩ := row_form hK.at0
      by_cases hjp : j < p
      · have hi2 : (0 : Int) < ((p - j : Nat) : Int) := by omega
        by_cases hl : j + 1 < p
        · exfalso; omega
        · have hi3 : ¬ (1 : Int) < ((p - j : Nat) : Int) := by omega
          have HP := Lib.hid (show divPart p j = [⟨9, 0⟩, ⟨3, 1⟩, ⟨10, 0⟩, ⟨2, 1⟩] by unfold divPart; rw [if_neg hl]; rfl)
          clear hds
          go_wp2_with (first
            | (at_builtin; refine kn_pushIns (m := []) (ys := [⟨9, 0⟩, ⟨3, 1⟩, ⟨10, 0⟩, ⟨2, 1⟩]) rfl _ _ rfl _ ds rfl rfl (hK.al [.int .i64 9, .int .i64 0, .int .i64 3, .int .i64 1, .int .i64 10, .int .i64 0, .int .i64 2, .int .i64 1] 71) (by simp; omega) ?_; intro v3 w3 hK3; clear hK))
          go_roundw
          case rel => exact ⟨j + 1, by omega, by (congr 1; omega), by rw [HNX.out, HP.out, HDJ.out]; exact hK3⟩
          case measure => simp [intOf]; omega
      · have hi2 : ¬ (0 : Int) < ((p - j : Nat) : Int) := by omega
        obtain rfl : j = p := by omega
        clear hds
        go_wp2_with fail
        go_ret
        exact ⟨A0, c0, by (rw [HPR.out, HDJ.out]; try rfl), by rw [HPR.out, HDJ.out]; exact hK⟩
end Go.Proofs.Ytcapccadpbiecaa

namespace Go.Proofs.Ytcapccadpbiecaa
open Go.RowKit Go.Sort
theorem l12Room_any (p : Addr) (b : Int) (A : Option Addr) (n c : Nat) (w : World) (hp : RegAt w p b A n c) (b1 : 2 ≤ b) (b2 : b ≤ 16) (hn : n ≤ 9223372036854775807) :
    Calls Try.prog 69 #[.pointer (some p)] w fun e w' => e = .returned (.int .i64 (powS b n)) ∧ ∃ q, w' = w.drewN q := by
  obtain ⟨q1, q2⟩ := hp
  have KP := Lib.hid (fun W => l10Power_any b n W b1 b2 hn)
  go_enter Try.func69, Try.ntmps69
  go_wp2_with fail
  go_quiet ((go_at_call 71; exact quiet_left (KP.out _)))
  go_wp2
  go_ret
  exact ⟨rfl, _, rfl⟩
/-- a fresh machine of a base and widths -/
def newT (b : Int) (n1 n2 n3 : Nat) : Tri := ⟨⟨b, digD b n1 0⟩, ⟨b, digD b n2 0⟩, ⟨b, digD b n3 0⟩, 0⟩
set_option maxRecDepth 100000 in
set_option maxHeartbeats 1600000 in
theorem l10New_any (b : Int) (n1 n2 n3 : Nat) (w : World) (b1 : 2 ≤ b) (b2 : b ≤ 16) (h1 : n1 ≤ 1000000) (h2 : n2 ≤ 1000000) (h3 : n3 ≤ 1000000) :
    Calls Try.prog 117 #[.int .i64 b, .int .i64 n1, .int .i64 n2, .int .i64 n3] w fun e w' => ∃ E1 g1 E2 g2 E3 g3, e = .returned (.agg #[.int .i64 b, .slice E1 (digD b n1 0).length g1, .int .i64 b, .slice E2 (digD b n2 0).length g2, .int .i64 b, .slice E3 (digD b n3 0).length g3, .int .i64 0]) ∧
      Kn w [rowI E3 g3 (digD b n3 0), rowI E2 g2 (digD b n2 0), rowI E1 g1 (digD b n1 0)] w' := by
  have K1 := (fun W => l02NewV_any b n1 0 W b1 b2 h1 (by decide) (by decide))
  have K2 := (fun W => l02NewV_any b n2 0 W b1 b2 h2 (by decide) (by decide))
  have K3 := (fun W => l02NewV_any b n3 0 W b1 b2 h3 (by decide) (by decide))
  obtain ⟨x1, hx1⟩ : ∃ x, digD b n1 0 = x := ⟨_, rfl⟩
  obtain ⟨x2, hx2⟩ : ∃ x, digD b n2 0 = x := ⟨_, rfl⟩
  obtain ⟨x3, hx3⟩ : ∃ x, digD b n3 0 = x := ⟨_, rfl⟩
  rw [hx1] at K1 ⊢
  rw [hx2] at K2 ⊢
  rw [hx3] at K3 ⊢
  have K1 := Lib.hid K1
  have K2 := Lib.hid K2
  have K3 := Lib.hid K3
  clear hx1 hx2 hx3
  go_enter Try.func117, Try.ntmps117
  go_wp2_with fail
  refine Calls.kn ((Kn.nil w).al [.int .i64 0, .slice none 0 0, .int .i64 0, .slice none 0 0, .int .i64 0, .slice none 0 0, .int .i64 0] 28) ?_; intro w1 hK1
  (with_reducible refine (K1.out _).mono ?_); rintro e w2 ⟨E1, g1, rfl, hKn⟩
  have hK2 := hK1.join hKn
  go_wp2_with fail
  refine Calls.kn (hK2.al [.int .i64 b, .slice E1 x1.length g1] 26) ?_; intro w3 hK3
  (with_reducible refine (K2.out _).mono ?_); rintro e w4 ⟨E2, g2, rfl, hKm⟩
  have hK4 := hK3.join hKm
  go_wp2_with fail
  refine Calls.kn (hK4.al [.int .i64 b, .slice E2 x2.length g2] 26) ?_; intro w5 hK5
  (with_reducible refine (K3.out _).mono ?_); rintro e w6 ⟨E3, g3, rfl, hKo⟩
  have hK6 := hK5.join hKo
  clear hK1 hK2 hK3 hK4 hK5 hKn hKm hKo
  obtain ⟨a1, a2, a3, d1, d2, d3, c1, c2, c3, -⟩ := hK6.cells
  go_wp2_with fail
  refine bodyPost.kn ((((((((hK6.front 5 rfl).st 0 (.int .i64 b)).st 1 (.slice E1 x1.length g1)).st 2 (.int .i64 b)).st 3 (.slice E2 x2.length g2)).st 4 (.int .i64 b)).st 5 (.slice E3 x3.length g3)).st 6 (.int .i64 0) |>.al_ _) ?_; intro w7 hK7
  clear a1 a2 a3 d1 d2 d3 c1 c2 c3
  obtain ⟨a1, a2, a3, -⟩ := hK7.cells
  refine bodyPost_ret (v := .agg #[.int .i64 b, .slice E1 x1.length g1, .int .i64 b, .slice E2 x2.length g2, .int .i64 b, .slice E3 x3.length g3, .int .i64 0]) (by simp [results, Try.results117, go_sem, a1]) rfl ⟨E1, g1, E2, g2, E3, g3, rfl, ?_⟩
  exact hK7.sel [1, 3, 5] 99 (by decide) (by decide)
end Go.Proofs.Ytcapccadpbiecaa

namespace Go.Proofs.Ytcapccadpbiecaa
open Go.RowKit Go.Sort
theorem draw_vreg {b : Int} {ds : List Int} (h1 : 2 ≤ b) (h2 : b ≤ 16) (h3 : 1 ≤ ds.length) (h4 : ds.length ≤ 16) (hd : ∀ d ∈ ds, 0 ≤ d ∧ d < b) (hp : pw b ds.length ≤ 1000000000001) : vreg b ds = true := by
  have h5 := valL_lt b h1 ds hd
  exact vreg_iff.2 ⟨⟨h1, h2⟩, ⟨by omega, by omega⟩, hd, by omega⟩
theorem base_mem {b : Int} (h : b ∈ [(10 : Int), 10, 10, 2, 3, 8, 12]) : 2 ≤ b ∧ b ≤ 12 ∧ pw b 8 ≤ 1000000000001 := by
  have H : ∀ b ∈ [(10 : Int), 10, 10, 2, 3, 8, 12], 2 ≤ b ∧ b ≤ 12 ∧ pw b 8 ≤ 1000000000001 := by decide
  exact H b h
theorem pickN {x n : Int} (hn : 1 ≤ n) (h : 0 ≤ x ∧ (x < n ∨ (n ≤ 1 ∧ x = 0))) : ∃ q : Nat, x = q ∧ (q : Int) ≤ n - 1 := ⟨x.toNat, by omega, by omega⟩
/-- what the drawing of a machine returns -/
def DMach (b M : Nat) (w : World) (e : Ending) (w' : World) : Prop := ∃ (t : Tri) (A1 : Option Addr) (c1 : Nat) (A2 : Option Addr) (c2 : Nat) (A3 : Option Addr) (c3 : Nat), e = .returned (.agg #[.int .i64 t.a.base, .slice A1 t.a.digits.length c1, .int .i64 t.b.base, .slice A2 t.b.digits.length c2, .int .i64 t.s.base, .slice A3 t.s.digits.length c3, .int .i64 t.carry]) ∧ vmach t = true ∧ DR b M w [rowI A3 c3 t.s.digits, rowI A2 c2 t.b.digits, rowI A1 c1 t.a.digits] w'
theorem DR.triC {b N : Nat} {w wi : World} {m : List Ent} {g : Nat} {t : Tri} {A1 A2 A3 : Option Addr} {c1 c2 c3 : Nat} (h : DR b N w ([.blk g [.int .i64 t.a.base, .slice A1 t.a.digits.length c1, .int .i64 t.b.base, .slice A2 t.b.digits.length c2, .int .i64 t.s.base, .slice A3 t.s.digits.length c3, .int .i64 t.carry] 28, rowI A3 c3 t.s.digits, rowI A2 c2 t.b.digits, rowI A1 c1 t.a.digits] ++ m) wi) : TriC wi ⟨g, 0, none⟩ t A1 c1 A2 c2 A3 c3 := by
  obtain ⟨v, -, -, hK⟩ := h
  exact ⟨⟨hK.blkAt.1 0, hK.blkAt.1 1, hK.blkAt.1 2, hK.blkAt.1 3, hK.blkAt.1 4, hK.blkAt.1 5, hK.blkAt.1 6⟩, hK.drop.drop.drop.riv, hK.drop.drop.riv, hK.drop.riv⟩
set_option maxRecDepth 100000 in
set_option maxHeartbeats 3200000 in
theorem l10Draw_dr (b N : Nat) (w : World) (h : Src w b N) (hN : N ≤ 700000) :
    Calls Try.prog 108 #[.pointer (some ⟨b, 0, none⟩)] w (DMach b (N + 200) w) := by
  unfold DMach
  have D0 := DR.nil h
  clear h
  go_enter Try.func108, Try.ntmps108
  go_wp2_with fail
  refine Calls.dr ((D0.al [.int .i64 0, .slice none 0 0, .int .i64 0, .slice none 0 0, .int .i64 0, .slice none 0 0, .int .i64 0] 28).al [.int .i64 10, .int .i64 10, .int .i64 10, .int .i64 2, .int .i64 3, .int .i64 8, .int .i64 12] 2) ?_; intro w1 D1
  simp only [World.size_alloc] at D1
  obtain ⟨hr, hA⟩ := DR.lit (ds := [10, 10, 10, 2, 3, 8, 12]) D1 (by decide)
  refine (among_dr b _ _ 7 7 _ w1 D1.src (by omega) hr hA (by omega) (by omega)).mono ?_; rintro e w2 ⟨bs, rfl, hx, h2⟩
  obtain ⟨b1, b2, b3⟩ := base_mem hx
  have D2 := (D1.add h2).sel [1] 99 (by decide) (by decide)
  clear D0 D1 h2 hr hA hx
  go_wp2_with fail
  refine (pick_dr b _ 4 w2 D2.src (by omega)).mono ?_; rintro e w3 ⟨y, rfl, hy, h3⟩
  have D3 := D2.add h3
  obtain ⟨q1, rfl, hq1⟩ := pickN (by omega) hy
  have hw1 : IntKind.i64.wrap (1 + (q1 : Int)) = ((q1 + 1 : Nat) : Int) := by rw [wrapI64 (by omega)]; omega
  obtain ⟨n1, hn1⟩ : ∃ n, q1 + 1 = n := ⟨_, rfl⟩
  rw [hn1] at hw1
  clear D2 h3 hy
  go_wp2_with fail
  refine (pick_dr b _ 5 w3 D3.src (by omega)).mono ?_; rintro e w4 ⟨y, rfl, hy, h4⟩
  have D4 := D3.add h4
  obtain ⟨q2, rfl, hq2'⟩ := pickN (by omega) hy
  have hw2 : IntKind.i64.wrap ((n1 : Int) + (q2 : Int)) = ((n1 + q2 : Nat) : Int) := by rw [wrapI64 (by omega)]; omega
  obtain ⟨n2, hn2⟩ : ∃ n, n1 + q2 = n := ⟨_, rfl⟩
  rw [hn2] at hw2
  clear D3 h4 hy
  go_wp2_with fail
  refine (pick_dr b _ 5 w4 D4.src (by omega)).mono ?_; rintro e w5 ⟨y, rfl, hy, h5⟩
  have D5 := D4.add h5
  obtain ⟨q3, rfl, hq3'⟩ := pickN (by omega) hy
  have hw3 : IntKind.i64.wrap (1 + (q3 : Int)) = ((q3 + 1 : Nat) : Int) := by rw [wrapI64 (by omega)]; omega
  obtain ⟨n3, hn3⟩ : ∃ n, q3 + 1 = n := ⟨_, rfl⟩
  rw [hn3] at hw3
  clear D4 h5 hy
  have hl1 : 1 ≤ n1 ∧ n1 ≤ n2 ∧ n2 ≤ 8 ∧ 1 ≤ n3 ∧ n3 ≤ 5 := by omega
  clear hn1 hn2 hn3 hq1 hq2' hq3'
  have KN := l10New_any bs n1 n2 n3 w5 (by omega) (by omega) (by omega) (by omega) (by omega)
  have hz3 := digD_vreg bs (by omega) (by omega) n3 (by omega) (by omega) 0 (by omega) (by have := pw_pos bs (by omega) n3; omega) (by omega)
  have hz2 := digD_vreg bs (by omega) (by omega) n2 (by omega) (by omega) 0 (by omega) (by have := pw_pos bs (by omega) n2; omega) (by omega)
  obtain ⟨x1, hx1⟩ : ∃ x, digD bs n1 0 = x := ⟨_, rfl⟩
  obtain ⟨ds2, hx2⟩ : ∃ x, digD bs n2 0 = x := ⟨_, rfl⟩
  obtain ⟨x3, hx3⟩ : ∃ x, digD bs n3 0 = x := ⟨_, rfl⟩
  have hm1 : x1.length = n1 := by rw [← hx1, digD_len]
  have hm2 : ds2.length = n2 := by rw [← hx2, digD_len]
  have hm3 : x3.length = n3 := by rw [← hx3, digD_len]
  rw [hx1, hx2, hx3, hm1, hm2, hm3] at KN
  rw [hx3] at hz3
  rw [hx2] at hz2
  have HM2 := Lib.hid hm2
  have HM3 := Lib.hid hm3
  have hpw : ∀ n : Nat, n ≤ 8 → pw bs n ≤ 1000000000001 := fun n hn => Int.le_trans (pw_mono bs (by omega) n 8 hn) b3
  have HPW := Lib.hid hpw
  have HZ3 := Lib.hid hz3
  have HZ2 := Lib.hid hz2
  replace KN := Lib.hid KN
  clear hx1 hx2 hx3 hm1 hm2 hm3 b3 hpw hz3 hz2
  go_wp2_with fail
  refine KN.out.mono ?_; rintro e w6 ⟨E1, g1, A2, c2, A3, c3, rfl, hKn⟩
  have D6 := D5.kn (fun v hK => hK.join hKn)
  clear D5 hKn
  go_wp2_with fail
  refine Calls.dr (D6.al [.int .i64 bs, .slice E1 n1 g1, .int .i64 bs, .slice A2 n2 c2, .int .i64 bs, .slice A3 n3 c3, .int .i64 0] 28) ?_; intro w7 D7
  obtain ⟨g, hg⟩ : ∃ g, w6.heap.size = g := ⟨_, rfl⟩
  rw [hg] at D7 ⊢
  clear D6 hg
  refine (digits_dr b _ bs n1 w7 D7.src (by omega) (by omega) (by omega) (by omega)).mono ?_; rintro e w8 ⟨A1, c1, ds1, rfl, hd1, hdd1, h8⟩
  have D8 := D7.add h8
  have HV1 := Lib.hid (draw_vreg (b := bs) (ds := ds1) (by omega) (by omega) (by omega) (by omega) hdd1 (HPW.out _ (by omega)))
  clear D7 h8 hdd1
  obtain ⟨a1, a2, a3, -⟩ := (D8.front 1 rfl).cells
  go_upto_region 6 with fail
  refine Code.wp.dr ((D8.front 1 rfl).st 1 (.slice A1 n1 c1)) ?_; intro w9 D9
  clear a1 a2 a3 D8
  go_wp2_with fail
  refine (one_dr b _ 2 w9 D9.src (by omega)).mono ?_; rintro e w10 ⟨yes, rfl, h10⟩
  have D10 := D9.add h10
  clear D9 h10
  obtain ⟨a1, a2, a3, -⟩ := D10.cells
  rcases yes with _ | _
  · have D9 := (D10.sel [0, 2, 3, 1, 5] 99 (by decide) (by decide)).mono (M := N + 120) (by omega)
    have hv1 := HV1.out
    have hv2 := HZ2.out
    have hv3 := HZ3.out
    have hx2l := HM2.out
    have hx3l := HM3.out
    have hq2 := HPW.out n2 (by omega)
    have hq3 := HPW.out n3 (by omega)
    have hl12 := hl1.2.1
    clear HV1 HZ2 HZ3 HM2 HM3 HPW KN
    subst hd1
    subst hx2l
    subst hx3l
    obtain ⟨t, ht⟩ : ∃ t : Tri, t = ⟨⟨bs, ds1⟩, ⟨bs, ds2⟩, ⟨bs, x3⟩, 0⟩ := ⟨_, rfl⟩
    have ha : t.a.digits = ds1 ∧ t.a.base = bs ∧ t.b.digits = ds2 ∧ t.b.base = bs ∧ t.s.digits = x3 ∧ t.s.base = bs ∧ t.carry = 0 := by rw [ht]; exact ⟨rfl, rfl, rfl, rfl, rfl, rfl, rfl⟩
    have D9 : DR b (N + 120) w [.blk g [.int .i64 t.a.base, .slice A1 t.a.digits.length c1, .int .i64 t.b.base, .slice A2 t.b.digits.length c2, .int .i64 t.s.base, .slice A3 t.s.digits.length c3, .int .i64 t.carry] 28, rowI A3 c3 t.s.digits, rowI A2 c2 t.b.digits, rowI A1 c1 t.a.digits, .blk w.heap.size [.int .i64 0, .slice none 0 0, .int .i64 0, .slice none 0 0, .int .i64 0, .slice none 0 0, .int .i64 0] 28] w10 := by rw [ha.1, ha.2.1, ha.2.2.1, ha.2.2.2.1, ha.2.2.2.2.1, ha.2.2.2.2.2.1, ha.2.2.2.2.2.2]; exact D9
    obtain ⟨vp1, vp2⟩ : 1 ≤ vplaces t ∧ vplaces t ≤ 16 := by unfold vplaces; rw [ha.1, ha.2.2.1, ha.2.2.2.2.1]; omega
    have hok : ∀ p : Int, 0 ≤ p → p ≤ vplaces t - 1 → vmach { t with carry := p } = true := fun p p0 p1 => by
      subst ht
      exact vmach_mk (t := ⟨⟨bs, ds1⟩, ⟨bs, ds2⟩, ⟨bs, x3⟩, p⟩) hv1 hv2 hv3 rfl rfl hq2 hq3 hl12 p0 p1
    have HOK := Lib.hid hok
    have HLT := Lib.hid (show t.a.digits.length ≤ 16 ∧ t.b.digits.length ≤ 16 ∧ t.s.digits.length ≤ 16 by rw [ha.1, ha.2.2.1, ha.2.2.2.2.1]; omega)
    clear hok ht ha hv1 hv2 hv3 hq2 hq3
    have KP := Lib.hid (l10Places_any ⟨g, 0, none⟩ t w10 (DR.triC (m := [.blk w.heap.size [.int .i64 0, .slice none 0 0, .int .i64 0, .slice none 0 0, .int .i64 0, .slice none 0 0, .int .i64 0] 28]) D9).tri HLT.out.1 HLT.out.2.1 HLT.out.2.2)
    obtain ⟨a1, a2, a3, -⟩ := D9.cells
    go_wp2_with fail
    refine KP.out.mono ?_; rintro e w10 ⟨rfl, mq, rfl⟩
    have D10 := D9.kn (fun v hK => hK.drewN mq)
    clear a1 a2 a3
    go_wp2_with fail
    refine (pick_dr b (N + 120) (vplaces t) _ D10.src (by omega)).mono ?_; rintro e w11 ⟨y, rfl, hy, h11⟩
    have D11 := D10.add h11
    obtain ⟨p, rfl, hp⟩ := pickN vp1 hy
    clear D9 D10 h11 hy KP
    obtain ⟨a1, a2, a3, -⟩ := D11.cells
    go_upto_region 9 with fail
    refine Code.wp.dr (D11.st 6 (.int .i64 (p : Int))) ?_; intro w12 D12
    clear a1 a2 a3 D11
    go_wp2_with fail
    refine (pick_dr b _ 5 w12 D12.src (by omega)).mono ?_; rintro e w13 ⟨y, rfl, hy, h13⟩
    have D13 := D12.add h13
    obtain ⟨k0, rfl, hk0⟩ := pickN (by omega) hy
    have hV0 := Lib.hid (HOK.out (p : Int) (by omega) (by omega))
    clear D12 h13 hy HLT
    obtain ⟨a1, a2, a3, -⟩ := D13.cells
    go_wp2_with fail
    clear a1 a2 a3
    go_loopw [7] (fun kk wr => ∃ (k : Nat) (t : Tri) (A1 : Option Addr) (c1 : Nat) (A2 : Option Addr) (c2 : Nat) (A3 : Option Addr) (c3 : Nat), k ≤ 4 ∧ kk = .int .i64 (k : Int) ∧ Hid (vmach t = true) ∧ DR b (N + 140 - 2 * k) w [.blk g [.int .i64 t.a.base, .slice A1 t.a.digits.length c1, .int .i64 t.b.base, .slice A2 t.b.digits.length c2, .int .i64 t.s.base, .slice A3 t.s.digits.length c3, .int .i64 t.carry] 28, rowI A3 c3 t.s.digits, rowI A2 c2 t.b.digits, rowI A1 c1 t.a.digits, .blk w.heap.size [.int .i64 0, .slice none 0 0, .int .i64 0, .slice none 0 0, .int .i64 0, .slice none 0 0, .int .i64 0] 28] wr) (fun kk _ => (intOf kk).toNat)
    case atStart => exact ⟨k0, { t with carry := p }, A1, c1, A2, c2, A3, c3, by omega, rfl, hV0, D13.mono (by omega)⟩
    case round =>
      clear D13 hV0 HOK vp1 vp2
      obtain ⟨k, t, A1, c1, A2, c2, A3, c3, hk4, rfl, HV, D⟩ := hrel
      obtain ⟨a1, a2, a3, a4, a5, a6, -⟩ := D.cells
      by_cases hk0 : 0 < k
      · have i1 : (0 : Int) < (k : Int) := by omega
        clear a1 a2 a3 a4 a5 a6
        go_wp2_with fail
        refine (pick_dr b _ 4 wr D.src (by omega)).mono ?_; rintro e w14 ⟨y, rfl, hy, h14⟩
        have D14 := D.add h14
        obtain ⟨q, rfl, hq⟩ := pickN (by omega) hy
        obtain ⟨v, hT, hS, hK⟩ := D14
        have hqw : IntKind.i64.wrap (1 + (q : Int)) = 1 + (q : Int) := wrapI64 (by omega)
        have KD := Lib.hid (l10DoK (m := [.blk w.heap.size [.int .i64 0, .slice none 0 0, .int .i64 0, .slice none 0 0, .int .i64 0, .slice none 0 0, .int .i64 0] 28]) (rest := []) t (1 + (q : Int)) w14 ⟨A1, c1, A2, c2, A3, c3, hK⟩ HV.out (by omega))
        obtain ⟨r, hr⟩ : ∃ r, strokeT (1 + (q : Int)) t = r := ⟨_, rfl⟩
        have HVR := Lib.hid (show vmach r.1 = true by rw [← hr]; exact strokeT_ok _ HV.out)
        rw [hr] at KD
        have HT := Lib.hid hT
        have HS := Lib.hid hS
        clear h14 hy hr hT hS hK D
        go_wp2_with fail
        refine KD.out.mono ?_; rintro e w15 ⟨rfl, E1, f1, E2, f2, E3, f3, hM⟩
        go_wp2_with fail
        go_roundw
        case rel => exact ⟨k - 1, r.1, E1, f1, E2, f2, E3, f3, by omega, by go_num, HVR, DR.mono (N := N + 140 - 2 * k + 2) ⟨v, HT.out, HS.out, hM⟩ (by omega)⟩
        case measure => simp [intOf]; omega
      · have i1 : ¬ (0 : Int) < (k : Int) := by omega
        go_wp2_with fail
        refine bodyPost.dr ((((((((D.front 4 rfl).st 0 (.int .i64 t.a.base)).st 1 (.slice A1 t.a.digits.length c1)).st 2 (.int .i64 t.b.base)).st 3 (.slice A2 t.b.digits.length c2)).st 4 (.int .i64 t.s.base)).st 5 (.slice A3 t.s.digits.length c3)).st 6 (.int .i64 t.carry)) ?_; intro w16 D16
        clear a1 a2 a3 a4 a5 a6
        obtain ⟨a1, a2, a3, -⟩ := D16.cells
        refine bodyPost_ret (v := .agg #[.int .i64 t.a.base, .slice A1 t.a.digits.length c1, .int .i64 t.b.base, .slice A2 t.b.digits.length c2, .int .i64 t.s.base, .slice A3 t.s.digits.length c3, .int .i64 t.carry]) (by simp [results, Try.results108, go_sem, a1]) rfl ⟨t, A1, c1, A2, c2, A3, c3, rfl, HV.out, ?_⟩
        exact (D16.sel [2, 3, 4] 99 (by decide) (by decide)).mono (by omega)
  · clear HZ2 HM2
    go_wp2_with fail
    refine (digits_dr b _ bs n2 w10 D10.src (by omega) (by omega) (by omega) (by omega)).mono ?_; rintro e w11 ⟨A2, c2, ds2, rfl, hd2, hdd2, h11⟩
    have D11 := D10.add h11
    have HZ2 := Lib.hid (draw_vreg (b := bs) (ds := ds2) (by omega) (by omega) (by omega) (by omega) hdd2 (HPW.out _ (by omega)))
    have HM2 := Lib.hid hd2
    clear a1 a2 a3 h11 hdd2 hd2 D10
    obtain ⟨a1, a2, a3, -⟩ := (D11.front 1 rfl).cells
    go_upto_region 8 with fail
    refine Code.wp.dr ((D11.front 1 rfl).st 3 (.slice A2 n2 c2)) ?_; intro w12 D12
    have D9 := (D12.sel [0, 3, 1, 2, 6] 99 (by decide) (by decide)).mono (M := N + 120) (by omega)
    clear a1 a2 a3 D11 D12
    have hv1 := HV1.out
    have hv2 := HZ2.out
    have hv3 := HZ3.out
    have hx2l := HM2.out
    have hx3l := HM3.out
    have hq2 := HPW.out n2 (by omega)
    have hq3 := HPW.out n3 (by omega)
    have hl12 := hl1.2.1
    clear HV1 HZ2 HZ3 HM2 HM3 HPW KN
    subst hd1
    subst hx2l
    subst hx3l
    obtain ⟨t, ht⟩ : ∃ t : Tri, t = ⟨⟨bs, ds1⟩, ⟨bs, ds2⟩, ⟨bs, x3⟩, 0⟩ := ⟨_, rfl⟩
    have ha : t.a.digits = ds1 ∧ t.a.base = bs ∧ t.b.digits = ds2 ∧ t.b.base = bs ∧ t.s.digits = x3 ∧ t.s.base = bs ∧ t.carry = 0 := by rw [ht]; exact ⟨rfl, rfl, rfl, rfl, rfl, rfl, rfl⟩
    have D9 : DR b (N + 120) w [.blk g [.int .i64 t.a.base, .slice A1 t.a.digits.length c1, .int .i64 t.b.base, .slice A2 t.b.digits.length c2, .int .i64 t.s.base, .slice A3 t.s.digits.length c3, .int .i64 t.carry] 28, rowI A3 c3 t.s.digits, rowI A2 c2 t.b.digits, rowI A1 c1 t.a.digits, .blk w.heap.size [.int .i64 0, .slice none 0 0, .int .i64 0, .slice none 0 0, .int .i64 0, .slice none 0 0, .int .i64 0] 28] w12 := by rw [ha.1, ha.2.1, ha.2.2.1, ha.2.2.2.1, ha.2.2.2.2.1, ha.2.2.2.2.2.1, ha.2.2.2.2.2.2]; exact D9
    obtain ⟨vp1, vp2⟩ : 1 ≤ vplaces t ∧ vplaces t ≤ 16 := by unfold vplaces; rw [ha.1, ha.2.2.1, ha.2.2.2.2.1]; omega
    have hok : ∀ p : Int, 0 ≤ p → p ≤ vplaces t - 1 → vmach { t with carry := p } = true := fun p p0 p1 => by
      subst ht
      exact vmach_mk (t := ⟨⟨bs, ds1⟩, ⟨bs, ds2⟩, ⟨bs, x3⟩, p⟩) hv1 hv2 hv3 rfl rfl hq2 hq3 hl12 p0 p1
    have HOK := Lib.hid hok
    have HLT := Lib.hid (show t.a.digits.length ≤ 16 ∧ t.b.digits.length ≤ 16 ∧ t.s.digits.length ≤ 16 by rw [ha.1, ha.2.2.1, ha.2.2.2.2.1]; omega)
    clear hok ht ha hv1 hv2 hv3 hq2 hq3
    have KP := Lib.hid (l10Places_any ⟨g, 0, none⟩ t w12 (DR.triC (m := [.blk w.heap.size [.int .i64 0, .slice none 0 0, .int .i64 0, .slice none 0 0, .int .i64 0, .slice none 0 0, .int .i64 0] 28]) D9).tri HLT.out.1 HLT.out.2.1 HLT.out.2.2)
    obtain ⟨a1, a2, a3, -⟩ := D9.cells
    go_wp2_with fail
    refine KP.out.mono ?_; rintro e w10 ⟨rfl, mq, rfl⟩
    have D10 := D9.kn (fun v hK => hK.drewN mq)
    clear a1 a2 a3
    go_wp2_with fail
    refine (pick_dr b (N + 120) (vplaces t) _ D10.src (by omega)).mono ?_; rintro e w11 ⟨y, rfl, hy, h11⟩
    have D11 := D10.add h11
    obtain ⟨p, rfl, hp⟩ := pickN vp1 hy
    clear D9 D10 h11 hy KP
    obtain ⟨a1, a2, a3, -⟩ := D11.cells
    go_upto_region 9 with fail
    refine Code.wp.dr (D11.st 6 (.int .i64 (p : Int))) ?_; intro w12 D12
    clear a1 a2 a3 D11
    go_wp2_with fail
    refine (pick_dr b _ 5 w12 D12.src (by omega)).mono ?_; rintro e w13 ⟨y, rfl, hy, h13⟩
    have D13 := D12.add h13
    obtain ⟨k0, rfl, hk0⟩ := pickN (by omega) hy
    have hV0 := Lib.hid (HOK.out (p : Int) (by omega) (by omega))
    clear D12 h13 hy HLT
    obtain ⟨a1, a2, a3, -⟩ := D13.cells
    go_wp2_with fail
    clear a1 a2 a3
    go_loopw [7] (fun kk wr => ∃ (k : Nat) (t : Tri) (A1 : Option Addr) (c1 : Nat) (A2 : Option Addr) (c2 : Nat) (A3 : Option Addr) (c3 : Nat), k ≤ 4 ∧ kk = .int .i64 (k : Int) ∧ Hid (vmach t = true) ∧ DR b (N + 140 - 2 * k) w [.blk g [.int .i64 t.a.base, .slice A1 t.a.digits.length c1, .int .i64 t.b.base, .slice A2 t.b.digits.length c2, .int .i64 t.s.base, .slice A3 t.s.digits.length c3, .int .i64 t.carry] 28, rowI A3 c3 t.s.digits, rowI A2 c2 t.b.digits, rowI A1 c1 t.a.digits, .blk w.heap.size [.int .i64 0, .slice none 0 0, .int .i64 0, .slice none 0 0, .int .i64 0, .slice none 0 0, .int .i64 0] 28] wr) (fun kk _ => (intOf kk).toNat)
    case atStart => exact ⟨k0, { t with carry := p }, A1, c1, A2, c2, A3, c3, by omega, rfl, hV0, D13.mono (by omega)⟩
    case round =>
      clear D13 hV0 HOK vp1 vp2
      obtain ⟨k, t, A1, c1, A2, c2, A3, c3, hk4, rfl, HV, D⟩ := hrel
      obtain ⟨a1, a2, a3, a4, a5, a6, -⟩ := D.cells
      by_cases hk0 : 0 < k
      · have i1 : (0 : Int) < (k : Int) := by omega
        clear a1 a2 a3 a4 a5 a6
        go_wp2_with fail
        refine (pick_dr b _ 4 wr D.src (by omega)).mono ?_; rintro e w14 ⟨y, rfl, hy, h14⟩
        have D14 := D.add h14
        obtain ⟨q, rfl, hq⟩ := pickN (by omega) hy
        obtain ⟨v, hT, hS, hK⟩ := D14
        have hqw : IntKind.i64.wrap (1 + (q : Int)) = 1 + (q : Int) := wrapI64 (by omega)
        have KD := Lib.hid (l10DoK (m := [.blk w.heap.size [.int .i64 0, .slice none 0 0, .int .i64 0, .slice none 0 0, .int .i64 0, .slice none 0 0, .int .i64 0] 28]) (rest := []) t (1 + (q : Int)) w14 ⟨A1, c1, A2, c2, A3, c3, hK⟩ HV.out (by omega))
        obtain ⟨r, hr⟩ : ∃ r, strokeT (1 + (q : Int)) t = r := ⟨_, rfl⟩
        have HVR := Lib.hid (show vmach r.1 = true by rw [← hr]; exact strokeT_ok _ HV.out)
        rw [hr] at KD
        have HT := Lib.hid hT
        have HS := Lib.hid hS
        clear h14 hy hr hT hS hK D
        go_wp2_with fail
        refine KD.out.mono ?_; rintro e w15 ⟨rfl, E1, f1, E2, f2, E3, f3, hM⟩
        go_wp2_with fail
        go_roundw
        case rel => exact ⟨k - 1, r.1, E1, f1, E2, f2, E3, f3, by omega, by go_num, HVR, DR.mono (N := N + 140 - 2 * k + 2) ⟨v, HT.out, HS.out, hM⟩ (by omega)⟩
        case measure => simp [intOf]; omega
      · have i1 : ¬ (0 : Int) < (k : Int) := by omega
        go_wp2_with fail
        refine bodyPost.dr ((((((((D.front 4 rfl).st 0 (.int .i64 t.a.base)).st 1 (.slice A1 t.a.digits.length c1)).st 2 (.int .i64 t.b.base)).st 3 (.slice A2 t.b.digits.length c2)).st 4 (.int .i64 t.s.base)).st 5 (.slice A3 t.s.digits.length c3)).st 6 (.int .i64 t.carry)) ?_; intro w16 D16
        clear a1 a2 a3 a4 a5 a6
        obtain ⟨a1, a2, a3, -⟩ := D16.cells
        refine bodyPost_ret (v := .agg #[.int .i64 t.a.base, .slice A1 t.a.digits.length c1, .int .i64 t.b.base, .slice A2 t.b.digits.length c2, .int .i64 t.s.base, .slice A3 t.s.digits.length c3, .int .i64 t.carry]) (by simp [results, Try.results108, go_sem, a1]) rfl ⟨t, A1, c1, A2, c2, A3, c3, rfl, HV.out, ?_⟩
        exact (D16.sel [2, 3, 4] 99 (by decide) (by decide)).mono (by omega)
end Go.Proofs.Ytcapccadpbiecaa

namespace Go.Proofs.Ytcapccadpbiecaa
open Go.RowKit Go.Sort
/-- what the drawing of a machine returns that may be none -/
def DBent (b M : Nat) (w : World) (e : Ending) (w' : World) : Prop := ∃ (t : Tri) (A1 : Option Addr) (c1 : Nat) (A2 : Option Addr) (c2 : Nat) (A3 : Option Addr) (c3 : Nat), e = .returned (.agg #[.int .i64 t.a.base, .slice A1 t.a.digits.length c1, .int .i64 t.b.base, .slice A2 t.b.digits.length c2, .int .i64 t.s.base, .slice A3 t.s.digits.length c3, .int .i64 t.carry]) ∧ (t.a.digits.length ≤ 22 ∧ t.b.digits.length ≤ 22 ∧ t.s.digits.length ≤ 22) ∧ DR b M w [rowI A3 c3 t.s.digits, rowI A2 c2 t.b.digits, rowI A1 c1 t.a.digits] w'
theorem DR.rowFormP {b N : Nat} {w wi : World} {m : List Ent} {A : Option Addr} {c : Nat} {ds : List Int} (h : DR b N w (rowI A c ds :: m) wi) (hd : 0 < ds.length) : ∃ g, A = some ⟨g, 0, none⟩ := by
  obtain ⟨v, -, -, hK⟩ := h
  obtain ⟨g, c', he⟩ := Kn.rowForm hK hd
  injection he with he
  exact ⟨g, he⟩
theorem DR.setIP {b N : Nat} {w wi : World} {m : List Ent} {g c : Nat} {ds : List Int} (h : DR b N w (rowI (some ⟨g, 0, none⟩) c ds :: m) wi) (j : Nat) (v : Int) : DR b N w (rowI (some ⟨g, 0, none⟩) c (ds.set j v) :: m) (wi.setCell ⟨g, j, none⟩ (.int .i64 v)) := h.kn (fun _ hK => hK.setI j v)
theorem DR.rowCellP {b N : Nat} {w wi : World} {m : List Ent} {g c : Nat} {ds : List Int} (h : DR b N w (rowI (some ⟨g, 0, none⟩) c ds :: m) wi) {j : Nat} (hj : j < ds.length) : wi.cell? ⟨g, j, none⟩ = some (.int .i64 ds[j]) ∧ wi.frozen? ⟨g, j, none⟩ = false ∧ g < wi.heap.size := by
  obtain ⟨v, -, -, hK⟩ := h
  have h1 := Kn.rowCell hK (j := j) (u := .int .i64 ds[j]) (by simp [hj])
  exact ⟨h1.1, h1.2, World.block_lt_of_cell? wi _ h1.1⟩
theorem DR.cell23 {b N : Nat} {w wi : World} {m : List Ent} {g : Nat} {v0 v1 v2 v3 v4 v5 v6 : Value} {T : TypeId} (h : DR b N w m wi) (i : Nat) (hi : m[i]? = some (.blk g [v0, v1, v2, v3, v4, v5, v6] T)) : wi.cell? ⟨g, 2, none⟩ = some v2 ∧ wi.cell? ⟨g, 3, none⟩ = some v3 := by
  obtain ⟨v, -, -, hK⟩ := h
  have h7 := box7at hK i hi
  exact ⟨h7.2.2.1, h7.2.2.2.1⟩
set_option maxRecDepth 100000 in
set_option maxHeartbeats 3200000 in
theorem l10Bent_dr (b N : Nat) (w : World) (h : Src w b N) (hN : N ≤ 600000) :
    Calls Try.prog 53 #[.pointer (some ⟨b, 0, none⟩)] w (DBent b (N + 300) w) := by
  unfold DBent
  have D0 := DR.nil h
  clear h
  go_enter Try.func53, Try.ntmps53
  go_wp2_with fail
  refine Calls.dr (D0.al [.int .i64 0, .slice none 0 0, .int .i64 0, .slice none 0 0, .int .i64 0, .slice none 0 0, .int .i64 0] 28) ?_; intro w1 D1
  have KD := Lib.hid (l10Draw_dr b N w1 D1.src (by omega))
  unfold DMach at KD
  refine KD.out.mono ?_; rintro e w2 ⟨t, A1, c1, A2, c2, A3, c3, rfl, hv, h2⟩
  have D2 := D1.add h2
  have hz := sized_of hv
  have HV := Lib.hid hv
  clear D0 D1 h2 KD hv
  go_wp2_with fail
  refine Calls.dr (D2.al [.int .i64 t.a.base, .slice A1 t.a.digits.length c1, .int .i64 t.b.base, .slice A2 t.b.digits.length c2, .int .i64 t.s.base, .slice A3 t.s.digits.length c3, .int .i64 t.carry] 28) ?_; intro w3 D3
  obtain ⟨g, hg⟩ : ∃ g, w2.heap.size = g := ⟨_, rfl⟩
  rw [hg] at D3 ⊢
  clear hg D2
  refine (pick_dr b _ 20 w3 D3.src (by omega)).mono ?_; rintro e w4 ⟨y, rfl, hy, h4⟩
  have D4 : DR b _ w [.blk g [.int .i64 t.a.base, .slice A1 t.a.digits.length c1, .int .i64 t.b.base, .slice A2 t.b.digits.length c2, .int .i64 t.s.base, .slice A3 t.s.digits.length c3, .int .i64 t.carry] 28, rowI A3 c3 t.s.digits, rowI A2 c2 t.b.digits, rowI A1 c1 t.a.digits, .blk w.heap.size [.int .i64 0, .slice none 0 0, .int .i64 0, .slice none 0 0, .int .i64 0, .slice none 0 0, .int .i64 0] 28] w4 := D3.add h4
  have y0 : 0 ≤ y := hy.1
  have z1 := hz.a
  have z2 := hz.b
  have z3 := hz.s
  clear D3 h4 hy hz
  by_cases h0 : y = 0
  · subst h0
    have KP := Lib.hid (l10Places_any ⟨g, 0, none⟩ t w4 (DR.triC (m := [.blk w.heap.size [.int .i64 0, .slice none 0 0, .int .i64 0, .slice none 0 0, .int .i64 0, .slice none 0 0, .int .i64 0] 28]) D4).tri z1 z2 z3)
    go_wp2_with fail
    refine KP.out.mono ?_; rintro e w5 ⟨rfl, mq, rfl⟩
    have D5 := D4.kn (fun v hK => hK.drewN mq)
    clear D4 KP
    obtain ⟨vp, hvp⟩ : ∃ vp, vplaces t = vp := ⟨_, rfl⟩
    simp only [hvp]
    clear hvp
    go_wp2_with fail
    refine Calls.dr (D5.al [.int .i64 (-1), .int .i64 vp, .int .i64 9223372036854775807] 2) ?_; intro w6 D6
    obtain ⟨hr, hA⟩ := DR.lit (ds := [-1, vp, 9223372036854775807]) D6 (by simp)
    refine (among_dr b _ _ 3 3 _ w6 D6.src (by omega) hr hA (by omega) (by omega)).mono ?_; rintro e w7 ⟨x, rfl, hx, h7⟩
    have D7 := (D6.add h7).sel [1, 2, 3, 4, 5] 99 (by decide) (by decide)
    clear hr hA D5 D6 h7 hx
    obtain ⟨a1, a2, a3, d1, d2, d3, -⟩ := D7.cells
    go_upto_region 13 with fail
    refine Code.wp.dr (D7.st 6 (.int .i64 x)) ?_; intro w8 D8
    clear D7 a1 a2 a3 d1 d2 d3
    obtain ⟨u, B1, d1, B2, d2, B3, d3, hul, D9⟩ : ∃ (u : Tri) (B1 : Option Addr) (d1 : Nat) (B2 : Option Addr) (d2 : Nat) (B3 : Option Addr) (d3 : Nat), (u.a.digits.length ≤ 22 ∧ u.b.digits.length ≤ 22 ∧ u.s.digits.length ≤ 22) ∧ DR b (N + 290) w [.blk g [.int .i64 u.a.base, .slice B1 u.a.digits.length d1, .int .i64 u.b.base, .slice B2 u.b.digits.length d2, .int .i64 u.s.base, .slice B3 u.s.digits.length d3, .int .i64 u.carry] 28, rowI B3 d3 u.s.digits, rowI B2 d2 u.b.digits, rowI B1 d1 u.a.digits, .blk w.heap.size [.int .i64 0, .slice none 0 0, .int .i64 0, .slice none 0 0, .int .i64 0, .slice none 0 0, .int .i64 0] 28] w8 := ⟨{ t with carry := x }, A1, c1, A2, c2, A3, c3, by simp only; omega, D8.mono (by omega)⟩
    clear D8
    have D4 := D9
    clear D4 HV
    obtain ⟨a1, a2, a3, x1, x2, x3, -⟩ := D9.cells
    go_wp2_with fail
    refine bodyPost.dr ((((((((D9.front 4 rfl).st 0 (.int .i64 u.a.base)).st 1 (.slice B1 u.a.digits.length d1)).st 2 (.int .i64 u.b.base)).st 3 (.slice B2 u.b.digits.length d2)).st 4 (.int .i64 u.s.base)).st 5 (.slice B3 u.s.digits.length d3)).st 6 (.int .i64 u.carry)) ?_; intro w19 D19
    clear a1 a2 a3 x1 x2 x3
    obtain ⟨a1, a2, a3, -⟩ := D19.cells
    refine bodyPost_ret (v := .agg #[.int .i64 u.a.base, .slice B1 u.a.digits.length d1, .int .i64 u.b.base, .slice B2 u.b.digits.length d2, .int .i64 u.s.base, .slice B3 u.s.digits.length d3, .int .i64 u.carry]) (by simp [results, Try.results53, go_sem, a1]) rfl ⟨u, B1, d1, B2, d2, B3, d3, rfl, hul, ?_⟩
    exact (D19.sel [2, 3, 4] 99 (by decide) (by decide)).mono (by omega)
  by_cases h1 : y = 1
  · subst h1
    obtain ⟨-, -, k3, -⟩ := vmach_all HV.out
    obtain ⟨⟨b5, b6⟩, -⟩ := vreg_iff.1 k3
    have hwr : IntKind.i64.wrap (t.s.base + 1) = t.s.base + 1 := wrapI64 (by omega)
    obtain ⟨a1, a2, a3, x1, x2, x3, -⟩ := D4.cells
    go_upto_region 13 with fail
    refine Code.wp.dr (D4.st 4 (.int .i64 (t.s.base + 1))) ?_; intro w8 D8
    obtain ⟨u, B1, d1, B2, d2, B3, d3, hul, D9⟩ : ∃ (u : Tri) (B1 : Option Addr) (d1 : Nat) (B2 : Option Addr) (d2 : Nat) (B3 : Option Addr) (d3 : Nat), (u.a.digits.length ≤ 22 ∧ u.b.digits.length ≤ 22 ∧ u.s.digits.length ≤ 22) ∧ DR b (N + 290) w [.blk g [.int .i64 u.a.base, .slice B1 u.a.digits.length d1, .int .i64 u.b.base, .slice B2 u.b.digits.length d2, .int .i64 u.s.base, .slice B3 u.s.digits.length d3, .int .i64 u.carry] 28, rowI B3 d3 u.s.digits, rowI B2 d2 u.b.digits, rowI B1 d1 u.a.digits, .blk w.heap.size [.int .i64 0, .slice none 0 0, .int .i64 0, .slice none 0 0, .int .i64 0, .slice none 0 0, .int .i64 0] 28] w8 := ⟨{ t with s := ⟨t.s.base + 1, t.s.digits⟩ }, A1, c1, A2, c2, A3, c3, by simp only; omega, D8.mono (by omega)⟩
    clear D8 a1 a2 a3 x1 x2 x3
    clear D4 HV
    obtain ⟨a1, a2, a3, x1, x2, x3, -⟩ := D9.cells
    go_wp2_with fail
    refine bodyPost.dr ((((((((D9.front 4 rfl).st 0 (.int .i64 u.a.base)).st 1 (.slice B1 u.a.digits.length d1)).st 2 (.int .i64 u.b.base)).st 3 (.slice B2 u.b.digits.length d2)).st 4 (.int .i64 u.s.base)).st 5 (.slice B3 u.s.digits.length d3)).st 6 (.int .i64 u.carry)) ?_; intro w19 D19
    clear a1 a2 a3 x1 x2 x3
    obtain ⟨a1, a2, a3, -⟩ := D19.cells
    refine bodyPost_ret (v := .agg #[.int .i64 u.a.base, .slice B1 u.a.digits.length d1, .int .i64 u.b.base, .slice B2 u.b.digits.length d2, .int .i64 u.s.base, .slice B3 u.s.digits.length d3, .int .i64 u.carry]) (by simp [results, Try.results53, go_sem, a1]) rfl ⟨u, B1, d1, B2, d2, B3, d3, rfl, hul, ?_⟩
    exact (D19.sel [2, 3, 4] 99 (by decide) (by decide)).mono (by omega)
  by_cases h2 : y = 2
  · subst h2
    obtain ⟨L1, hL1⟩ : ∃ L, t.a.digits.length = L := ⟨_, rfl⟩
    have HL1 := Lib.hid hL1
    rw [hL1] at D4 z1
    clear hL1
    go_wp2_with fail
    refine wp_region_held_drew (S := fun _ => True) (by kernel_rfl) trivial (fun hHeld => ?_)
    try dsimp only
    have D5 := D4.drew
    obtain ⟨wd, hwd⟩ : ∃ W, w4.drew = W := ⟨_, rfl⟩
    rw [hwd] at D5 ⊢
    clear D4 hwd
    refine wpAnyH_take (i := 0) (v := ?_) rfl (by kernel_rfl) (by kernel_rfl) (by kernel_rfl) (fun _ _ _ h => h) (Or.inl ⟨by rfl, ?_⟩) hHeld ?_
    rotate_left
    · (intro w hSw; (try dsimp only at hSw); go_simp; try with_reducible rfl)
    try simp only [Act.put, List.setIfInBounds_toArray, List.set_cons_zero, List.set_cons_succ, List.getElem_toArray, List.getElem_cons_succ, List.getElem_cons_zero]
    refine wpAnyH_take (i := 1) (v := ?_) rfl (by kernel_rfl) (by kernel_rfl) (by kernel_rfl) (fun _ _ _ h => h) (Or.inl ⟨by rfl, ?_⟩) hHeld ?_
    rotate_left
    · (intro w hSw; (try dsimp only at hSw); go_simp; try with_reducible rfl)
    try simp only [Act.put, List.setIfInBounds_toArray, List.set_cons_zero, List.set_cons_succ, List.getElem_toArray, List.getElem_cons_succ, List.getElem_cons_zero]
    refine wpAnyH_take (i := 3) (v := ?_) rfl (by kernel_rfl) (by kernel_rfl) (by kernel_rfl) (fun _ _ _ h => h) (Or.inl ⟨by rfl, ?_⟩) hHeld ?_
    rotate_left
    · (intro w hSw; (try dsimp only at hSw); go_simp; try with_reducible rfl)
    try simp only [Act.put, List.setIfInBounds_toArray, List.set_cons_zero, List.set_cons_succ, List.getElem_toArray, List.getElem_cons_succ, List.getElem_cons_zero]
    obtain ⟨a1, a2, a3, -⟩ := D5.cells
    refine wpAnyH_ready (rs := [2, 4]) (by kernel_rfl) (by decide) (AllReadyH.cons (o := _) rfl (fun K hK' => ?_) (AllReadyH.cons (o := _) rfl (fun K hK' => ?_) AllReadyH.nil))
    · go_simp
      refine hK'.out _ _ trivial (fun hHeld2 => ?_)
      clear hK' K hHeld
      have hHeld := hHeld2
      clear hHeld2
      try simp only [Act.put, List.setIfInBounds_toArray]
      clear a1 a2 a3
      refine wpAnyH_ready (rs := [4]) (by kernel_rfl) (by decide) (AllReadyH.cons (o := _) rfl (fun K hK' => ?_) AllReadyH.nil)
      go_simp
      go_at_call 109
      refine (digits_dr b _ 2 6 wd D5.src (by omega) (by omega) (by omega) (by omega)).mono ?_; rintro e w5 ⟨X, xx, dd, rfl, hdl, hdd, h5⟩
      have D6 := D5.add h5
      refine hK'.out _ _ trivial (fun hHeld2 => ?_)
      clear hK' K hHeld
      have hHeld := hHeld2
      clear hHeld2
      try simp only [Act.put, List.setIfInBounds_toArray]
      clear h5 hdd D5
      obtain ⟨v, hT, hS, hK⟩ := D6
      have HT := Lib.hid hT
      have HS := Lib.hid hS
      have hKA : Kn v (.row (.slice X 6 xx) 2 1 6 (dd.map (Value.int .i64)) :: .row (.slice A1 L1 c1) 2 1 L1 (t.a.digits.map (Value.int .i64)) :: .blk g [.int .i64 t.a.base, .slice A1 L1 c1, .int .i64 t.b.base, .slice A2 t.b.digits.length c2, .int .i64 t.s.base, .slice A3 t.s.digits.length c3, .int .i64 t.carry] 28 :: rowI A3 c3 t.s.digits :: rowI A2 c2 t.b.digits :: .blk w.heap.size [.int .i64 0, .slice none 0 0, .int .i64 0, .slice none 0 0, .int .i64 0, .slice none 0 0, .int .i64 0] 28 :: []) w5 := by
        have h9 := hK.sel [0, 4, 1, 2, 3, 5] 99 (by decide) (by decide)
        unfold rowI at h9
        rw [hdl, HL1.out] at h9
        exact h9
      clear hT hS hK
      refine wpAnyH_ready (rs := [5]) (by kernel_rfl) (by decide) (AllReadyH.cons (o := _) rfl (fun K hK' => ?_) AllReadyH.nil)
      refine kn_step_row tpI (by rfl) _ _ (by rfl) (.slice A1 L1 c1) L1 (t.a.digits.map (Value.int .i64)) (by rfl) (by rfl) (by decide) hKA (by simp [Value.oneCell']) (by omega) (by omega) ?_; intro v7 w7 hK7
      refine hK'.out _ _ trivial (fun hHeld2 => ?_)
      clear hK' K hHeld
      have hHeld := hHeld2
      clear hHeld2
      try simp only [Act.put, List.setIfInBounds_toArray]
      generalize hv7 : v7 = vv at hK7 ⊢
      have hrow : ∃ A' c', vv = .slice A' (L1 + 6) c' := by
        have h0 : w7.ownsRow 0 2 1 vv (L1 + 6) _ := hK7.at0
        rcases h0.2 with ⟨_, h2⟩ | ⟨gq, cap, cur, hvq, -⟩
        · omega
        · exact ⟨_, _, hvq⟩
      obtain ⟨A', c', rfl⟩ := hrow
      clear hv7
      refine wpAnyH_take (i := 6) (v := ?_) rfl (by kernel_rfl) (by kernel_rfl) (by kernel_rfl) (fun _ _ _ h => h) (Or.inl ⟨by rfl, ?_⟩) hHeld ?_
      rotate_left
      · (intro w hSw; (try dsimp only at hSw); go_simp; try with_reducible rfl)
      try simp only [Act.put, List.setIfInBounds_toArray, List.set_cons_zero, List.set_cons_succ, List.getElem_toArray, List.getElem_cons_succ, List.getElem_cons_zero]
      refine wpAnyH_take (i := 7) (v := ?_) rfl (by kernel_rfl) (by kernel_rfl) (by kernel_rfl) (fun _ _ _ h => h) (Or.inl ⟨by rfl, ?_⟩) hHeld ?_
      rotate_left
      · (intro w hSw; (try dsimp only at hSw); go_simp; try with_reducible rfl)
      try simp only [Act.put, List.setIfInBounds_toArray, List.set_cons_zero, List.set_cons_succ, List.getElem_toArray, List.getElem_cons_succ, List.getElem_cons_zero]
      have D7 : DR b _ w _ w7 := ⟨v, HT.out, HS.out, hK7⟩
      have D8 := D7.front 2 rfl
      obtain ⟨y1, y2, y3, -⟩ := D8.cells
      refine wpAnyH_ready (rs := [8]) (by kernel_rfl) (by decide) (AllReadyH.cons (o := _) rfl (fun K hK' => ?_) AllReadyH.nil)
      go_simp
      refine hK'.out _ _ trivial (fun hHeld2 => ?_)
      clear hK' K hHeld
      have hHeld := hHeld2
      clear hHeld2
      try simp only [Act.put, List.setIfInBounds_toArray]
      refine wpAnyH_done (by kernel_rfl) ?_ _
      have D9 := D8.st 1 (.slice A' (L1 + 6) c')
      clear y1 y2 y3 D8 D7 hK7
      generalize w7.setCell ⟨g, 1, none⟩ (.slice A' (L1 + 6) c') = w8 at D9 ⊢
      obtain ⟨u, B1, d1, B2, d2, B3, d3, hul, D9⟩ : ∃ (u : Tri) (B1 : Option Addr) (d1 : Nat) (B2 : Option Addr) (d2 : Nat) (B3 : Option Addr) (d3 : Nat), (u.a.digits.length ≤ 22 ∧ u.b.digits.length ≤ 22 ∧ u.s.digits.length ≤ 22) ∧ DR b (N + 290) w [.blk g [.int .i64 u.a.base, .slice B1 u.a.digits.length d1, .int .i64 u.b.base, .slice B2 u.b.digits.length d2, .int .i64 u.s.base, .slice B3 u.s.digits.length d3, .int .i64 u.carry] 28, rowI B3 d3 u.s.digits, rowI B2 d2 u.b.digits, rowI B1 d1 u.a.digits, .blk w.heap.size [.int .i64 0, .slice none 0 0, .int .i64 0, .slice none 0 0, .int .i64 0, .slice none 0 0, .int .i64 0] 28] w8 := by
        refine ⟨{ t with a := ⟨t.a.base, t.a.digits ++ dd⟩ }, A', c', A2, c2, A3, c3, by simp only [List.length_append]; have := HL1.out; omega, ?_⟩
        have h9 := (D9.sel [0, 3, 4, 1, 5] 99 (by decide) (by decide)).mono (M := N + 290) (by omega)
        show DR b _ w [.blk g [.int .i64 t.a.base, .slice A' (t.a.digits ++ dd).length c', _, _, _, _, _] _, rowI A3 c3 t.s.digits, rowI A2 c2 t.b.digits, rowI A' c' (t.a.digits ++ dd), _] w8
        unfold rowI at h9 ⊢
        rw [List.length_append, HL1.out, hdl, List.map_append]
        exact h9
      clear HT HS
      have D4 := D9
      clear D4 HV
      obtain ⟨a1, a2, a3, x1, x2, x3, -⟩ := D9.cells
      go_wp2_with fail
      refine bodyPost.dr ((((((((D9.front 4 rfl).st 0 (.int .i64 u.a.base)).st 1 (.slice B1 u.a.digits.length d1)).st 2 (.int .i64 u.b.base)).st 3 (.slice B2 u.b.digits.length d2)).st 4 (.int .i64 u.s.base)).st 5 (.slice B3 u.s.digits.length d3)).st 6 (.int .i64 u.carry)) ?_; intro w19 D19
      clear a1 a2 a3 x1 x2 x3
      obtain ⟨a1, a2, a3, -⟩ := D19.cells
      refine bodyPost_ret (v := .agg #[.int .i64 u.a.base, .slice B1 u.a.digits.length d1, .int .i64 u.b.base, .slice B2 u.b.digits.length d2, .int .i64 u.s.base, .slice B3 u.s.digits.length d3, .int .i64 u.carry]) (by simp [results, Try.results53, go_sem, a1]) rfl ⟨u, B1, d1, B2, d2, B3, d3, rfl, hul, ?_⟩
      exact (D19.sel [2, 3, 4] 99 (by decide) (by decide)).mono (by omega)
    · go_simp
      go_at_call 109
      refine (digits_dr b _ 2 6 wd D5.src (by omega) (by omega) (by omega) (by omega)).mono ?_; rintro e w5 ⟨X, xx, dd, rfl, hdl, hdd, h5⟩
      have D6 := D5.add h5
      refine hK'.out _ _ trivial (fun hHeld2 => ?_)
      clear hK' K hHeld
      have hHeld := hHeld2
      clear hHeld2
      try simp only [Act.put, List.setIfInBounds_toArray]
      clear h5 hdd D5 a1 a2 a3
      obtain ⟨a1, a2, a3, -⟩ := (D6.front 1 rfl).cells
      refine wpAnyH_ready (rs := [2]) (by kernel_rfl) (by decide) (AllReadyH.cons (o := _) rfl (fun K hK' => ?_) AllReadyH.nil)
      go_simp
      refine hK'.out _ _ trivial (fun hHeld2 => ?_)
      clear hK' K hHeld
      have hHeld := hHeld2
      clear hHeld2
      try simp only [Act.put, List.setIfInBounds_toArray]
      clear a1 a2 a3
      obtain ⟨v, hT, hS, hK⟩ := D6
      have HT := Lib.hid hT
      have HS := Lib.hid hS
      have hKA : Kn v (.row (.slice X 6 xx) 2 1 6 (dd.map (Value.int .i64)) :: .row (.slice A1 L1 c1) 2 1 L1 (t.a.digits.map (Value.int .i64)) :: .blk g [.int .i64 t.a.base, .slice A1 L1 c1, .int .i64 t.b.base, .slice A2 t.b.digits.length c2, .int .i64 t.s.base, .slice A3 t.s.digits.length c3, .int .i64 t.carry] 28 :: rowI A3 c3 t.s.digits :: rowI A2 c2 t.b.digits :: .blk w.heap.size [.int .i64 0, .slice none 0 0, .int .i64 0, .slice none 0 0, .int .i64 0, .slice none 0 0, .int .i64 0] 28 :: []) w5 := by
        have h9 := hK.sel [0, 4, 1, 2, 3, 5] 99 (by decide) (by decide)
        unfold rowI at h9
        rw [hdl, HL1.out] at h9
        exact h9
      clear hT hS hK
      refine wpAnyH_ready (rs := [5]) (by kernel_rfl) (by decide) (AllReadyH.cons (o := _) rfl (fun K hK' => ?_) AllReadyH.nil)
      refine kn_step_row tpI (by rfl) _ _ (by rfl) (.slice A1 L1 c1) L1 (t.a.digits.map (Value.int .i64)) (by rfl) (by rfl) (by decide) hKA (by simp [Value.oneCell']) (by omega) (by omega) ?_; intro v7 w7 hK7
      refine hK'.out _ _ trivial (fun hHeld2 => ?_)
      clear hK' K hHeld
      have hHeld := hHeld2
      clear hHeld2
      try simp only [Act.put, List.setIfInBounds_toArray]
      generalize hv7 : v7 = vv at hK7 ⊢
      have hrow : ∃ A' c', vv = .slice A' (L1 + 6) c' := by
        have h0 : w7.ownsRow 0 2 1 vv (L1 + 6) _ := hK7.at0
        rcases h0.2 with ⟨_, h2⟩ | ⟨gq, cap, cur, hvq, -⟩
        · omega
        · exact ⟨_, _, hvq⟩
      obtain ⟨A', c', rfl⟩ := hrow
      clear hv7
      refine wpAnyH_take (i := 6) (v := ?_) rfl (by kernel_rfl) (by kernel_rfl) (by kernel_rfl) (fun _ _ _ h => h) (Or.inl ⟨by rfl, ?_⟩) hHeld ?_
      rotate_left
      · (intro w hSw; (try dsimp only at hSw); go_simp; try with_reducible rfl)
      try simp only [Act.put, List.setIfInBounds_toArray, List.set_cons_zero, List.set_cons_succ, List.getElem_toArray, List.getElem_cons_succ, List.getElem_cons_zero]
      refine wpAnyH_take (i := 7) (v := ?_) rfl (by kernel_rfl) (by kernel_rfl) (by kernel_rfl) (fun _ _ _ h => h) (Or.inl ⟨by rfl, ?_⟩) hHeld ?_
      rotate_left
      · (intro w hSw; (try dsimp only at hSw); go_simp; try with_reducible rfl)
      try simp only [Act.put, List.setIfInBounds_toArray, List.set_cons_zero, List.set_cons_succ, List.getElem_toArray, List.getElem_cons_succ, List.getElem_cons_zero]
      have D7 : DR b _ w _ w7 := ⟨v, HT.out, HS.out, hK7⟩
      have D8 := D7.front 2 rfl
      obtain ⟨y1, y2, y3, -⟩ := D8.cells
      refine wpAnyH_ready (rs := [8]) (by kernel_rfl) (by decide) (AllReadyH.cons (o := _) rfl (fun K hK' => ?_) AllReadyH.nil)
      go_simp
      refine hK'.out _ _ trivial (fun hHeld2 => ?_)
      clear hK' K hHeld
      have hHeld := hHeld2
      clear hHeld2
      try simp only [Act.put, List.setIfInBounds_toArray]
      refine wpAnyH_done (by kernel_rfl) ?_ _
      have D9 := D8.st 1 (.slice A' (L1 + 6) c')
      clear y1 y2 y3 D8 D7 hK7
      generalize w7.setCell ⟨g, 1, none⟩ (.slice A' (L1 + 6) c') = w8 at D9 ⊢
      obtain ⟨u, B1, d1, B2, d2, B3, d3, hul, D9⟩ : ∃ (u : Tri) (B1 : Option Addr) (d1 : Nat) (B2 : Option Addr) (d2 : Nat) (B3 : Option Addr) (d3 : Nat), (u.a.digits.length ≤ 22 ∧ u.b.digits.length ≤ 22 ∧ u.s.digits.length ≤ 22) ∧ DR b (N + 290) w [.blk g [.int .i64 u.a.base, .slice B1 u.a.digits.length d1, .int .i64 u.b.base, .slice B2 u.b.digits.length d2, .int .i64 u.s.base, .slice B3 u.s.digits.length d3, .int .i64 u.carry] 28, rowI B3 d3 u.s.digits, rowI B2 d2 u.b.digits, rowI B1 d1 u.a.digits, .blk w.heap.size [.int .i64 0, .slice none 0 0, .int .i64 0, .slice none 0 0, .int .i64 0, .slice none 0 0, .int .i64 0] 28] w8 := by
        refine ⟨{ t with a := ⟨t.a.base, t.a.digits ++ dd⟩ }, A', c', A2, c2, A3, c3, by simp only [List.length_append]; have := HL1.out; omega, ?_⟩
        have h9 := (D9.sel [0, 3, 4, 1, 5] 99 (by decide) (by decide)).mono (M := N + 290) (by omega)
        show DR b _ w [.blk g [.int .i64 t.a.base, .slice A' (t.a.digits ++ dd).length c', _, _, _, _, _] _, rowI A3 c3 t.s.digits, rowI A2 c2 t.b.digits, rowI A' c' (t.a.digits ++ dd), _] w8
        unfold rowI at h9 ⊢
        rw [List.length_append, HL1.out, hdl, List.map_append]
        exact h9
      clear HT HS
      have D4 := D9
      clear D4 HV
      obtain ⟨a1, a2, a3, x1, x2, x3, -⟩ := D9.cells
      go_wp2_with fail
      refine bodyPost.dr ((((((((D9.front 4 rfl).st 0 (.int .i64 u.a.base)).st 1 (.slice B1 u.a.digits.length d1)).st 2 (.int .i64 u.b.base)).st 3 (.slice B2 u.b.digits.length d2)).st 4 (.int .i64 u.s.base)).st 5 (.slice B3 u.s.digits.length d3)).st 6 (.int .i64 u.carry)) ?_; intro w19 D19
      clear a1 a2 a3 x1 x2 x3
      obtain ⟨a1, a2, a3, -⟩ := D19.cells
      refine bodyPost_ret (v := .agg #[.int .i64 u.a.base, .slice B1 u.a.digits.length d1, .int .i64 u.b.base, .slice B2 u.b.digits.length d2, .int .i64 u.s.base, .slice B3 u.s.digits.length d3, .int .i64 u.carry]) (by simp [results, Try.results53, go_sem, a1]) rfl ⟨u, B1, d1, B2, d2, B3, d3, rfl, hul, ?_⟩
      exact (D19.sel [2, 3, 4] 99 (by decide) (by decide)).mono (by omega)
  by_cases h3 : y = 3
  · subst h3
    obtain ⟨-, k2, k3, -⟩ := vmach_all HV.out
    obtain ⟨-, ⟨n3, n4⟩, -, -⟩ := vreg_iff.1 k2
    obtain ⟨gB, rfl⟩ := DR.rowFormP (D4.front 2 rfl) (by omega)
    obtain ⟨L2, hL2⟩ : ∃ L, t.b.digits.length = L := ⟨_, rfl⟩
    have HL2 := Lib.hid hL2
    rw [hL2] at D4 n3 n4 z2
    obtain ⟨bs, hbs⟩ : ∃ bs, t.b.base = bs := ⟨_, rfl⟩
    have HBS := Lib.hid hbs
    rw [hbs] at D4
    clear hL2 hbs k2 k3
    go_wp2_with fail
    refine wp_region_held_drew (S := fun W => W.cell? ⟨g, 2, none⟩ = some (.int .i64 bs) ∧ W.cell? ⟨g, 3, none⟩ = some (.slice (some ⟨gB, 0, none⟩) L2 c2)) (by kernel_rfl) (D4.drew.cell23 0 rfl) (fun hHeld => ?_)
    try dsimp only
    have D5 := D4.drew
    obtain ⟨wd, hwd⟩ : ∃ W, w4.drew = W := ⟨_, rfl⟩
    rw [hwd] at D5 hHeld ⊢
    clear D4 hwd
    refine wpAnyH_take (i := 0) (v := ?_) rfl (by kernel_rfl) (by kernel_rfl) (by kernel_rfl) (fun _ _ _ h => h) (Or.inl ⟨by rfl, ?_⟩) hHeld ?_
    rotate_left
    · (intro w hSw; (try dsimp only at hSw); go_simp; try with_reducible rfl)
    try simp only [Act.put, List.setIfInBounds_toArray, List.set_cons_zero, List.set_cons_succ, List.getElem_toArray, List.getElem_cons_succ, List.getElem_cons_zero]
    refine wpAnyH_take (i := 1) (v := ?_) rfl (by kernel_rfl) (by kernel_rfl) (by kernel_rfl) (fun _ _ _ h => h) (Or.inl ⟨by rfl, ?_⟩) hHeld ?_
    rotate_left
    · (intro w hSw; (try dsimp only at hSw); go_simp; try with_reducible rfl)
    try simp only [Act.put, List.setIfInBounds_toArray, List.set_cons_zero, List.set_cons_succ, List.getElem_toArray, List.getElem_cons_succ, List.getElem_cons_zero]
    refine wpAnyH_take (i := 2) (v := ?_) rfl (by kernel_rfl) (by kernel_rfl) (by kernel_rfl) (fun _ _ _ h => h) (Or.inl ⟨by rfl, ?_⟩) hHeld ?_
    rotate_left
    · (intro w hSw; (try dsimp only at hSw); go_simp; try with_reducible rfl)
    try simp only [Act.put, List.setIfInBounds_toArray, List.set_cons_zero, List.set_cons_succ, List.getElem_toArray, List.getElem_cons_succ, List.getElem_cons_zero]
    refine wpAnyH_take (i := 3) (v := ?_) rfl (by kernel_rfl) (by kernel_rfl) (by kernel_rfl) (fun _ _ _ h => h) (Or.inl ⟨by rfl, ?_⟩) hHeld ?_
    rotate_left
    · (intro w hSw; (try dsimp only at hSw); go_simp; try with_reducible rfl)
    try simp only [Act.put, List.setIfInBounds_toArray, List.set_cons_zero, List.set_cons_succ, List.getElem_toArray, List.getElem_cons_succ, List.getElem_cons_zero]
    refine wpAnyH_take (i := 4) (v := ?_) rfl (by kernel_rfl) (by kernel_rfl) (by kernel_rfl) (fun _ _ _ h => h) (Or.inl ⟨by rfl, ?_⟩) hHeld ?_
    rotate_left
    · (intro w hSw; (try dsimp only at hSw); go_simp; try with_reducible rfl)
    try simp only [Act.put, List.setIfInBounds_toArray, List.set_cons_zero, List.set_cons_succ, List.getElem_toArray, List.getElem_cons_succ, List.getElem_cons_zero]
    refine wpAnyH_take (i := 5) (v := ?_) rfl (by kernel_rfl) (by kernel_rfl) (by kernel_rfl) (fun _ _ _ h => h) (Or.inl ⟨by rfl, ?_⟩) hHeld ?_
    rotate_left
    · (intro w hSw; (try dsimp only at hSw); go_simp; try with_reducible rfl)
    try simp only [Act.put, List.setIfInBounds_toArray, List.set_cons_zero, List.set_cons_succ, List.getElem_toArray, List.getElem_cons_succ, List.getElem_cons_zero]
    refine wpAnyH_take (i := 6) (v := ?_) rfl (by kernel_rfl) (by kernel_rfl) (by kernel_rfl) (fun _ _ _ h => h) (Or.inl ⟨by rfl, ?_⟩) hHeld ?_
    rotate_left
    · (intro w hSw; (try dsimp only at hSw); go_simp; try with_reducible rfl)
    try simp only [Act.put, List.setIfInBounds_toArray, List.set_cons_zero, List.set_cons_succ, List.getElem_toArray, List.getElem_cons_succ, List.getElem_cons_zero]
    refine wpAnyH_ready (rs := [7]) (by kernel_rfl) (by decide) (AllReadyH.cons (o := _) rfl (fun K hK' => ?_) AllReadyH.nil)
    go_simp
    have D6 := D5.al [.int .i64 (-1), .int .i64 bs] 2
    refine hK'.out _ _ (D6.cell23 1 rfl) (fun hHeld2 => ?_)
    clear hK' K hHeld
    have hHeld := hHeld2
    clear hHeld2
    try simp only [Act.put, List.setIfInBounds_toArray]
    obtain ⟨hr, hA⟩ := DR.lit (ds := [-1, bs]) D6 (by simp)
    refine wpAnyH_ready (rs := [8]) (by kernel_rfl) (by decide) (AllReadyH.cons (o := _) rfl (fun K hK' => ?_) AllReadyH.nil)
    go_simp
    go_at_call 55
    refine (among_dr b _ _ 2 2 _ _ D6.src (by omega) hr hA (by omega) (by omega)).mono ?_; rintro e w7 ⟨x, rfl, hx, h7⟩
    have D7 := (D6.add h7).sel [1, 2, 3, 4, 5] 99 (by decide) (by decide)
    clear hr hA D5 D6 h7 hx
    refine hK'.out _ _ (D7.cell23 0 rfl) (fun hHeld2 => ?_)
    clear hK' K hHeld
    have hHeld := hHeld2
    clear hHeld2
    try simp only [Act.put, List.setIfInBounds_toArray]
    have hp0 : 0 < L2 := n3
    refine wpAnyH_take (i := 9) (v := ?_) rfl (by kernel_rfl) (by kernel_rfl) (by kernel_rfl) (fun _ _ _ h => h) (Or.inl ⟨by rfl, ?_⟩) hHeld ?_
    rotate_left
    · (intro w hSw; (try dsimp only at hSw); go_simp; first | with_reducible rfl | (rw [if_pos hp0]))
    try simp only [Act.put, List.setIfInBounds_toArray, List.set_cons_zero, List.set_cons_succ, List.getElem_toArray, List.getElem_cons_succ, List.getElem_cons_zero]
    obtain ⟨r1, r2, r3⟩ := (D7.front 2 rfl).rowCellP (j := 0) (by rw [HL2.out]; omega)
    have D8 := (D7.front 2 rfl).setIP 0 x
    refine wpAnyH_ready (rs := [10]) (by kernel_rfl) (by decide) (AllReadyH.cons (o := _) rfl (fun K hK' => ?_) AllReadyH.nil)
    go_simp
    refine hK'.out _ _ (D8.cell23 1 rfl) (fun hHeld2 => ?_)
    clear hK' K hHeld hHeld2
    try simp only [Act.put, List.setIfInBounds_toArray]
    refine wpAnyH_done (by kernel_rfl) ?_ _
    clear r1 r2 r3 D7
    generalize w7.setCell ⟨gB, 0, none⟩ (.int .i64 x) = w8 at D8 ⊢
    obtain ⟨u, B1, d1, B2, d2, B3, d3, hul, D9⟩ : ∃ (u : Tri) (B1 : Option Addr) (d1 : Nat) (B2 : Option Addr) (d2 : Nat) (B3 : Option Addr) (d3 : Nat), (u.a.digits.length ≤ 22 ∧ u.b.digits.length ≤ 22 ∧ u.s.digits.length ≤ 22) ∧ DR b (N + 290) w [.blk g [.int .i64 u.a.base, .slice B1 u.a.digits.length d1, .int .i64 u.b.base, .slice B2 u.b.digits.length d2, .int .i64 u.s.base, .slice B3 u.s.digits.length d3, .int .i64 u.carry] 28, rowI B3 d3 u.s.digits, rowI B2 d2 u.b.digits, rowI B1 d1 u.a.digits, .blk w.heap.size [.int .i64 0, .slice none 0 0, .int .i64 0, .slice none 0 0, .int .i64 0, .slice none 0 0, .int .i64 0] 28] w8 := by
      refine ⟨{ t with b := ⟨t.b.base, t.b.digits.set 0 x⟩ }, A1, c1, some ⟨gB, 0, none⟩, c2, A3, c3, by simp only [List.length_set]; have := HL2.out; omega, ?_⟩
      have h9 := (D8.sel [1, 2, 0, 3, 4] 99 (by decide) (by decide)).mono (M := N + 290) (by omega)
      show DR b _ w [.blk g [_, _, .int .i64 t.b.base, .slice (some ⟨gB, 0, none⟩) (t.b.digits.set 0 x).length c2, _, _, _] _, _, _, _, _] w8
      rw [List.length_set, HL2.out, HBS.out]
      exact h9
    clear D8
    have D4 := D9
    clear D4 HV
    obtain ⟨a1, a2, a3, x1, x2, x3, -⟩ := D9.cells
    go_wp2_with fail
    refine bodyPost.dr ((((((((D9.front 4 rfl).st 0 (.int .i64 u.a.base)).st 1 (.slice B1 u.a.digits.length d1)).st 2 (.int .i64 u.b.base)).st 3 (.slice B2 u.b.digits.length d2)).st 4 (.int .i64 u.s.base)).st 5 (.slice B3 u.s.digits.length d3)).st 6 (.int .i64 u.carry)) ?_; intro w19 D19
    clear a1 a2 a3 x1 x2 x3
    obtain ⟨a1, a2, a3, -⟩ := D19.cells
    refine bodyPost_ret (v := .agg #[.int .i64 u.a.base, .slice B1 u.a.digits.length d1, .int .i64 u.b.base, .slice B2 u.b.digits.length d2, .int .i64 u.s.base, .slice B3 u.s.digits.length d3, .int .i64 u.carry]) (by simp [results, Try.results53, go_sem, a1]) rfl ⟨u, B1, d1, B2, d2, B3, d3, rfl, hul, ?_⟩
    exact (D19.sel [2, 3, 4] 99 (by decide) (by decide)).mono (by omega)
  by_cases h4 : y = 4
  · subst h4
    go_wp2_with fail
    refine (digits_dr b _ 2 16 w4 D4.src (by omega) (by omega) (by omega) (by omega)).mono ?_; rintro e w5 ⟨A', c', ds, rfl, hdl, hdd, h5⟩
    have D5 := D4.add h5
    clear h5 hdd
    obtain ⟨a1, a2, a3, x1, x2, x3, -⟩ := (D5.front 1 rfl).cells
    go_upto_region 13 with fail
    refine Code.wp.dr ((D5.front 1 rfl).st 5 (.slice A' 16 c')) ?_; intro w8 D8
    obtain ⟨u, B1, d1, B2, d2, B3, d3, hul, D9⟩ : ∃ (u : Tri) (B1 : Option Addr) (d1 : Nat) (B2 : Option Addr) (d2 : Nat) (B3 : Option Addr) (d3 : Nat), (u.a.digits.length ≤ 22 ∧ u.b.digits.length ≤ 22 ∧ u.s.digits.length ≤ 22) ∧ DR b (N + 290) w [.blk g [.int .i64 u.a.base, .slice B1 u.a.digits.length d1, .int .i64 u.b.base, .slice B2 u.b.digits.length d2, .int .i64 u.s.base, .slice B3 u.s.digits.length d3, .int .i64 u.carry] 28, rowI B3 d3 u.s.digits, rowI B2 d2 u.b.digits, rowI B1 d1 u.a.digits, .blk w.heap.size [.int .i64 0, .slice none 0 0, .int .i64 0, .slice none 0 0, .int .i64 0, .slice none 0 0, .int .i64 0] 28] w8 := by
      refine ⟨{ t with s := ⟨t.s.base, ds⟩ }, A1, c1, A2, c2, A', c', by simp only; omega, ?_⟩
      have h9 := (D8.sel [0, 1, 3, 4, 5] 99 (by decide) (by decide)).mono (M := N + 290) (by omega)
      show DR b _ w [.blk g [_, _, _, _, _, .slice A' ds.length c', _] _, _, _, _, _] w8
      rw [hdl]
      exact h9
    clear D8 D5 a1 a2 a3 x1 x2 x3
    clear D4 HV
    obtain ⟨a1, a2, a3, x1, x2, x3, -⟩ := D9.cells
    go_wp2_with fail
    refine bodyPost.dr ((((((((D9.front 4 rfl).st 0 (.int .i64 u.a.base)).st 1 (.slice B1 u.a.digits.length d1)).st 2 (.int .i64 u.b.base)).st 3 (.slice B2 u.b.digits.length d2)).st 4 (.int .i64 u.s.base)).st 5 (.slice B3 u.s.digits.length d3)).st 6 (.int .i64 u.carry)) ?_; intro w19 D19
    clear a1 a2 a3 x1 x2 x3
    obtain ⟨a1, a2, a3, -⟩ := D19.cells
    refine bodyPost_ret (v := .agg #[.int .i64 u.a.base, .slice B1 u.a.digits.length d1, .int .i64 u.b.base, .slice B2 u.b.digits.length d2, .int .i64 u.s.base, .slice B3 u.s.digits.length d3, .int .i64 u.carry]) (by simp [results, Try.results53, go_sem, a1]) rfl ⟨u, B1, d1, B2, d2, B3, d3, rfl, hul, ?_⟩
    exact (D19.sel [2, 3, 4] 99 (by decide) (by decide)).mono (by omega)
  have e0 : (y == 0) = false := by simp [h0]
  have e1 : (y == 1) = false := by simp [h1]
  have e2 : (y == 2) = false := by simp [h2]
  have e3 : (y == 3) = false := by simp [h3]
  have e4 : (y == 4) = false := by simp [h4]
  obtain ⟨w8, hw8⟩ : ∃ w8, w4 = w8 := ⟨_, rfl⟩
  rw [hw8] at D4 ⊢
  clear hw8
  obtain ⟨u, B1, d1, B2, d2, B3, d3, hul, D9⟩ : ∃ (u : Tri) (B1 : Option Addr) (d1 : Nat) (B2 : Option Addr) (d2 : Nat) (B3 : Option Addr) (d3 : Nat), (u.a.digits.length ≤ 22 ∧ u.b.digits.length ≤ 22 ∧ u.s.digits.length ≤ 22) ∧ DR b (N + 290) w [.blk g [.int .i64 u.a.base, .slice B1 u.a.digits.length d1, .int .i64 u.b.base, .slice B2 u.b.digits.length d2, .int .i64 u.s.base, .slice B3 u.s.digits.length d3, .int .i64 u.carry] 28, rowI B3 d3 u.s.digits, rowI B2 d2 u.b.digits, rowI B1 d1 u.a.digits, .blk w.heap.size [.int .i64 0, .slice none 0 0, .int .i64 0, .slice none 0 0, .int .i64 0, .slice none 0 0, .int .i64 0] 28] w8 := ⟨t, A1, c1, A2, c2, A3, c3, by omega, D4.mono (by omega)⟩
  clear D4 HV
  obtain ⟨a1, a2, a3, x1, x2, x3, -⟩ := D9.cells
  go_wp2_with fail
  refine bodyPost.dr ((((((((D9.front 4 rfl).st 0 (.int .i64 u.a.base)).st 1 (.slice B1 u.a.digits.length d1)).st 2 (.int .i64 u.b.base)).st 3 (.slice B2 u.b.digits.length d2)).st 4 (.int .i64 u.s.base)).st 5 (.slice B3 u.s.digits.length d3)).st 6 (.int .i64 u.carry)) ?_; intro w19 D19
  clear a1 a2 a3 x1 x2 x3
  obtain ⟨a1, a2, a3, -⟩ := D19.cells
  refine bodyPost_ret (v := .agg #[.int .i64 u.a.base, .slice B1 u.a.digits.length d1, .int .i64 u.b.base, .slice B2 u.b.digits.length d2, .int .i64 u.s.base, .slice B3 u.s.digits.length d3, .int .i64 u.carry]) (by simp [results, Try.results53, go_sem, a1]) rfl ⟨u, B1, d1, B2, d2, B3, d3, rfl, hul, ?_⟩
  exact (D19.sel [2, 3, 4] 99 (by decide) (by decide)).mono (by omega)
end Go.Proofs.Ytcapccadpbiecaa

namespace Go.Proofs.Ytcapccadpbiecaa
open Go.RowKit Go.Sort
/-- drawn values -/
def DVals (b M : Nat) (w : World) (e : Ending) (w' : World) : Prop := ∃ (A : Option Addr) (c : Nat) (us : List Int), e = .returned (.slice A us.length c) ∧ us.length ≤ 70 ∧ DR b M w [rowI A c us] w'
set_option maxRecDepth 100000 in
set_option maxHeartbeats 1600000 in
theorem l12Values_dr (b N : Nat) (w : World) (h : Src w b N) (hN : N ≤ 600000) :
    Calls Try.prog 79 #[.pointer (some ⟨b, 0, none⟩)] w (DVals b (N + 40) w) := by
  unfold DVals
  have D0 := DR.nil h
  clear h
  go_enter Try.func79, Try.ntmps79
  go_wp2_with fail
  refine Calls.dr (D0.al [] 2) ?_; intro w1 D1
  obtain ⟨g, hg⟩ : ∃ g, w.heap.size = g := ⟨_, rfl⟩
  rw [hg] at D1 ⊢
  have D2 : DR b _ w [rowI (some ⟨g, 0, none⟩) 0 []] w1 := D1.kn (fun v hK => hK.litRow (size := 1) (n := 0) rfl (by decide))
  clear D0 D1 hg
  refine (pick_dr b _ 8 w1 D2.src (by omega)).mono ?_; rintro e w5 ⟨x, rfl, hx, h5⟩
  have D6 : DR b _ w [rowI (some ⟨g, 0, none⟩) 0 []] w5 := D2.add h5
  clear D2 h5
  obtain ⟨q, rfl⟩ : ∃ q : Nat, x = q := ⟨x.toNat, by omega⟩
  have hq : q ≤ 7 := by rcases hx.2 with h | h <;> omega
  clear hx
  go_wp2_with fail
  go_loopw [3, 4] (fun ll kk wr => ∃ (k : Nat) (B : Option Addr) (m : Nat) (us : List Int), kk = .int .i64 (k : Int) ∧ us.length + k ≤ 7 ∧ ll = .slice B us.length m ∧ DR b (N + 2 + us.length * 2) w [rowI B m us] wr) (fun _ kk _ => (intOf kk).toNat)
  case atStart => exact ⟨q, _, _, [], rfl, by simpa using hq, rfl, D6.mono (by simp)⟩
  case round =>
    obtain ⟨k, B, m, us, rfl, hk, rfl, D⟩ := hrel
    clear D6
    by_cases hkn : 0 < k
    · have hk1 : (0 : Int) < (k : Int) := by omega
      have hk2 : (k : Int) > 0 := hk1
      go_wp2_with fail
      refine (pick_dr b _ 120 wr D.src (by omega)).mono ?_; rintro e w6 ⟨x, rfl, hx, h6⟩
      obtain ⟨v, hT, hS, hK⟩ : DR b _ w [rowI B m us] w6 := D.add h6
      clear D h6
      go_wp2_with (at_builtin; refine kn_pushI rfl _ _ rfl _ us rfl rfl (hK.al [.int .i64 x] 2) (by omega) ?_; intro v5 w7 hK9; obtain ⟨A5, c5, rfl⟩ := row_form hK9.at0)
      go_roundw
      case rel => exact ⟨k - 1, A5, c5, us ++ [x], by go_num, by simp; omega, by simp, v, hT, hS.mono (by simp; omega), hK9⟩
      case measure => simp [intOf]; omega
    · have hk1 : ¬ (k : Int) > 0 := by omega
      go_wp2_with fail
      refine (pick_dr b _ 20 wr D.src (by omega)).mono ?_; rintro e w6 ⟨y, rfl, hy, h6⟩
      have D6 : DR b _ w [rowI B m us] w6 := D.add h6
      clear D h6
      have y0 : 0 ≤ y := hy.1
      clear hy
      by_cases h0 : y = 0
      · subst h0
        go_wp2_with fail
        refine Calls.dr (D6.al [.int .i64 (-1), .int .i64 1000000000000, .int .i64 1000000000001] 2) ?_; intro w7 D7
        obtain ⟨hr, hA⟩ := DR.lit (ds := [-1, 1000000000000, 1000000000001]) D7 (by decide)
        refine (among_dr b _ _ 3 3 _ w7 D7.src (by omega) hr hA (by omega) (by omega)).mono ?_; rintro e w8 ⟨x, rfl, hx, h8⟩
        obtain ⟨v, hT, hS, hK⟩ := (D7.add h8).front 1 rfl
        clear hr hA D6 D7 h8 hx
        go_wp2_with (at_builtin; refine kn_pushI rfl _ _ rfl _ us rfl rfl (hK.al [.int .i64 x] 2) (by omega) ?_; intro v5 w9 hK9; obtain ⟨A5, c5, rfl⟩ := row_form hK9.at0)
        go_ret
        have D9 : DR b _ w _ w9 := ⟨v, hT, hS, hK9⟩
        exact ⟨A5, c5, us ++ [x], by rw [List.length_append]; rfl, by simp; omega, (D9.sel [0] 99 (by decide) (by decide)).mono (by omega)⟩
      by_cases h1 : y = 1
      · subst h1
        go_wp2_with fail
        refine (pick_dr b _ 2 w6 D6.src (by omega)).mono ?_; rintro e w7 ⟨x, rfl, hx, h7⟩
        have D7 := D6.add h7
        clear D6 h7
        obtain ⟨p, rfl⟩ : ∃ p : Nat, x = p := ⟨x.toNat, by omega⟩
        have hp : p ≤ 1 := by rcases hx.2 with h | h <;> omega
        clear hx
        have hp2 : IntKind.i64.wrap (59 + (p : Int)) = (p : Int) + 59 := by rw [wrapI64 (by omega)]; omega
        have hm : ∀ W : World, (Instr.makeSlice 24 (.int .i64 ((p : Int) + 59)) (.int .i64 ((p : Int) + 59))).run Try.prog W = .ok (.slice (some ⟨W.heap.size, 0, none⟩) (p + 59) (p + 59)) (W.alloc (.cells ((List.replicate (p + 59) 0).map (Value.int .i64)).toArray 2)) := fun W => by
          have h := run_make_row' (P := Try.prog) 24 2 (.int .i64 0) 8 (by kernel_rfl) (by kernel_rfl) rfl .i64 .i64 (p + 59) (by omega) (by omega) W
          rw [List.map_replicate, ← toList_madeCells_one, Array.toArray_toList]
          exact h
        have D8 := D7.al ((List.replicate (p + 59) 0).map (Value.int .i64)) 2
        have D9 : DR b _ w [rowI (some ⟨w7.heap.size, 0, none⟩) (p + 59) (List.replicate (p + 59) 0), rowI B m us] _ := D8.kn (fun v hK => by
          have h := hK.litRow (size := 1) (n := p + 59) (by simp) (by unfold maxLen; omega)
          unfold rowI
          rw [List.length_replicate]
          exact h)
        have he : ((List.replicate (p + 59) (0 : Int)).map (Value.int .i64)).toArray = Array.replicate (p + 59) (.int .i64 0) := by simp
        rw [he] at D9
        go_wp2_with fail
        go_ret
        refine ⟨_, _, List.replicate (p + 59) 0, by rw [List.length_replicate]; rfl, by rw [List.length_replicate]; omega, (D9.sel [0] 99 (by decide) (by decide)).mono (by omega)⟩
      · have e0 : (y == 0) = false := by simp [h0]
        have e1 : (y == 1) = false := by simp [h1]
        go_wp2_with fail
        go_ret
        exact ⟨B, m, us, rfl, by omega, D6.mono (by omega)⟩
end Go.Proofs.Ytcapccadpbiecaa

namespace Go.Proofs.Ytcapccadpbiecaa
open Go.RowKit Go.Sort
set_option maxRecDepth 100000 in
set_option maxHeartbeats 3200000 in
theorem DrawDivideOn_any (A : Option Addr) (n c : Nat) (bs : List UInt8) (w : World) (hb : RB w A n bs) (hn : n ≤ 9223372036854775807) :
    Calls Try.prog 7 #[.slice A n c] w fun e w' => ∃ (t : Tri) (A1 : Option Addr) (c1 : Nat) (A2 : Option Addr) (c2 : Nat) (A3 : Option Addr) (c3 : Nat) (x y : Int), e = .returned (.tuple #[.agg #[.int .i64 t.a.base, .slice A1 t.a.digits.length c1, .int .i64 t.b.base, .slice A2 t.b.digits.length c2, .int .i64 t.s.base, .slice A3 t.s.digits.length c3, .int .i64 t.carry], .int .i64 x, .int .i64 y]) ∧ (t.a.digits.length ≤ 22 ∧ t.b.digits.length ≤ 22 ∧ t.s.digits.length ≤ 22) ∧ Kn w [rowI A3 c3 t.s.digits, rowI A2 c2 t.b.digits, rowI A1 c1 t.a.digits] w' := by
  have HB := Lib.hid hb
  clear hb
  go_enter Try.func7, Try.ntmps7
  go_wp2_with fail
  refine Calls.kn ((Kn.nil w).al [.int .i64 0, .slice none 0 0, .int .i64 0, .slice none 0 0, .int .i64 0, .slice none 0 0, .int .i64 0] 28) ?_; intro w1 K1
  refine (l00From_any A n c bs w1 (HB.out.below K1.below) hn).mono ?_; rintro e w2 ⟨rfl, hs, hb2⟩
  have D2 := DR.nil hs
  clear HB hs
  go_wp2_with fail
  have KD := Lib.hid (l10Bent_dr _ _ w2 D2.src (by omega))
  unfold DBent at KD
  refine KD.out.mono ?_; rintro e w3 ⟨t, A1, c1, A2, c2, A3, c3, rfl, hl, h3⟩
  have D3 := D2.add h3
  clear D2 h3 KD
  go_wp2_with fail
  refine Calls.dr (D3.al [.int .i64 t.a.base, .slice A1 t.a.digits.length c1, .int .i64 t.b.base, .slice A2 t.b.digits.length c2, .int .i64 t.s.base, .slice A3 t.s.digits.length c3, .int .i64 t.carry] 28) ?_; intro w4 D4
  obtain ⟨g, hg⟩ : ∃ g, w3.heap.size = g := ⟨_, rfl⟩
  rw [hg] at D4 ⊢
  clear D3 hg
  refine (pick_dr _ _ 200 w4 D4.src (by omega)).mono ?_; rintro e w5 ⟨p, rfl, hp, h5⟩
  have D5 := D4.add h5
  clear D4 h5
  go_wp2_with fail
  refine (pick_dr _ _ 20 w5 D5.src (by omega)).mono ?_; rintro e w6 ⟨q, rfl, hq, h6⟩
  have D6 := D5.add h6
  clear D5 h6
  go_wp2_with fail
  refine (pick_dr _ _ 40 w6 D6.src (by omega)).mono ?_; rintro e w7 ⟨u, rfl, hu, h7⟩
  have D7 := D6.add h7
  clear D6 h7
  go_wp2_with fail
  refine (pick_dr _ _ 12 w7 D7.src (by omega)).mono ?_; rintro e w8 ⟨z, rfl, hz, h8⟩
  have D8 : DR _ _ w2 [.blk g [.int .i64 t.a.base, .slice A1 t.a.digits.length c1, .int .i64 t.b.base, .slice A2 t.b.digits.length c2, .int .i64 t.s.base, .slice A3 t.s.digits.length c3, .int .i64 t.carry] 28, rowI A3 c3 t.s.digits, rowI A2 c2 t.b.digits, rowI A1 c1 t.a.digits] w8 := D7.add h8
  clear D7 h8
  have z0 : 0 ≤ z := hz.1
  clear hz hp hq hu
  have D4 := D8
  by_cases h0 : z = 0
  · subst h0
    clear D4
    go_wp2_with fail
    refine Calls.dr (D8.al [.int .i64 (-1), .int .i64 0, .int .i64 99999999, .int .i64 100000000, .int .i64 9223372036854775807] 2) ?_; intro w9 D9
    obtain ⟨hr, hA⟩ := DR.lit (ds := [-1, 0, 99999999, 100000000, 9223372036854775807]) D9 (by decide)
    refine (among_dr _ _ _ 5 5 _ w9 D9.src (by omega) hr hA (by omega) (by omega)).mono ?_; rintro e w10 ⟨x, rfl, hx, h10⟩
    have D10 := (D9.add h10).sel [1, 2, 3, 4] 99 (by decide) (by decide)
    clear hr hA D8 D9 h10 hx
    obtain ⟨w8, hw8⟩ : ∃ w8, w10 = w8 := ⟨_, rfl⟩
    rw [hw8] at D10 ⊢
    clear hw8
    have D8 := D10
    have D4 := D10
    clear D10
    clear D4
    have K5 : Kn w [.blk g [.int .i64 t.a.base, .slice A1 t.a.digits.length c1, .int .i64 t.b.base, .slice A2 t.b.digits.length c2, .int .i64 t.s.base, .slice A3 t.s.digits.length c3, .int .i64 t.carry] 28, rowI A3 c3 t.s.digits, rowI A2 c2 t.b.digits, rowI A1 c1 t.a.digits, .blk w.heap.size [.int .i64 0, .slice none 0 0, .int .i64 0, .slice none 0 0, .int .i64 0, .slice none 0 0, .int .i64 0] 28] w8 := K1.join (Kn.ofDR hb2 (Nat.le_refl _) D8)
    clear D8 K1 hb2
    obtain ⟨a1, a2, a3, -⟩ := K5.cells
    obtain ⟨x1, x2, x3, -⟩ := (K5.front 4 rfl).cells
    go_wp2_with fail
    refine bodyPost.kn ((((((((K5.front 4 rfl).st 0 (.int .i64 t.a.base)).st 1 (.slice A1 t.a.digits.length c1)).st 2 (.int .i64 t.b.base)).st 3 (.slice A2 t.b.digits.length c2)).st 4 (.int .i64 t.s.base)).st 5 (.slice A3 t.s.digits.length c3)).st 6 (.int .i64 t.carry)) ?_; intro w16 K16
    clear a1 a2 a3 x1 x2 x3
    obtain ⟨a1, a2, a3, -⟩ := K16.cells
    refine bodyPost_ret (v := .tuple #[.agg #[.int .i64 t.a.base, .slice A1 t.a.digits.length c1, .int .i64 t.b.base, .slice A2 t.b.digits.length c2, .int .i64 t.s.base, .slice A3 t.s.digits.length c3, .int .i64 t.carry], .int .i64 (x), .int .i64 (1 + u)]) (by simp [results, Try.results7, go_sem, a1]) rfl ⟨t, A1, c1, A2, c2, A3, c3, x, 1 + u, rfl, hl, ?_⟩
    exact K16.sel [2, 3, 4] 99 (by decide) (by decide)
  by_cases h1 : z = 1
  · subst h1
    clear D4
    go_wp2_with fail
    refine Calls.dr (D8.al [.int .i64 (-1), .int .i64 0, .int .i64 9999, .int .i64 10000] 2) ?_; intro w9 D9
    obtain ⟨hr, hA⟩ := DR.lit (ds := [-1, 0, 9999, 10000]) D9 (by decide)
    refine (among_dr _ _ _ 4 4 _ w9 D9.src (by omega) hr hA (by omega) (by omega)).mono ?_; rintro e w10 ⟨y, rfl, hx, h10⟩
    have D10 := (D9.add h10).sel [1, 2, 3, 4] 99 (by decide) (by decide)
    clear hr hA D8 D9 h10 hx
    obtain ⟨w8, hw8⟩ : ∃ w8, w10 = w8 := ⟨_, rfl⟩
    rw [hw8] at D10 ⊢
    clear hw8
    have D8 := D10
    have D4 := D10
    clear D10
    clear D4
    have K5 : Kn w [.blk g [.int .i64 t.a.base, .slice A1 t.a.digits.length c1, .int .i64 t.b.base, .slice A2 t.b.digits.length c2, .int .i64 t.s.base, .slice A3 t.s.digits.length c3, .int .i64 t.carry] 28, rowI A3 c3 t.s.digits, rowI A2 c2 t.b.digits, rowI A1 c1 t.a.digits, .blk w.heap.size [.int .i64 0, .slice none 0 0, .int .i64 0, .slice none 0 0, .int .i64 0, .slice none 0 0, .int .i64 0] 28] w8 := K1.join (Kn.ofDR hb2 (Nat.le_refl _) D8)
    clear D8 K1 hb2
    obtain ⟨a1, a2, a3, -⟩ := K5.cells
    obtain ⟨x1, x2, x3, -⟩ := (K5.front 4 rfl).cells
    go_wp2_with fail
    refine bodyPost.kn ((((((((K5.front 4 rfl).st 0 (.int .i64 t.a.base)).st 1 (.slice A1 t.a.digits.length c1)).st 2 (.int .i64 t.b.base)).st 3 (.slice A2 t.b.digits.length c2)).st 4 (.int .i64 t.s.base)).st 5 (.slice A3 t.s.digits.length c3)).st 6 (.int .i64 t.carry)) ?_; intro w16 K16
    clear a1 a2 a3 x1 x2 x3
    obtain ⟨a1, a2, a3, -⟩ := K16.cells
    refine bodyPost_ret (v := .tuple #[.agg #[.int .i64 t.a.base, .slice A1 t.a.digits.length c1, .int .i64 t.b.base, .slice A2 t.b.digits.length c2, .int .i64 t.s.base, .slice A3 t.s.digits.length c3, .int .i64 t.carry], .int .i64 (wrap64 (p * (1 + q))), .int .i64 (y)]) (by simp [results, Try.results7, go_sem, a1]) rfl ⟨t, A1, c1, A2, c2, A3, c3, wrap64 (p * (1 + q)), y, rfl, hl, ?_⟩
    exact K16.sel [2, 3, 4] 99 (by decide) (by decide)
  have e0 : (z == 0) = false := by simp [h0]
  have e1 : (z == 1) = false := by simp [h1]
  clear D4
  have K5 : Kn w [.blk g [.int .i64 t.a.base, .slice A1 t.a.digits.length c1, .int .i64 t.b.base, .slice A2 t.b.digits.length c2, .int .i64 t.s.base, .slice A3 t.s.digits.length c3, .int .i64 t.carry] 28, rowI A3 c3 t.s.digits, rowI A2 c2 t.b.digits, rowI A1 c1 t.a.digits, .blk w.heap.size [.int .i64 0, .slice none 0 0, .int .i64 0, .slice none 0 0, .int .i64 0, .slice none 0 0, .int .i64 0] 28] w8 := K1.join (Kn.ofDR hb2 (Nat.le_refl _) D8)
  clear D8 K1 hb2
  obtain ⟨a1, a2, a3, -⟩ := K5.cells
  obtain ⟨x1, x2, x3, -⟩ := (K5.front 4 rfl).cells
  go_wp2_with fail
  refine bodyPost.kn ((((((((K5.front 4 rfl).st 0 (.int .i64 t.a.base)).st 1 (.slice A1 t.a.digits.length c1)).st 2 (.int .i64 t.b.base)).st 3 (.slice A2 t.b.digits.length c2)).st 4 (.int .i64 t.s.base)).st 5 (.slice A3 t.s.digits.length c3)).st 6 (.int .i64 t.carry)) ?_; intro w16 K16
  clear a1 a2 a3 x1 x2 x3
  obtain ⟨a1, a2, a3, -⟩ := K16.cells
  refine bodyPost_ret (v := .tuple #[.agg #[.int .i64 t.a.base, .slice A1 t.a.digits.length c1, .int .i64 t.b.base, .slice A2 t.b.digits.length c2, .int .i64 t.s.base, .slice A3 t.s.digits.length c3, .int .i64 t.carry], .int .i64 (wrap64 (p * (1 + q))), .int .i64 (1 + u)]) (by simp [results, Try.results7, go_sem, a1]) rfl ⟨t, A1, c1, A2, c2, A3, c3, wrap64 (p * (1 + q)), 1 + u, rfl, hl, ?_⟩
  exact K16.sel [2, 3, 4] 99 (by decide) (by decide)
set_option maxRecDepth 100000 in
set_option maxHeartbeats 1600000 in
theorem DrawSumProgram_any (A : Option Addr) (n c : Nat) (bs : List UInt8) (w : World) (hb : RB w A n bs) (hn : n ≤ 9223372036854775807) :
    Calls Try.prog 16 #[.slice A n c] w fun e w' => ∃ (B : Option Addr) (m : Nat) (us : List Int), e = .returned (.slice B us.length m) ∧ us.length ≤ 70 ∧ Kn w [rowI B m us] w' := by
  have HB := Lib.hid hb
  clear hb
  go_enter Try.func16, Try.ntmps16
  go_wp2_with fail
  refine (l00From_any A n c bs w HB.out hn).mono ?_; rintro e w2 ⟨rfl, hs, hb2⟩
  have D2 := DR.nil hs
  have KD := Lib.hid (l12Values_dr _ _ w2 D2.src (by omega))
  unfold DVals at KD
  clear HB hs
  go_wp2_with fail
  refine KD.out.mono ?_; rintro e w3 ⟨B, m, us, rfl, hl, h3⟩
  have K3 := (Kn.nil w).join (Kn.ofDR hb2 (Nat.le_refl _) (D2.add h3))
  clear D2 h3 KD
  go_wp2_with fail
  go_ret
  exact ⟨B, m, us, rfl, hl, K3⟩
set_option maxRecDepth 100000 in
set_option maxHeartbeats 1600000 in
theorem DrawDivideProgram_any (A : Option Addr) (n c : Nat) (bs : List UInt8) (w : World) (hb : RB w A n bs) (hn : n ≤ 9223372036854775807) :
    Calls Try.prog 10 #[.slice A n c] w fun e w' => ∃ x : Int, e = .returned (.int .i64 x) ∧ (0 ≤ x ∧ x ≤ 17) ∧ Below w.heap.size w w' := by
  have HB := Lib.hid hb
  clear hb
  go_enter Try.func10, Try.ntmps10
  go_wp2_with fail
  refine (l00From_any A n c bs w HB.out hn).mono ?_; rintro e w2 ⟨rfl, hs, hb2⟩
  have D2 := DR.nil hs
  clear HB hs
  go_wp2_with fail
  refine (one_dr _ _ 8 w2 D2.src (by omega)).mono ?_; rintro e w3 ⟨z, rfl, h3⟩
  have D3 := D2.add h3
  clear D2 h3
  rcases z with _ | _
  · go_wp2_with fail
    refine (pick_dr _ _ 8 w3 D3.src (by omega)).mono ?_; rintro e w4 ⟨p, rfl, hp, h4⟩
    have D4 := D3.add h4
    have K4 := (Kn.nil w).join (Kn.ofDR hb2 (Nat.le_refl _) D4)
    clear D3 D4 h4 hb2
    have hw : IntKind.i64.wrap (1 + p) = 1 + p := wrapI64 (by omega)
    go_wp2_with fail
    go_ret
    exact ⟨1 + p, rfl, by omega, K4.below⟩
  · go_wp2_with fail
    refine Calls.dr (D3.al [.int .i64 0, .int .i64 1, .int .i64 16, .int .i64 17] 2) ?_; intro w9 D9
    obtain ⟨hr, hA⟩ := DR.lit (ds := [0, 1, 16, 17]) D9 (by decide)
    refine (among_dr _ _ _ 4 4 _ w9 D9.src (by omega) hr hA (by omega) (by omega)).mono ?_; rintro e w10 ⟨y, rfl, hx, h10⟩
    have K4 := (Kn.nil w).join (Kn.ofDR hb2 (Nat.le_refl _) (D9.add h10))
    clear hr hA D3 D9 h10 hb2
    go_wp2_with fail
    go_ret
    refine ⟨y, rfl, ?_, K4.below⟩
    simp at hx
    rcases hx with rfl | rfl | rfl | rfl <;> omega
end Go.Proofs.Ytcapccadpbiecaa

namespace Go.Proofs.Ytcapccadpbiecaa
open Go.RowKit Go.Sort
theorem DR.box7at {b N : Nat} {w wi : World} {m : List Ent} {g : Nat} {v0 v1 v2 v3 v4 v5 v6 : Value} {T : TypeId} (h : DR b N w m wi) (i : Nat) (hi : m[i]? = some (.blk g [v0, v1, v2, v3, v4, v5, v6] T)) :
    wi.cell? ⟨g, 0, none⟩ = some v0 ∧ wi.cell? ⟨g, 1, none⟩ = some v1 ∧ wi.cell? ⟨g, 2, none⟩ = some v2 ∧ wi.cell? ⟨g, 3, none⟩ = some v3 ∧ wi.cell? ⟨g, 4, none⟩ = some v4 ∧ wi.cell? ⟨g, 5, none⟩ = some v5 ∧ wi.cell? ⟨g, 6, none⟩ = some v6 := by
  obtain ⟨v, -, -, hK⟩ := h
  exact Go.Proofs.Ytcapccadpbiecaa.box7at hK i hi
set_option maxRecDepth 100000 in
set_option maxHeartbeats 3200000 in
theorem DrawSumOn_any (A : Option Addr) (n c : Nat) (bs : List UInt8) (w : World) (hb : RB w A n bs) (hn : n ≤ 9223372036854775807) :
    Calls Try.prog 13 #[.slice A n c] w fun e w' => ∃ (t : Tri) (A1 : Option Addr) (c1 : Nat) (A2 : Option Addr) (c2 : Nat) (A3 : Option Addr) (c3 : Nat) (B : Option Addr) (m : Nat) (us : List Int), e = .returned (.tuple #[.agg #[.int .i64 t.a.base, .slice A1 t.a.digits.length c1, .int .i64 t.b.base, .slice A2 t.b.digits.length c2, .int .i64 t.s.base, .slice A3 t.s.digits.length c3, .int .i64 t.carry], .slice B us.length m]) ∧ ((t.a.digits.length ≤ 22 ∧ t.b.digits.length ≤ 22 ∧ t.s.digits.length ≤ 22) ∧ us.length ≤ 70) ∧ Kn w [rowI A3 c3 t.s.digits, rowI A2 c2 t.b.digits, rowI A1 c1 t.a.digits, rowI B m us] w' := by
  have HB := Lib.hid hb
  clear hb
  go_enter Try.func13, Try.ntmps13
  go_wp2_with fail
  refine Calls.kn ((Kn.nil w).al [.int .i64 0, .slice none 0 0, .int .i64 0, .slice none 0 0, .int .i64 0, .slice none 0 0, .int .i64 0] 28) ?_; intro w1 K1
  refine (l00From_any A n c bs w1 (HB.out.below K1.below) hn).mono ?_; rintro e w2 ⟨rfl, hs, hb2⟩
  have D2 := DR.nil hs
  clear HB hs
  go_wp2_with fail
  have KD := Lib.hid (l10Bent_dr _ _ w2 D2.src (by omega))
  unfold DBent at KD
  refine KD.out.mono ?_; rintro e w3 ⟨t, A1, c1, A2, c2, A3, c3, rfl, hl, h3⟩
  have D3 := D2.add h3
  clear D2 h3 KD
  go_wp2_with fail
  obtain ⟨g, hg⟩ : ∃ g, w3.heap.size = g := ⟨_, rfl⟩
  have D4 := D3.al [.int .i64 t.a.base, .slice A1 t.a.digits.length c1, .int .i64 t.b.base, .slice A2 t.b.digits.length c2, .int .i64 t.s.base, .slice A3 t.s.digits.length c3, .int .i64 t.carry] 28
  rw [hg] at D4 ⊢
  generalize w3.alloc (.cells #[.int .i64 t.a.base, .slice A1 t.a.digits.length c1, .int .i64 t.b.base, .slice A2 t.b.digits.length c2, .int .i64 t.s.base, .slice A3 t.s.digits.length c3, .int .i64 t.carry] 28) = w4 at D4 ⊢
  clear D3 hg
  have HG := Lib.hid (D4.drew.box7at 0 rfl)
  have HT := HG
  have HV := Lib.hid (l12Values_dr _ _ _ D4.drew.src (by omega))
  unfold DVals at HV
  go_region_held3 (fun W => W.cell? ⟨g, 0, none⟩ = some (.int .i64 t.a.base) ∧ W.cell? ⟨g, 1, none⟩ = some (.slice A1 t.a.digits.length c1) ∧ W.cell? ⟨g, 2, none⟩ = some (.int .i64 t.b.base) ∧ W.cell? ⟨g, 3, none⟩ = some (.slice A2 t.b.digits.length c2) ∧ W.cell? ⟨g, 4, none⟩ = some (.int .i64 t.s.base) ∧ W.cell? ⟨g, 5, none⟩ = some (.slice A3 t.s.digits.length c3) ∧ W.cell? ⟨g, 6, none⟩ = some (.int .i64 t.carry)) (first | with_reducible exact HG.out | with_reducible exact HT.out | exact HG.out | exact HT.out) (first
    | (go_at_call 79; (refine HV.out.mono ?_); rintro e w5 ⟨B, m, us, rfl, hul, h5⟩; have D5 := D4.drew.add h5; clear HG; have HG := Lib.hid (D5.box7at 1 rfl); have K5 : Kn w [rowI B m us, .blk g [.int .i64 t.a.base, .slice A1 t.a.digits.length c1, .int .i64 t.b.base, .slice A2 t.b.digits.length c2, .int .i64 t.s.base, .slice A3 t.s.digits.length c3, .int .i64 t.carry] 28, rowI A3 c3 t.s.digits, rowI A2 c2 t.b.digits, rowI A1 c1 t.a.digits, .blk w.heap.size [.int .i64 0, .slice none 0 0, .int .i64 0, .slice none 0 0, .int .i64 0, .slice none 0 0, .int .i64 0] 28] w5 := K1.join (Kn.ofDR hb2 (Nat.le_refl _) D5); obtain ⟨x1, x2, x3, -⟩ := (K5.front 5 rfl).cells; have K8 := ((((((((K5.front 5 rfl).st 0 (.int .i64 t.a.base)).st 1 (.slice A1 t.a.digits.length c1)).st 2 (.int .i64 t.b.base)).st 3 (.slice A2 t.b.digits.length c2)).st 4 (.int .i64 t.s.base)).st 5 (.slice A3 t.s.digits.length c3)).st 6 (.int .i64 t.carry)); clear HT; have HT := Lib.hid (Go.Proofs.Ytcapccadpbiecaa.box7at K8 2 rfl)))
  all_goals
    go_wp2_with fail
    refine bodyPost.kn K8 ?_; intro w9 K9
    clear x1 x2 x3
    obtain ⟨a1, a2, a3, -⟩ := K9.cells
    exact bodyPost_ret (v := .tuple #[.agg #[.int .i64 t.a.base, .slice A1 t.a.digits.length c1, .int .i64 t.b.base, .slice A2 t.b.digits.length c2, .int .i64 t.s.base, .slice A3 t.s.digits.length c3, .int .i64 t.carry], .slice B us.length m]) (by simp [results, Try.results13, go_sem, a1]) rfl ⟨t, A1, c1, A2, c2, A3, c3, B, m, us, rfl, ⟨hl, hul⟩, K9.sel [3, 4, 5, 1] 99 (by decide) (by decide)⟩
end Go.Proofs.Ytcapccadpbiecaa

namespace Go.Proofs.Ytcapccadpbiecaa
open Go.RowKit Go.Sort
/-- a machine on which only the setting is not 0 -/
def freshT (t : Tri) (v : Int) : Tri := ⟨⟨t.a.base, digD t.a.base t.a.digits.length v⟩, ⟨t.a.base, digD t.a.base t.b.digits.length 0⟩, ⟨t.a.base, digD t.a.base t.s.digits.length 0⟩, 0⟩
set_option maxRecDepth 100000 in
set_option maxHeartbeats 1600000 in
theorem l12Fresh_any (g : Nat) (b : Int) (A1 A2 A3 : Option Addr) (n1 n2 n3 c1 c2 c3 : Nat) (v : Int) (w : World)
    (q1 : w.cell? ⟨g, 0, none⟩ = some (.int .i64 b)) (q2 : w.cell? ⟨g, 1, none⟩ = some (.slice A1 n1 c1)) (q4 : w.cell? ⟨g, 3, none⟩ = some (.slice A2 n2 c2)) (q6 : w.cell? ⟨g, 5, none⟩ = some (.slice A3 n3 c3))
    (b1 : 2 ≤ b) (b2 : b ≤ 16) (h1 : n1 ≤ 1000000) (h2 : n2 ≤ 1000000) (h3 : n3 ≤ 1000000) (v0 : 0 ≤ v) (v1 : v ≤ 9223372036854775807) :
    Calls Try.prog 72 #[.pointer (some ⟨g, 0, none⟩), .int .i64 v] w fun e w' => ∃ E1 g1 E2 g2 E3 g3, e = .returned (.agg #[.int .i64 b, .slice E1 (digD b n1 v).length g1, .int .i64 b, .slice E2 (digD b n2 0).length g2, .int .i64 b, .slice E3 (digD b n3 0).length g3, .int .i64 0]) ∧
      Kn w [rowI E3 g3 (digD b n3 0), rowI E2 g2 (digD b n2 0), rowI E1 g1 (digD b n1 v)] w' := by
  have hlt : g < w.heap.size := World.block_lt_of_cell? w _ q1
  have HP := Lib.hid (fun W (hW : Below w.heap.size w W) => (show W.cell? ⟨g, 0, none⟩ = some (.int .i64 b) ∧ W.cell? ⟨g, 1, none⟩ = some (.slice A1 n1 c1) ∧ W.cell? ⟨g, 3, none⟩ = some (.slice A2 n2 c2) ∧ W.cell? ⟨g, 5, none⟩ = some (.slice A3 n3 c3) from
    ⟨(hW.cell (p := ⟨g, 0, none⟩) hlt).trans q1, (hW.cell (p := ⟨g, 1, none⟩) hlt).trans q2, (hW.cell (p := ⟨g, 3, none⟩) hlt).trans q4, (hW.cell (p := ⟨g, 5, none⟩) hlt).trans q6⟩))
  have KN := (fun W => l10New_any b n1 n2 n3 W b1 b2 h1 h2 h3)
  have KV := (fun W => l02NewV_any b n1 v W b1 b2 h1 v0 v1)
  obtain ⟨x1, hx1⟩ : ∃ x, digD b n1 0 = x := ⟨_, rfl⟩
  obtain ⟨x2, hx2⟩ : ∃ x, digD b n2 0 = x := ⟨_, rfl⟩
  obtain ⟨x3, hx3⟩ : ∃ x, digD b n3 0 = x := ⟨_, rfl⟩
  obtain ⟨ds, hds⟩ : ∃ x, digD b n1 v = x := ⟨_, rfl⟩
  rw [hx1, hx2, hx3] at KN
  rw [hds] at KV
  rw [hx2, hx3, hds]
  have KN := Lib.hid KN
  have KV := Lib.hid KV
  clear hx1 hx2 hx3 hds q1 q2 q4 q6 hlt
  go_enter Try.func72, Try.ntmps72
  go_wp2_with fail
  have hK2 := (Kn.nil w).al [.int .i64 0, .slice none 0 0, .int .i64 0, .slice none 0 0, .int .i64 0, .slice none 0 0, .int .i64 0] 28
  generalize w.alloc (.cells #[.int .i64 0, .slice none 0 0, .int .i64 0, .slice none 0 0, .int .i64 0, .slice none 0 0, .int .i64 0] 28) = w2 at hK2 ⊢
  have HT := Lib.hid (HP.out _ hK2.drew.below)
  have HA := Lib.hid (HP.out _ (hK2.al [.int .i64 0, .slice none 0 0, .int .i64 0, .slice none 0 0, .int .i64 0, .slice none 0 0, .int .i64 0] 28).drew.below)
  have HS := HT
  go_cut [5] (fun pp wx => ∃ (g5 : Nat) (E1 : Option Addr) (g1 : Nat) (E2 : Option Addr) (g2 : Nat) (E3 : Option Addr) (g3 : Nat), pp = .pointer (some ⟨g5, 0, none⟩) ∧ Kn w [.blk g5 [.int .i64 b, .slice E1 x1.length g1, .int .i64 b, .slice E2 x2.length g2, .int .i64 b, .slice E3 x3.length g3, .int .i64 0] 28, rowI E3 g3 x3, rowI E2 g2 x2, rowI E1 g1 x1, .blk w.heap.size [.int .i64 0, .slice none 0 0, .int .i64 0, .slice none 0 0, .int .i64 0, .slice none 0 0, .int .i64 0] 28] wx)
  case first =>
    go_region_held3 (fun W => W.cell? ⟨g, 0, none⟩ = some (.int .i64 b) ∧ W.cell? ⟨g, 1, none⟩ = some (.slice A1 n1 c1) ∧ W.cell? ⟨g, 3, none⟩ = some (.slice A2 n2 c2) ∧ W.cell? ⟨g, 5, none⟩ = some (.slice A3 n3 c3))
      (first | with_reducible exact HT.out | with_reducible exact HA.out | with_reducible exact HS.out) (first
      | (go_at_call 117; (with_reducible refine (KN.out _).mono ?_); rintro e w4 ⟨E1, g1, E2, g2, E3, g3, rfl, hK⟩; clear HT HA; first
        | (have hK4 := hK2.drew.join hK; have HT := Lib.hid (HP.out _ hK4.below); have HA := Lib.hid (HP.out _ (hK4.al [.int .i64 0, .slice none 0 0, .int .i64 0, .slice none 0 0, .int .i64 0, .slice none 0 0, .int .i64 0] 28).below); have hK5 := hK4.al [.int .i64 b, .slice E1 x1.length g1, .int .i64 b, .slice E2 x2.length g2, .int .i64 b, .slice E3 x3.length g3, .int .i64 0] 28; have HS := Lib.hid (HP.out _ hK5.below))
        | (have hK4 := (hK2.al [.int .i64 0, .slice none 0 0, .int .i64 0, .slice none 0 0, .int .i64 0, .slice none 0 0, .int .i64 0] 28).drew.join hK; have HT := Lib.hid (HP.out _ hK4.below); obtain ⟨p1, p2, p3⟩ := hK4.drop.drop.drop.blkAt; have HA := HT; have hK5 := ((((((hK4.sw3.st 0 (.int .i64 b)).st 1 (.slice E1 x1.length g1)).st 2 (.int .i64 b)).st 3 (.slice E2 x2.length g2)).st 4 (.int .i64 b)).st 5 (.slice E3 x3.length g3)).st 6 (.int .i64 0); have HS := Lib.hid (HP.out _ hK5.below))))
    all_goals
      go_wp2_with fail
      go_meet
      exact ⟨_, _, _, _, _, _, _, rfl, hK5⟩
  case rest =>
    obtain ⟨g5, E1, g1, E2, g2, E3, g3, rfl, hK5⟩ := hcut
    clear HT HA HS hK2 KN
    go_wp2_with fail
    have HT := Lib.hid (HP.out _ hK5.drew.below)
    have HA := Lib.hid (HP.out _ (hK5.al [.int .i64 0, .slice none 0 0] 26).drew.below)
    have HS := HT
    go_cut [6] (fun pp wx => ∃ (g6 : Nat) (F : Option Addr) (f : Nat), pp = .pointer (some ⟨g6, 0, none⟩) ∧ Kn w [.blk g6 [.int .i64 b, .slice F ds.length f] 26, rowI F f ds, .blk g5 [.int .i64 b, .slice E1 x1.length g1, .int .i64 b, .slice E2 x2.length g2, .int .i64 b, .slice E3 x3.length g3, .int .i64 0] 28, rowI E3 g3 x3, rowI E2 g2 x2, rowI E1 g1 x1, .blk w.heap.size [.int .i64 0, .slice none 0 0, .int .i64 0, .slice none 0 0, .int .i64 0, .slice none 0 0, .int .i64 0] 28] wx)
    case first =>
      go_region_held3 (fun W => W.cell? ⟨g, 0, none⟩ = some (.int .i64 b) ∧ W.cell? ⟨g, 1, none⟩ = some (.slice A1 n1 c1) ∧ W.cell? ⟨g, 3, none⟩ = some (.slice A2 n2 c2) ∧ W.cell? ⟨g, 5, none⟩ = some (.slice A3 n3 c3))
        (first | with_reducible exact HT.out | with_reducible exact HA.out | with_reducible exact HS.out) (first
        | (go_at_call 73; (with_reducible refine (KV.out _).mono ?_); rintro e w4 ⟨F, f, rfl, hK⟩; clear HT HA; first
          | (have hK6 := hK5.drew.join hK; have HT := Lib.hid (HP.out _ hK6.below); have HA := Lib.hid (HP.out _ (hK6.al [.int .i64 0, .slice none 0 0] 26).below); have hK7 := hK6.al [.int .i64 b, .slice F ds.length f] 26; have HS := Lib.hid (HP.out _ hK7.below))
          | (have hK6 := (hK5.al [.int .i64 0, .slice none 0 0] 26).drew.join hK; have HT := Lib.hid (HP.out _ hK6.below); obtain ⟨p1, p2, p3⟩ := hK6.drop.blkAt; have HA := HT; have hK7 := (hK6.sw1.st 0 (.int .i64 b)).st 1 (.slice F ds.length f); have HS := Lib.hid (HP.out _ hK7.below))))
      all_goals
        go_wp2_with fail
        go_meet
        exact ⟨_, _, _, rfl, hK7⟩
    case rest =>
      obtain ⟨g6, F, f, rfl, hK7⟩ := hcut
      clear HT HA HS hK5 KV HP
      obtain ⟨a1, a2, a3, d1, d2, d3, c1', c2', c3', -⟩ := hK7.cells
      have ne1 := hK7.ne 2 6 rfl rfl (by decide)
      have ne2 := ne1.symm
      go_wp2_with fail
      refine bodyPost.kn ((((((((((hK7.front 2 rfl).st 0 (.int .i64 b)).st 1 (.slice F ds.length f)).front 6 rfl).st 0 (.int .i64 b)).st 1 (.slice F ds.length f)).st 2 (.int .i64 b)).st 3 (.slice E2 x2.length g2)).st 4 (.int .i64 b)).st 5 (.slice E3 x3.length g3) |>.st 6 (.int .i64 0)) ?_; intro w8 hK8
      clear a1 a2 a3 d1 d2 d3 c1' c2' c3'
      obtain ⟨a1, a2, a3, -⟩ := hK8.cells
      refine bodyPost_ret (v := .agg #[.int .i64 b, .slice F ds.length f, .int .i64 b, .slice E2 x2.length g2, .int .i64 b, .slice E3 x3.length g3, .int .i64 0]) (by simp [results, Try.results72, go_sem, a1]) rfl ⟨F, f, E2, g2, E3, g3, rfl, ?_⟩
      exact hK8.sel [4, 5, 3] 99 (by decide) (by decide)
end Go.Proofs.Ytcapccadpbiecaa
