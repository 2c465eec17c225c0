/- For every input the law FnExactSumOn returns true and leaves its arguments as they were: the program's SumOn gives the reference's machine, strokes and code, and shares no memory. No condition. -/
import Derived.Test.YtkaaiocbiknipaaZC1
import Derived.Test.YtkaaiocbiknipaaZC2
import Derived.Test.YtkaaiocbiknipaaZC3
import Derived.Test.YtkaaiocbiknipaaZC4
import Derived.Test.YtkaaiocbiknipaaZC5
import Derived.OpenShut
import Derived.Deep.DeepHandedRow
import Derived.Lib.LaidTab
namespace Go.Proofs.Ytkaaiocbiknipaa
open Go.RowKit Go.Sort
theorem cellsIns_app (xs ys : List Ins) : cellsIns (xs ++ ys) = cellsIns xs ++ cellsIns ys := by simp [cellsIns]
theorem kn_pushIns {ops : Array Oper} {rest : List Oper} {o : Oper} {a : Act} {Q : Exit → Act → World → Prop} {w0 w : World} {m : List Ent} (hgd : o.guard = none) (s x : Operand) (ho : o.op = .call { callee := .builtin .append, args := #[s, x], argTypes := #[72, 72] })
    (v : Value) (xs ys : List Ins) (hs : a.eval s = v) {g c : Nat} {T' : TypeId} (hx : a.eval x = .slice (some ⟨g, 0, none⟩) ys.length c)
    (hK : Kn w0 (.blk g (cellsIns ys) T' :: rowIns v xs :: m) w) (hl : xs.length + ys.length ≤ 10000000)
    (h : ∀ v' w', Kn w0 (rowIns v' (xs ++ ys) :: m) w' → wpList Try.prog ops Q rest (a.put o.dst v') w') : wpList Try.prog ops Q (o :: rest) a w := by
  refine kn_app tpIns hgd s x ho v xs.length (cellsIns xs) hs hx hK (cellsIns_len ys) (cellsIns_one ys) (by omega) (by omega) (fun v' w' hK' => h v' w' ?_)
  unfold rowIns
  rw [List.length_append, cellsIns_app]
  exact hK'
/-- the program that divides -/
def divHead (p : Nat) : List Ins := if 1 < p then [⟨4, (p : Int) - 1⟩] else []
def divPart (p j : Nat) : List Ins := [⟨9, 0⟩, ⟨3, 1⟩, ⟨10, 0⟩, ⟨2, 1⟩] ++ (if j + 1 < p then [⟨5, 1⟩] else [])
def divUpto (p : Nat) : Nat → List Ins
  | 0 => divHead p
  | j + 1 => divUpto p j ++ divPart p j
def divProg (p : Nat) : List Ins := divUpto p p
theorem divUpto_len (p j : Nat) : (divUpto p j).length ≤ 1 + 5 * j := by
  induction j with
  | zero => simp only [divUpto, divHead]; split <;> simp
  | succ j ih => simp only [divUpto, divPart, List.length_append]; split <;> simp <;> omega
theorem divProg_ok {p : Nat} (h1 : 1 ≤ p) (h2 : p ≤ 16) : vprog (divProg p) = true := by
  have H : ∀ p : Fin 17, 1 ≤ p.val → vprog (divProg p.val) = true := by decide +kernel
  exact H ⟨p, by omega⟩ h1
set_option maxRecDepth 100000 in
set_option maxHeartbeats 1600000 in
theorem divideProgram_any (p : Nat) (w : World) (h1 : 1 ≤ p) (h2 : p ≤ 16) :
    Calls Try.prog 134 #[.int .i64 p] w fun e w' => ∃ A c, e = .returned (.slice A (divProg p).length c) ∧ Kn w [rowIns (.slice A (divProg p).length c) (divProg p)] w' := by
  have HD0 := Lib.hid (show divUpto p 0 = divHead p from rfl)
  have HDS := Lib.hid (fun j => show divUpto p (j + 1) = divUpto p j ++ divPart p j from rfl)
  have HLN := Lib.hid (divUpto_len p)
  have HPR := Lib.hid (show divProg p = divUpto p p from rfl)
  go_enter Try.func134, Try.ntmps134
  by_cases hp1 : 1 < p
  · have hi1 : (1 : Int) < (p : Int) := by omega
    have hhl : divHead p = [] ++ [⟨4, (p : Int) - 1⟩] := by unfold divHead; rw [if_pos hp1]; rfl
    have HHL := Lib.hid hhl
    clear hhl
    have hK1 := (((Kn.nil w).al [] 156).litRow (size := 2) (n := 0) rfl (by decide)).al [.int .i64 4, .int .i64 ((p : Int) - 1)] 156
    simp only [World.size_alloc] at hK1
    go_wp2_with (at_builtin; refine kn_pushIns (m := []) (xs := []) (ys := [⟨4, (p : Int) - 1⟩]) rfl _ _ rfl _ rfl rfl hK1 (by simp) ?_; intro v2 w2 hK2; rw [← HHL.out, ← HD0.out] at hK2)
    go_loopw [3, 15] (fun vv kk wr => ∃ (j : Nat), j ≤ p ∧ kk = .int .i64 (j : Int) ∧ Kn w [rowIns vv (divUpto p j)] wr) (fun _ kk _ => p - (intOf kk).toNat)
    case atStart => exact ⟨0, Nat.zero_le _, rfl, hK2⟩
    case round =>
      clear hK2
      obtain ⟨j, hj, rfl, hK⟩ := hrel
      have hln := HLN.out j
      obtain ⟨ds, hds⟩ : ∃ ds, divUpto p j = ds := ⟨_, rfl⟩
      have HDJ := Lib.hid hds
      have HNX := Lib.hid (HDS.out j)
      rw [hds] at hK hln
      obtain ⟨A0, c0, rfl⟩ := row_form hK.at0
      by_cases hjp : j < p
      · have hi2 : (j : Int) < (p : Int) := by omega
        by_cases hl : j + 1 < p
        · have hi3 : (j : Int) + 1 < (p : Int) := by omega
          have HP := Lib.hid (show divPart p j = [⟨9, 0⟩, ⟨3, 1⟩, ⟨10, 0⟩, ⟨2, 1⟩] ++ [⟨5, 1⟩] by unfold divPart; rw [if_pos hl])
          clear hds
          go_wp2_with (first
            | (at_builtin; refine kn_pushIns (m := []) (ys := [⟨9, 0⟩, ⟨3, 1⟩, ⟨10, 0⟩, ⟨2, 1⟩]) rfl _ _ rfl _ ds rfl rfl (hK.al [.int .i64 9, .int .i64 0, .int .i64 3, .int .i64 1, .int .i64 10, .int .i64 0, .int .i64 2, .int .i64 1] 156) (by simp; omega) ?_; intro v3 w3 hK3; clear hK)
            | (at_builtin; refine kn_pushIns (m := []) (ys := [⟨5, 1⟩]) rfl _ _ rfl _ (ds ++ [⟨9, 0⟩, ⟨3, 1⟩, ⟨10, 0⟩, ⟨2, 1⟩]) rfl rfl (hK3.al [.int .i64 5, .int .i64 1] 156) (by simp; omega) ?_; intro v4 w4 hK4))
          go_roundw
          case rel => exact ⟨j + 1, by omega, by go_num, by rw [HNX.out, HP.out, HDJ.out, ← List.append_assoc]; exact hK4⟩
          case measure => simp [intOf]; omega
        · have hi3 : ¬ (j : Int) + 1 < (p : Int) := by omega
          have HP := Lib.hid (show divPart p j = [⟨9, 0⟩, ⟨3, 1⟩, ⟨10, 0⟩, ⟨2, 1⟩] by unfold divPart; rw [if_neg hl]; rfl)
          clear hds
          go_wp2_with (first
            | (at_builtin; refine kn_pushIns (m := []) (ys := [⟨9, 0⟩, ⟨3, 1⟩, ⟨10, 0⟩, ⟨2, 1⟩]) rfl _ _ rfl _ ds rfl rfl (hK.al [.int .i64 9, .int .i64 0, .int .i64 3, .int .i64 1, .int .i64 10, .int .i64 0, .int .i64 2, .int .i64 1] 156) (by simp; omega) ?_; intro v3 w3 hK3; clear hK))
          go_roundw
          case rel => exact ⟨j + 1, by omega, by go_num, by rw [HNX.out, HP.out, HDJ.out]; exact hK3⟩
          case measure => simp [intOf]; omega
      · have hi2 : ¬ (j : Int) < (p : Int) := by omega
        obtain rfl : j = p := by omega
        clear hds
        go_wp2_with fail
        go_ret
        exact ⟨A0, c0, by (rw [HPR.out, HDJ.out]; try rfl), by rw [HPR.out, HDJ.out]; exact hK⟩
  · have hi1 : ¬ (1 : Int) < (p : Int) := by omega
    have hhl : divHead p = [] := by unfold divHead; rw [if_neg hp1]
    have HHL := Lib.hid hhl
    clear hhl
    go_wp2_with fail
    have hK1 := ((Kn.nil w).al [] 156).litRow (size := 2) (n := 0) rfl (by decide)
    have hK2 : Kn w [rowIns (.slice (some ⟨w.heap.size, 0, none⟩) 0 0) (divUpto p 0)] (w.alloc (.cells #[] 156)) := by rw [HD0.out, HHL.out]; exact hK1
    go_loopw [3, 15] (fun vv kk wr => ∃ (j : Nat), j ≤ p ∧ kk = .int .i64 (j : Int) ∧ Kn w [rowIns vv (divUpto p j)] wr) (fun _ kk _ => p - (intOf kk).toNat)
    case atStart => exact ⟨0, Nat.zero_le _, rfl, hK2⟩
    case round =>
      clear hK2
      obtain ⟨j, hj, rfl, hK⟩ := hrel
      have hln := HLN.out j
      obtain ⟨ds, hds⟩ : ∃ ds, divUpto p j = ds := ⟨_, rfl⟩
      have HDJ := Lib.hid hds
      have HNX := Lib.hid (HDS.out j)
      rw [hds] at hK hln
      obtain ⟨A0, c0, rfl⟩ := row_form hK.at0
      by_cases hjp : j < p
      · have hi2 : (j : Int) < (p : Int) := by omega
        by_cases hl : j + 1 < p
        · exfalso; omega
        · have hi3 : ¬ (j : Int) + 1 < (p : Int) := by omega
          have HP := Lib.hid (show divPart p j = [⟨9, 0⟩, ⟨3, 1⟩, ⟨10, 0⟩, ⟨2, 1⟩] by unfold divPart; rw [if_neg hl]; rfl)
          clear hds
          go_wp2_with (first
            | (at_builtin; refine kn_pushIns (m := []) (ys := [⟨9, 0⟩, ⟨3, 1⟩, ⟨10, 0⟩, ⟨2, 1⟩]) rfl _ _ rfl _ ds rfl rfl (hK.al [.int .i64 9, .int .i64 0, .int .i64 3, .int .i64 1, .int .i64 10, .int .i64 0, .int .i64 2, .int .i64 1] 156) (by simp; omega) ?_; intro v3 w3 hK3; clear hK))
          go_roundw
          case rel => exact ⟨j + 1, by omega, by go_num, by rw [HNX.out, HP.out, HDJ.out]; exact hK3⟩
          case measure => simp [intOf]; omega
      · have hi2 : ¬ (j : Int) < (p : Int) := by omega
        obtain rfl : j = p := by omega
        clear hds
        go_wp2_with fail
        go_ret
        exact ⟨A0, c0, by (rw [HPR.out, HDJ.out]; try rfl), by rw [HPR.out, HDJ.out]; exact hK⟩
set_option maxRecDepth 100000 in
set_option maxHeartbeats 1600000 in
theorem l12Divide_any (p : Nat) (w : World) (h1 : 1 ≤ p) (h2 : p ≤ 16) :
    Calls Try.prog 123 #[.int .i64 p] w fun e w' => ∃ A c, e = .returned (.slice A (divProg p).length c) ∧ Kn w [rowIns (.slice A (divProg p).length c) (divProg p)] w' := by
  have HD0 := Lib.hid (show divUpto p 0 = divHead p from rfl)
  have HDS := Lib.hid (fun j => show divUpto p (j + 1) = divUpto p j ++ divPart p j from rfl)
  have HLN := Lib.hid (divUpto_len p)
  have HPR := Lib.hid (show divProg p = divUpto p p from rfl)
  go_enter Try.func123, Try.ntmps123
  by_cases hp1 : 1 < p
  · have hi1 : (1 : Int) < (p : Int) := by omega
    have hhl : divHead p = [] ++ [⟨4, (p : Int) - 1⟩] := by unfold divHead; rw [if_pos hp1]; rfl
    have HHL := Lib.hid hhl
    clear hhl
    have hK1 := (((Kn.nil w).al [] 156).litRow (size := 2) (n := 0) rfl (by decide)).al [.int .i64 4, .int .i64 ((p : Int) - 1)] 156
    simp only [World.size_alloc] at hK1
    go_wp2_with (at_builtin; refine kn_pushIns (m := []) (xs := []) (ys := [⟨4, (p : Int) - 1⟩]) rfl _ _ rfl _ rfl rfl hK1 (by simp) ?_; intro v2 w2 hK2; rw [← HHL.out, ← HD0.out] at hK2)
    go_loopw [3, 4] (fun vv kk wr => ∃ (j : Nat), j ≤ p ∧ kk = .int .i64 ((p - j : Nat) : Int) ∧ Kn w [rowIns vv (divUpto p j)] wr) (fun _ kk _ => (intOf kk).toNat)
    case atStart => exact ⟨0, Nat.zero_le _, rfl, hK2⟩
    case round =>
      clear hK2
      obtain ⟨j, hj, rfl, hK⟩ := hrel
      have hln := HLN.out j
      obtain ⟨ds, hds⟩ : ∃ ds, divUpto p j = ds := ⟨_, rfl⟩
      have HDJ := Lib.hid hds
      have HNX := Lib.hid (HDS.out j)
      rw [hds] at hK hln
      obtain ⟨A0, c0, rfl⟩ := row_form hK.at0
      by_cases hjp : j < p
      · have hi2 : (0 : Int) < ((p - j : Nat) : Int) := by omega
        by_cases hl : j + 1 < p
        · have hi3 : (1 : Int) < ((p - j : Nat) : Int) := by omega
          have HP := Lib.hid (show divPart p j = [⟨9, 0⟩, ⟨3, 1⟩, ⟨10, 0⟩, ⟨2, 1⟩] ++ [⟨5, 1⟩] by unfold divPart; rw [if_pos hl])
          clear hds
          go_wp2_with (first
            | (at_builtin; refine kn_pushIns (m := []) (ys := [⟨9, 0⟩, ⟨3, 1⟩, ⟨10, 0⟩, ⟨2, 1⟩]) rfl _ _ rfl _ ds rfl rfl (hK.al [.int .i64 9, .int .i64 0, .int .i64 3, .int .i64 1, .int .i64 10, .int .i64 0, .int .i64 2, .int .i64 1] 156) (by simp; omega) ?_; intro v3 w3 hK3; clear hK)
            | (at_builtin; refine kn_pushIns (m := []) (ys := [⟨5, 1⟩]) rfl _ _ rfl _ (ds ++ [⟨9, 0⟩, ⟨3, 1⟩, ⟨10, 0⟩, ⟨2, 1⟩]) rfl rfl (hK3.al [.int .i64 5, .int .i64 1] 156) (by simp; omega) ?_; intro v4 w4 hK4))
          go_roundw
          case rel => exact ⟨j + 1, by omega, by (congr 1; omega), by rw [HNX.out, HP.out, HDJ.out, ← List.append_assoc]; exact hK4⟩
          case measure => simp [intOf]; omega
        · have hi3 : ¬ (1 : Int) < ((p - j : Nat) : Int) := by omega
          have HP := Lib.hid (show divPart p j = [⟨9, 0⟩, ⟨3, 1⟩, ⟨10, 0⟩, ⟨2, 1⟩] by unfold divPart; rw [if_neg hl]; rfl)
          clear hds
          go_wp2_with (first
            | (at_builtin; refine kn_pushIns (m := []) (ys := [⟨9, 0⟩, ⟨3, 1⟩, ⟨10, 0⟩, ⟨2, 1⟩]) rfl _ _ rfl _ ds rfl rfl (hK.al [.int .i64 9, .int .i64 0, .int .i64 3, .int .i64 1, .int .i64 10, .int .i64 0, .int .i64 2, .int .i64 1] 156) (by simp; omega) ?_; intro v3 w3 hK3; clear hK))
          go_roundw
          case rel => exact ⟨j + 1, by omega, by (congr 1; omega), by rw [HNX.out, HP.out, HDJ.out]; exact hK3⟩
          case measure => simp [intOf]; omega
      · have hi2 : ¬ (0 : Int) < ((p - j : Nat) : Int) := by omega
        obtain rfl : j = p := by omega
        clear hds
        go_wp2_with fail
        go_ret
        exact ⟨A0, c0, by (rw [HPR.out, HDJ.out]; try rfl), by rw [HPR.out, HDJ.out]; exact hK⟩
  · have hi1 : ¬ (1 : Int) < (p : Int) := by omega
    have hhl : divHead p = [] := by unfold divHead; rw [if_neg hp1]
    have HHL := Lib.hid hhl
    clear hhl
    go_wp2_with fail
    have hK1 := ((Kn.nil w).al [] 156).litRow (size := 2) (n := 0) rfl (by decide)
    have hK2 : Kn w [rowIns (.slice (some ⟨w.heap.size, 0, none⟩) 0 0) (divUpto p 0)] (w.alloc (.cells #[] 156)) := by rw [HD0.out, HHL.out]; exact hK1
    go_loopw [3, 4] (fun vv kk wr => ∃ (j : Nat), j ≤ p ∧ kk = .int .i64 ((p - j : Nat) : Int) ∧ Kn w [rowIns vv (divUpto p j)] wr) (fun _ kk _ => (intOf kk).toNat)
    case atStart => exact ⟨0, Nat.zero_le _, rfl, hK2⟩
    case round =>
      clear hK2
      obtain ⟨j, hj, rfl, hK⟩ := hrel
      have hln := HLN.out j
      obtain ⟨ds, hds⟩ : ∃ ds, divUpto p j = ds := ⟨_, rfl⟩
      have HDJ := Lib.hid hds
      have HNX := Lib.hid (HDS.out j)
      rw [hds] at hK hln
      obtain ⟨A0, c0, rfl⟩ := row_form hK.at0
      by_cases hjp : j < p
      · have hi2 : (0 : Int) < ((p - j : Nat) : Int) := by omega
        by_cases hl : j + 1 < p
        · exfalso; omega
        · have hi3 : ¬ (1 : Int) < ((p - j : Nat) : Int) := by omega
          have HP := Lib.hid (show divPart p j = [⟨9, 0⟩, ⟨3, 1⟩, ⟨10, 0⟩, ⟨2, 1⟩] by unfold divPart; rw [if_neg hl]; rfl)
          clear hds
          go_wp2_with (first
            | (at_builtin; refine kn_pushIns (m := []) (ys := [⟨9, 0⟩, ⟨3, 1⟩, ⟨10, 0⟩, ⟨2, 1⟩]) rfl _ _ rfl _ ds rfl rfl (hK.al [.int .i64 9, .int .i64 0, .int .i64 3, .int .i64 1, .int .i64 10, .int .i64 0, .int .i64 2, .int .i64 1] 156) (by simp; omega) ?_; intro v3 w3 hK3; clear hK))
          go_roundw
          case rel => exact ⟨j + 1, by omega, by (congr 1; omega), by rw [HNX.out, HP.out, HDJ.out]; exact hK3⟩
          case measure => simp [intOf]; omega
      · have hi2 : ¬ (0 : Int) < ((p - j : Nat) : Int) := by omega
        obtain rfl : j = p := by omega
        clear hds
        go_wp2_with fail
        go_ret
        exact ⟨A0, c0, by (rw [HPR.out, HDJ.out]; try rfl), by rw [HPR.out, HDJ.out]; exact hK⟩
end Go.Proofs.Ytkaaiocbiknipaa

namespace Go.Proofs.Ytkaaiocbiknipaa
open Go.RowKit Go.Sort
theorem l12Room_any (p : Addr) (b : Int) (A : Option Addr) (n c : Nat) (w : World) (hp : RegAt w p b A n c) (b1 : 2 ≤ b) (b2 : b ≤ 16) (hn : n ≤ 9223372036854775807) :
    Calls Try.prog 118 #[.pointer (some p)] w fun e w' => e = .returned (.int .i64 (powS b n)) ∧ ∃ q, w' = w.drewN q := by
  obtain ⟨q1, q2⟩ := hp
  have KP := Lib.hid (fun W => l10Power_any b n W b1 b2 hn)
  go_enter Try.func118, Try.ntmps118
  go_wp2_with fail
  go_quiet ((go_at_call 120; exact quiet_left (KP.out _)))
  go_wp2
  go_ret
  exact ⟨rfl, _, rfl⟩
/-- a fresh machine of a base and widths -/
def newT (b : Int) (n1 n2 n3 : Nat) : Tri := ⟨⟨b, digD b n1 0⟩, ⟨b, digD b n2 0⟩, ⟨b, digD b n3 0⟩, 0⟩
set_option maxRecDepth 100000 in
set_option maxHeartbeats 1600000 in
theorem l10New_any (b : Int) (n1 n2 n3 : Nat) (w : World) (b1 : 2 ≤ b) (b2 : b ≤ 16) (h1 : n1 ≤ 1000000) (h2 : n2 ≤ 1000000) (h3 : n3 ≤ 1000000) :
    Calls Try.prog 181 #[.int .i64 b, .int .i64 n1, .int .i64 n2, .int .i64 n3] w fun e w' => ∃ E1 g1 E2 g2 E3 g3, e = .returned (.agg #[.int .i64 b, .slice E1 (digD b n1 0).length g1, .int .i64 b, .slice E2 (digD b n2 0).length g2, .int .i64 b, .slice E3 (digD b n3 0).length g3, .int .i64 0]) ∧
      Kn w [rowI E3 g3 (digD b n3 0), rowI E2 g2 (digD b n2 0), rowI E1 g1 (digD b n1 0)] w' := by
  have K1 := (fun W => l02NewV_any b n1 0 W b1 b2 h1 (by decide) (by decide))
  have K2 := (fun W => l02NewV_any b n2 0 W b1 b2 h2 (by decide) (by decide))
  have K3 := (fun W => l02NewV_any b n3 0 W b1 b2 h3 (by decide) (by decide))
  obtain ⟨x1, hx1⟩ : ∃ x, digD b n1 0 = x := ⟨_, rfl⟩
  obtain ⟨x2, hx2⟩ : ∃ x, digD b n2 0 = x := ⟨_, rfl⟩
  obtain ⟨x3, hx3⟩ : ∃ x, digD b n3 0 = x := ⟨_, rfl⟩
  rw [hx1] at K1 ⊢
  rw [hx2] at K2 ⊢
  rw [hx3] at K3 ⊢
  have K1 := Lib.hid K1
  have K2 := Lib.hid K2
  have K3 := Lib.hid K3
  clear hx1 hx2 hx3
  go_enter Try.func181, Try.ntmps181
  go_wp2_with fail
  refine Calls.kn ((Kn.nil w).al [.int .i64 0, .slice none 0 0, .int .i64 0, .slice none 0 0, .int .i64 0, .slice none 0 0, .int .i64 0] 65) ?_; intro w1 hK1
  (with_reducible refine (K1.out _).mono ?_); rintro e w2 ⟨E1, g1, rfl, hKn⟩
  have hK2 := hK1.join hKn
  go_wp2_with fail
  refine Calls.kn (hK2.al [.int .i64 b, .slice E1 x1.length g1] 26) ?_; intro w3 hK3
  (with_reducible refine (K2.out _).mono ?_); rintro e w4 ⟨E2, g2, rfl, hKm⟩
  have hK4 := hK3.join hKm
  go_wp2_with fail
  refine Calls.kn (hK4.al [.int .i64 b, .slice E2 x2.length g2] 26) ?_; intro w5 hK5
  (with_reducible refine (K3.out _).mono ?_); rintro e w6 ⟨E3, g3, rfl, hKo⟩
  have hK6 := hK5.join hKo
  clear hK1 hK2 hK3 hK4 hK5 hKn hKm hKo
  obtain ⟨a1, a2, a3, d1, d2, d3, c1, c2, c3, -⟩ := hK6.cells
  go_wp2_with fail
  refine bodyPost.kn ((((((((hK6.front 5 rfl).st 0 (.int .i64 b)).st 1 (.slice E1 x1.length g1)).st 2 (.int .i64 b)).st 3 (.slice E2 x2.length g2)).st 4 (.int .i64 b)).st 5 (.slice E3 x3.length g3)).st 6 (.int .i64 0) |>.al_ _) ?_; intro w7 hK7
  clear a1 a2 a3 d1 d2 d3 c1 c2 c3
  obtain ⟨a1, a2, a3, -⟩ := hK7.cells
  refine bodyPost_ret (v := .agg #[.int .i64 b, .slice E1 x1.length g1, .int .i64 b, .slice E2 x2.length g2, .int .i64 b, .slice E3 x3.length g3, .int .i64 0]) (by simp [results, Try.results181, go_sem, a1]) rfl ⟨E1, g1, E2, g2, E3, g3, rfl, ?_⟩
  exact hK7.sel [1, 3, 5] 99 (by decide) (by decide)
end Go.Proofs.Ytkaaiocbiknipaa

namespace Go.Proofs.Ytkaaiocbiknipaa
open Go.RowKit Go.Sort
/-- a machine on which only the setting is not 0 -/
def freshT (t : Tri) (v : Int) : Tri := ⟨⟨t.a.base, digD t.a.base t.a.digits.length v⟩, ⟨t.a.base, digD t.a.base t.b.digits.length 0⟩, ⟨t.a.base, digD t.a.base t.s.digits.length 0⟩, 0⟩
set_option maxRecDepth 100000 in
set_option maxHeartbeats 1600000 in
theorem l12Fresh_any (g : Nat) (b : Int) (A1 A2 A3 : Option Addr) (n1 n2 n3 c1 c2 c3 : Nat) (v : Int) (w : World)
    (q1 : w.cell? ⟨g, 0, none⟩ = some (.int .i64 b)) (q2 : w.cell? ⟨g, 1, none⟩ = some (.slice A1 n1 c1)) (q4 : w.cell? ⟨g, 3, none⟩ = some (.slice A2 n2 c2)) (q6 : w.cell? ⟨g, 5, none⟩ = some (.slice A3 n3 c3))
    (b1 : 2 ≤ b) (b2 : b ≤ 16) (h1 : n1 ≤ 1000000) (h2 : n2 ≤ 1000000) (h3 : n3 ≤ 1000000) (v0 : 0 ≤ v) (v1 : v ≤ 9223372036854775807) :
    Calls Try.prog 121 #[.pointer (some ⟨g, 0, none⟩), .int .i64 v] w fun e w' => ∃ E1 g1 E2 g2 E3 g3, e = .returned (.agg #[.int .i64 b, .slice E1 (digD b n1 v).length g1, .int .i64 b, .slice E2 (digD b n2 0).length g2, .int .i64 b, .slice E3 (digD b n3 0).length g3, .int .i64 0]) ∧
      Kn w [rowI E3 g3 (digD b n3 0), rowI E2 g2 (digD b n2 0), rowI E1 g1 (digD b n1 v)] w' := by
  have hlt : g < w.heap.size := World.block_lt_of_cell? w _ q1
  have HP := Lib.hid (fun W (hW : Below w.heap.size w W) => (show W.cell? ⟨g, 0, none⟩ = some (.int .i64 b) ∧ W.cell? ⟨g, 1, none⟩ = some (.slice A1 n1 c1) ∧ W.cell? ⟨g, 3, none⟩ = some (.slice A2 n2 c2) ∧ W.cell? ⟨g, 5, none⟩ = some (.slice A3 n3 c3) from
    ⟨(hW.cell (p := ⟨g, 0, none⟩) hlt).trans q1, (hW.cell (p := ⟨g, 1, none⟩) hlt).trans q2, (hW.cell (p := ⟨g, 3, none⟩) hlt).trans q4, (hW.cell (p := ⟨g, 5, none⟩) hlt).trans q6⟩))
  have KN := (fun W => l10New_any b n1 n2 n3 W b1 b2 h1 h2 h3)
  have KV := (fun W => l02NewV_any b n1 v W b1 b2 h1 v0 v1)
  obtain ⟨x1, hx1⟩ : ∃ x, digD b n1 0 = x := ⟨_, rfl⟩
  obtain ⟨x2, hx2⟩ : ∃ x, digD b n2 0 = x := ⟨_, rfl⟩
  obtain ⟨x3, hx3⟩ : ∃ x, digD b n3 0 = x := ⟨_, rfl⟩
  obtain ⟨ds, hds⟩ : ∃ x, digD b n1 v = x := ⟨_, rfl⟩
  rw [hx1, hx2, hx3] at KN
  rw [hds] at KV
  rw [hx2, hx3, hds]
  have KN := Lib.hid KN
  have KV := Lib.hid KV
  clear hx1 hx2 hx3 hds q1 q2 q4 q6 hlt
  go_enter Try.func121, Try.ntmps121
  go_wp2_with fail
  have hK2 := (Kn.nil w).al [.int .i64 0, .slice none 0 0, .int .i64 0, .slice none 0 0, .int .i64 0, .slice none 0 0, .int .i64 0] 65
  generalize w.alloc (.cells #[.int .i64 0, .slice none 0 0, .int .i64 0, .slice none 0 0, .int .i64 0, .slice none 0 0, .int .i64 0] 65) = w2 at hK2 ⊢
  have HT := Lib.hid (HP.out _ hK2.drew.below)
  have HA := Lib.hid (HP.out _ (hK2.al [.int .i64 0, .slice none 0 0, .int .i64 0, .slice none 0 0, .int .i64 0, .slice none 0 0, .int .i64 0] 65).drew.below)
  have HS := HT
  go_cut [5] (fun pp wx => ∃ (g5 : Nat) (E1 : Option Addr) (g1 : Nat) (E2 : Option Addr) (g2 : Nat) (E3 : Option Addr) (g3 : Nat), pp = .pointer (some ⟨g5, 0, none⟩) ∧ Kn w [.blk g5 [.int .i64 b, .slice E1 x1.length g1, .int .i64 b, .slice E2 x2.length g2, .int .i64 b, .slice E3 x3.length g3, .int .i64 0] 65, rowI E3 g3 x3, rowI E2 g2 x2, rowI E1 g1 x1, .blk w.heap.size [.int .i64 0, .slice none 0 0, .int .i64 0, .slice none 0 0, .int .i64 0, .slice none 0 0, .int .i64 0] 65] wx)
  case first =>
    go_region_held3 (fun W => W.cell? ⟨g, 0, none⟩ = some (.int .i64 b) ∧ W.cell? ⟨g, 1, none⟩ = some (.slice A1 n1 c1) ∧ W.cell? ⟨g, 3, none⟩ = some (.slice A2 n2 c2) ∧ W.cell? ⟨g, 5, none⟩ = some (.slice A3 n3 c3))
      (first | with_reducible exact HT.out | with_reducible exact HA.out | with_reducible exact HS.out) (first
      | (go_at_call 181; (with_reducible refine (KN.out _).mono ?_); rintro e w4 ⟨E1, g1, E2, g2, E3, g3, rfl, hK⟩; clear HT HA; first
        | (have hK4 := hK2.drew.join hK; have HT := Lib.hid (HP.out _ hK4.below); have HA := Lib.hid (HP.out _ (hK4.al [.int .i64 0, .slice none 0 0, .int .i64 0, .slice none 0 0, .int .i64 0, .slice none 0 0, .int .i64 0] 65).below); have hK5 := hK4.al [.int .i64 b, .slice E1 x1.length g1, .int .i64 b, .slice E2 x2.length g2, .int .i64 b, .slice E3 x3.length g3, .int .i64 0] 65; have HS := Lib.hid (HP.out _ hK5.below))
        | (have hK4 := (hK2.al [.int .i64 0, .slice none 0 0, .int .i64 0, .slice none 0 0, .int .i64 0, .slice none 0 0, .int .i64 0] 65).drew.join hK; have HT := Lib.hid (HP.out _ hK4.below); obtain ⟨p1, p2, p3⟩ := hK4.drop.drop.drop.blkAt; have HA := HT; have hK5 := ((((((hK4.sw3.st 0 (.int .i64 b)).st 1 (.slice E1 x1.length g1)).st 2 (.int .i64 b)).st 3 (.slice E2 x2.length g2)).st 4 (.int .i64 b)).st 5 (.slice E3 x3.length g3)).st 6 (.int .i64 0); have HS := Lib.hid (HP.out _ hK5.below))))
    all_goals
      go_wp2_with fail
      go_meet
      exact ⟨_, _, _, _, _, _, _, rfl, hK5⟩
  case rest =>
    obtain ⟨g5, E1, g1, E2, g2, E3, g3, rfl, hK5⟩ := hcut
    clear HT HA HS hK2 KN
    go_wp2_with fail
    have HT := Lib.hid (HP.out _ hK5.drew.below)
    have HA := Lib.hid (HP.out _ (hK5.al [.int .i64 0, .slice none 0 0] 26).drew.below)
    have HS := HT
    go_cut [6] (fun pp wx => ∃ (g6 : Nat) (F : Option Addr) (f : Nat), pp = .pointer (some ⟨g6, 0, none⟩) ∧ Kn w [.blk g6 [.int .i64 b, .slice F ds.length f] 26, rowI F f ds, .blk g5 [.int .i64 b, .slice E1 x1.length g1, .int .i64 b, .slice E2 x2.length g2, .int .i64 b, .slice E3 x3.length g3, .int .i64 0] 65, rowI E3 g3 x3, rowI E2 g2 x2, rowI E1 g1 x1, .blk w.heap.size [.int .i64 0, .slice none 0 0, .int .i64 0, .slice none 0 0, .int .i64 0, .slice none 0 0, .int .i64 0] 65] wx)
    case first =>
      go_region_held3 (fun W => W.cell? ⟨g, 0, none⟩ = some (.int .i64 b) ∧ W.cell? ⟨g, 1, none⟩ = some (.slice A1 n1 c1) ∧ W.cell? ⟨g, 3, none⟩ = some (.slice A2 n2 c2) ∧ W.cell? ⟨g, 5, none⟩ = some (.slice A3 n3 c3))
        (first | with_reducible exact HT.out | with_reducible exact HA.out | with_reducible exact HS.out) (first
        | (go_at_call 93; (with_reducible refine (KV.out _).mono ?_); rintro e w4 ⟨F, f, rfl, hK⟩; clear HT HA; first
          | (have hK6 := hK5.drew.join hK; have HT := Lib.hid (HP.out _ hK6.below); have HA := Lib.hid (HP.out _ (hK6.al [.int .i64 0, .slice none 0 0] 26).below); have hK7 := hK6.al [.int .i64 b, .slice F ds.length f] 26; have HS := Lib.hid (HP.out _ hK7.below))
          | (have hK6 := (hK5.al [.int .i64 0, .slice none 0 0] 26).drew.join hK; have HT := Lib.hid (HP.out _ hK6.below); obtain ⟨p1, p2, p3⟩ := hK6.drop.blkAt; have HA := HT; have hK7 := (hK6.sw1.st 0 (.int .i64 b)).st 1 (.slice F ds.length f); have HS := Lib.hid (HP.out _ hK7.below))))
      all_goals
        go_wp2_with fail
        go_meet
        exact ⟨_, _, _, rfl, hK7⟩
    case rest =>
      obtain ⟨g6, F, f, rfl, hK7⟩ := hcut
      clear HT HA HS hK5 KV HP
      obtain ⟨a1, a2, a3, d1, d2, d3, c1', c2', c3', -⟩ := hK7.cells
      have ne1 := hK7.ne 2 6 rfl rfl (by decide)
      have ne2 := ne1.symm
      go_wp2_with fail
      refine bodyPost.kn ((((((((((hK7.front 2 rfl).st 0 (.int .i64 b)).st 1 (.slice F ds.length f)).front 6 rfl).st 0 (.int .i64 b)).st 1 (.slice F ds.length f)).st 2 (.int .i64 b)).st 3 (.slice E2 x2.length g2)).st 4 (.int .i64 b)).st 5 (.slice E3 x3.length g3) |>.st 6 (.int .i64 0)) ?_; intro w8 hK8
      clear a1 a2 a3 d1 d2 d3 c1' c2' c3'
      obtain ⟨a1, a2, a3, -⟩ := hK8.cells
      refine bodyPost_ret (v := .agg #[.int .i64 b, .slice F ds.length f, .int .i64 b, .slice E2 x2.length g2, .int .i64 b, .slice E3 x3.length g3, .int .i64 0]) (by simp [results, Try.results121, go_sem, a1]) rfl ⟨F, f, E2, g2, E3, g3, rfl, ?_⟩
      exact hK8.sel [4, 5, 3] 99 (by decide) (by decide)
end Go.Proofs.Ytkaaiocbiknipaa

namespace Go.Proofs.Ytkaaiocbiknipaa
open Go.RowKit Go.Sort
def dvStart (t : Tri) (x y : Int) : Tri := ⟨⟨t.a.base, digD t.a.base t.a.digits.length y⟩, ⟨t.b.base, digD t.b.base t.b.digits.length x⟩, ⟨t.s.base, digD t.s.base t.s.digits.length 0⟩, 0⟩
def dvC (t : Tri) (x y : Int) : Int :=
  if vmach t = false then 1 else if betB x 0 (pw t.b.base t.b.digits.length - 1) = false then 2 else if betB y 1 (pw t.a.base t.a.digits.length - 1) = false then 2 else if pw t.a.base (vplaces t).toNat ≤ x.tdiv y then 5 else 0
noncomputable def dvEnd (t : Tri) (x y : Int) : RS := endR (divProg (vplaces t).toNat) (dvStart t x y)
noncomputable def dvQ (t : Tri) (x y : Int) : Int := if dvC t x y = 0 then (pw t.s.base t.s.digits.length - valL (dvEnd t x y).m.s.base (dvEnd t x y).m.s.digits).tmod (pw t.s.base t.s.digits.length) else 0
noncomputable def dvR (t : Tri) (x y : Int) : Int := if dvC t x y = 0 then valL (dvEnd t x y).m.b.base (dvEnd t x y).m.b.digits else 0
noncomputable def dvN (t : Tri) (x y : Int) : Int := if dvC t x y = 0 then ((dvEnd t x y).tr.length : Int) else 0
def DVRet (t : Tri) (x y : Int) (w : World) (e : Ending) (w' : World) : Prop := e = .returned (.tuple #[.int .i64 (dvQ t x y), .int .i64 (dvR t x y), .int .i64 (dvN t x y), .int .i64 (dvC t x y)]) ∧ Below w.heap.size w w'
theorem dv_code {t : Tri} {x y c : Int} (h : dvC t x y = c) (hc : ¬ c = 0) : dvQ t x y = 0 ∧ dvR t x y = 0 ∧ dvN t x y = 0 ∧ dvC t x y = c := by
  refine ⟨?_, ?_, ?_, h⟩
  · unfold dvQ; rw [h, if_neg hc]
  · unfold dvR; rw [h, if_neg hc]
  · unfold dvN; rw [h, if_neg hc]
theorem dv_fine {t : Tri} {x y : Int} (h : dvC t x y = 0) {s : RS} {b : Bool} (he : Ev (divProg (vplaces t).toNat) (.run 0 (divProg (vplaces t).toNat).length) (startR (dvStart t x y)) s b) :
    dvQ t x y = (pw t.s.base t.s.digits.length - valL s.m.s.base s.m.s.digits).tmod (pw t.s.base t.s.digits.length) ∧ dvR t x y = valL s.m.b.base s.m.b.digits ∧ dvN t x y = (s.tr.length : Int) ∧ dvC t x y = 0 := by
  have h1 : dvEnd t x y = s := endR_eq he
  refine ⟨?_, ?_, ?_, h⟩
  · unfold dvQ; rw [h, h1, if_pos rfl]
  · unfold dvR; rw [h, h1, if_pos rfl]
  · unfold dvN; rw [h, h1, if_pos rfl]
theorem dvStart_ok {t : Tri} {x y : Int} (hv : vmach t = true) (hx : betB x 0 (pw t.b.base t.b.digits.length - 1) = true) (hy : betB y 1 (pw t.a.base t.a.digits.length - 1) = true) : vmach (dvStart t x y) = true := by
  obtain ⟨k1, k2, k3, e1, e2, f1, f2, l1, p0, p1⟩ := vmach_all hv
  obtain ⟨⟨b1, b2⟩, ⟨n1, n2⟩, -⟩ := vreg_iff.1 k1
  obtain ⟨⟨b3, b4⟩, ⟨n3, n4⟩, -⟩ := vreg_iff.1 k2
  obtain ⟨⟨b5, b6⟩, ⟨n5, n6⟩, -⟩ := vreg_iff.1 k3
  have hx' := betB_iff.1 hx
  have hy' := betB_iff.1 hy
  have hm := pw_mono t.a.base (by omega) _ _ l1
  rw [← e1] at f1
  rw [← e1] at hx'
  refine vmach_mk (t := dvStart t x y) (digD_vreg _ b1 b2 _ (by omega) (by omega) y (by omega) (by omega) (by omega)) (digD_vreg _ b3 b4 _ (by omega) (by omega) x (by omega) (by rw [← e1]; omega) (by omega)) (zero_ok k3) e1 e2 ?_ ?_ ?_ (by simp [dvStart]) ?_
  · simp only [dvStart, digD_len]; rw [← e1]; exact f1
  · simp only [dvStart, digD_len]; exact f2
  · simp only [dvStart, digD_len]; exact l1
  · simp only [dvStart, vplaces, digD_len]; unfold vplaces at p1; omega
theorem vplaces_bd {t : Tri} (hv : vmach t = true) : 1 ≤ (vplaces t).toNat ∧ (vplaces t).toNat ≤ 16 ∧ ((vplaces t).toNat : Int) = vplaces t ∧ pw t.a.base (vplaces t).toNat ≤ 1000000000001 ∧ 1 ≤ pw t.a.base (vplaces t).toNat := by
  obtain ⟨k1, k2, k3, e1, e2, f1, f2, l1, p0, p1⟩ := vmach_all hv
  obtain ⟨⟨b1, b2⟩, ⟨n1, n2⟩, -⟩ := vreg_iff.1 k1
  obtain ⟨-, ⟨n5, n6⟩, -⟩ := vreg_iff.1 k3
  have h1 : vplaces t ≤ t.s.digits.length := by unfold vplaces; omega
  have hm := pw_mono t.a.base b1 (vplaces t).toNat t.s.digits.length (by omega)
  rw [e2] at f2
  rw [← e1] at f2
  exact ⟨by omega, by omega, by omega, by omega, pw_pos _ b1 _⟩
set_option maxRecDepth 100000 in
set_option maxHeartbeats 3200000 in
theorem DivideOn_any (t : Tri) (A1 A2 A3 : Option Addr) (c1 c2 c3 : Nat) (x y : Int) (w : World) (r1 : RI w A1 t.a.digits.length t.a.digits) (r2 : RI w A2 t.b.digits.length t.b.digits) (r3 : RI w A3 t.s.digits.length t.s.digits) (hs : SmallTri t) :
    Calls Try.prog 45 #[.agg #[.int .i64 t.a.base, .slice A1 t.a.digits.length c1, .int .i64 t.b.base, .slice A2 t.b.digits.length c2, .int .i64 t.s.base, .slice A3 t.s.digits.length c3, .int .i64 t.carry], .int .i64 x, .int .i64 y] w (DVRet t x y w) := by
  have KV := (fun W (hW : Below w.heap.size w W) => ValidMachine_any t A1 A2 A3 c1 c2 c3 W (r1.below hW) (r2.below hW) (r3.below hW) hs)
  rcases hv : vmach t with _ | _
  · rw [hv] at KV
    have HB := Lib.hid (dv_code (t := t) (x := x) (y := y) (c := 1) (by unfold dvC; rw [if_pos hv]) (by decide))
    have KV := Lib.hid KV
    clear hv r1 r2 r3 hs
    go_enter Try.func45, Try.ntmps45
    go_wp2_with fail
    refine Calls.kn ((Kn.nil w).al [.int .i64 t.a.base, .slice A1 t.a.digits.length c1, .int .i64 t.b.base, .slice A2 t.b.digits.length c2, .int .i64 t.s.base, .slice A3 t.s.digits.length c3, .int .i64 t.carry] 65) ?_; intro w1 hK0
    refine (KV.out _ hK0.below).mono ?_; rintro e w2 ⟨rfl, hw⟩
    have hK1 := hK0.keep hw
    go_wp2_with fail
    refine bodyPost_ret (v := .tuple #[.int .i64 0, .int .i64 0, .int .i64 0, .int .i64 1]) (by simp [results, Try.results45, go_sem]) rfl ⟨?_, hK1.below⟩
    rw [HB.out.1, HB.out.2.1, HB.out.2.2.1, HB.out.2.2.2]
  obtain ⟨k1, k2, k3, e1, e2, f1, f2, l1, p0, p1⟩ := vmach_all hv
  obtain ⟨⟨b1, b2⟩, ⟨n1, n2⟩, -⟩ := vreg_iff.1 k1
  obtain ⟨⟨b3, b4⟩, ⟨n3, n4⟩, -⟩ := vreg_iff.1 k2
  obtain ⟨⟨b5, b6⟩, ⟨n5, n6⟩, -⟩ := vreg_iff.1 k3
  have hmo := pw_mono t.a.base b1 _ _ l1
  rw [e1] at hmo
  have pb := pw_pos t.b.base b3 t.b.digits.length
  have pa := pw_pos t.a.base b1 t.a.digits.length
  rw [← e1] at hmo
  have pa2 : pw t.a.base t.a.digits.length ≤ 1000000000001 := by rw [e1] at hmo ⊢; omega
  have KN2 := (fun W => values_any t.b.base A2 t.b.digits.length c2 W b3 b4 (by omega))
  have hp2 : powC t.b.base t.b.digits.length = pw t.b.base t.b.digits.length := by unfold powC; rw [if_pos f1]
  rw [hp2] at KN2
  have KN1 := (fun W => values_any t.a.base A1 t.a.digits.length c1 W b1 b2 (by omega))
  have hp1 : powC t.a.base t.a.digits.length = pw t.a.base t.a.digits.length := by unfold powC; rw [if_pos pa2]
  rw [hp1] at KN1
  rw [hv] at KV
  have hC0 : dvC t x y = if betB x 0 (pw t.b.base t.b.digits.length - 1) = false then 2 else if betB y 1 (pw t.a.base t.a.digits.length - 1) = false then 2 else if pw t.a.base (vplaces t).toNat ≤ x.tdiv y then 5 else 0 := by unfold dvC; rw [if_neg (by rw [hv]; decide)]
  rcases hx : betB x 0 (pw t.b.base t.b.digits.length - 1) with _ | _
  · have KB := Lib.hid (fun W => calls_val (between_B x 0 (pw t.b.base t.b.digits.length - 1) W) (congrArg Value.bool hx))
    have HB := Lib.hid (dv_code (t := t) (x := x) (y := y) (c := 2) (by rw [hC0, if_pos hx]) (by decide))
    obtain ⟨N2, hN2⟩ : ∃ N, pw t.b.base t.b.digits.length = N := ⟨_, rfl⟩
    rw [hN2] at KN2 f1 pb
    have KB := KB.out
    rw [hN2] at KB
    have KB := Lib.hid KB
    have KV := Lib.hid KV
    have KN2 := Lib.hid KN2
    clear hv r1 r2 r3 hs k1 k2 k3 hx hN2 hmo pa2 pa hp1 hp2 hC0 KN1 e1 e2 f2 l1 p0 p1
    go_enter Try.func45, Try.ntmps45
    go_wp2_with fail
    refine Calls.kn ((Kn.nil w).al [.int .i64 t.a.base, .slice A1 t.a.digits.length c1, .int .i64 t.b.base, .slice A2 t.b.digits.length c2, .int .i64 t.s.base, .slice A3 t.s.digits.length c3, .int .i64 t.carry] 65) ?_; intro w1 hK0
    refine (KV.out _ hK0.below).mono ?_; rintro e w2 ⟨rfl, hw⟩
    have hK1 := hK0.keep hw
    clear hK0 hw
    obtain ⟨a1, a2, a3, -⟩ := hK1.cells
    go_wp2_with fail
    refine (KN2.out _).mono ?_; rintro e w3 ⟨rfl, hw⟩
    have hK2 := hK1.keep hw
    clear hK1 hw a1 a2 a3
    obtain ⟨a1, a2, a3, -⟩ := hK2.cells
    go_wp2_with fail
    refine (KB.out _).mono ?_; rintro e w4 ⟨rfl, hw⟩
    have hK3 := hK2.keep hw
    go_wp2_with fail
    refine bodyPost_ret (v := .tuple #[.int .i64 0, .int .i64 0, .int .i64 0, .int .i64 2]) (by simp [results, Try.results45, go_sem]) rfl ⟨?_, hK3.below⟩
    rw [HB.out.1, HB.out.2.1, HB.out.2.2.1, HB.out.2.2.2]
  have hx' := betB_iff.1 hx
  have KB := (fun W => calls_val (between_B x 0 (pw t.b.base t.b.digits.length - 1) W) (congrArg Value.bool hx))
  rcases hy : betB y 1 (pw t.a.base t.a.digits.length - 1) with _ | _
  · have KB2 := (fun W => calls_val (between_B y 1 (pw t.a.base t.a.digits.length - 1) W) (congrArg Value.bool hy))
    have HB := Lib.hid (dv_code (t := t) (x := x) (y := y) (c := 2) (by rw [hC0, if_neg (by rw [hx]; decide), if_pos hy]) (by decide))
    obtain ⟨N2, hN2⟩ : ∃ N, pw t.b.base t.b.digits.length = N := ⟨_, rfl⟩
    obtain ⟨N1, hN1⟩ : ∃ N, pw t.a.base t.a.digits.length = N := ⟨_, rfl⟩
    rw [hN2] at KN2 f1 pb KB
    rw [hN1] at KN1 pa pa2 KB2
    have KB := Lib.hid KB
    have KB2 := Lib.hid KB2
    have KV := Lib.hid KV
    have KN2 := Lib.hid KN2
    have KN1 := Lib.hid KN1
    clear hv r1 r2 r3 hs k1 k2 k3 hx hy hN2 hN1 hmo hp1 hp2 hC0 e1 e2 f2 l1 p0 p1 hx'
    go_enter Try.func45, Try.ntmps45
    go_wp2_with fail
    refine Calls.kn ((Kn.nil w).al [.int .i64 t.a.base, .slice A1 t.a.digits.length c1, .int .i64 t.b.base, .slice A2 t.b.digits.length c2, .int .i64 t.s.base, .slice A3 t.s.digits.length c3, .int .i64 t.carry] 65) ?_; intro w1 hK0
    refine (KV.out _ hK0.below).mono ?_; rintro e w2 ⟨rfl, hw⟩
    have hK1 := hK0.keep hw
    clear hK0 hw
    obtain ⟨a1, a2, a3, -⟩ := hK1.cells
    go_wp2_with fail
    refine (KN2.out _).mono ?_; rintro e w3 ⟨rfl, hw⟩
    have hK2 := hK1.keep hw
    clear hK1 hw a1 a2 a3
    obtain ⟨a1, a2, a3, -⟩ := hK2.cells
    go_wp2_with fail
    refine (KB.out _).mono ?_; rintro e w4 ⟨rfl, hw⟩
    have hK3 := hK2.keep hw
    clear hK2 hw a1 a2 a3
    obtain ⟨a1, a2, a3, -⟩ := hK3.cells
    go_wp2_with fail
    refine (KN1.out _).mono ?_; rintro e w5 ⟨rfl, hw⟩
    have hK4 := hK3.keep hw
    clear hK3 hw a1 a2 a3
    obtain ⟨a1, a2, a3, -⟩ := hK4.cells
    go_wp2_with fail
    refine (KB2.out _).mono ?_; rintro e w6 ⟨rfl, hw⟩
    have hK5 := hK4.keep hw
    clear hK4 hw a1 a2 a3
    go_wp2_with fail
    refine bodyPost_ret (v := .tuple #[.int .i64 0, .int .i64 0, .int .i64 0, .int .i64 2]) (by simp [results, Try.results45, go_sem]) rfl ⟨?_, hK5.below⟩
    rw [HB.out.1, HB.out.2.1, HB.out.2.2.1, HB.out.2.2.2]
  have hy' := betB_iff.1 hy
  have KB2 := (fun W => calls_val (between_B y 1 (pw t.a.base t.a.digits.length - 1) W) (congrArg Value.bool hy))
  obtain ⟨vp1, vp2, vp3, vp4, vp5⟩ := vplaces_bd hv
  have KP := (fun W (hW : Below w.heap.size w W) => places_any t A1 A2 A3 c1 c2 c3 W (r1.below hW) (r2.below hW) (r3.below hW) n2 n4 n6)
  have KW := (fun W => power_B t.a.base (vplaces t).toNat W b1 b2 (by omega))
  have hpw : powC t.a.base (vplaces t).toNat = pw t.a.base (vplaces t).toNat := by unfold powC; rw [if_pos vp4]
  rw [hpw, vp3] at KW
  have KD := (fun W => divideProgram_any (vplaces t).toNat W vp1 vp2)
  rw [vp3] at KD
  have hxy : 0 ≤ x.tdiv y ∧ x.tdiv y ≤ 1000000000001 := by
    rw [Int.tdiv_eq_ediv_of_nonneg hx'.1]
    have := Int.ediv_le_self y hx'.1
    exact ⟨Int.ediv_nonneg hx'.1 (by omega), by omega⟩
  have hqw : IntKind.i64.wrap (x.tdiv y) = x.tdiv y := wrapI64 (by omega)
  have ny1 : y ≠ 0 := by omega
  have ny2 : (y == 0) = false := by simp; omega
  have hC1 : dvC t x y = if pw t.a.base (vplaces t).toNat ≤ x.tdiv y then 5 else 0 := by rw [hC0, if_neg (by rw [hx]; decide), if_neg (by rw [hy]; decide)]
  have hst := dvStart_ok hv hx hy
  obtain ⟨N2, hN2⟩ : ∃ N, pw t.b.base t.b.digits.length = N := ⟨_, rfl⟩
  obtain ⟨N1, hN1⟩ : ∃ N, pw t.a.base t.a.digits.length = N := ⟨_, rfl⟩
  obtain ⟨PW, hPW⟩ : ∃ N, pw t.a.base (vplaces t).toNat = N := ⟨_, rfl⟩
  obtain ⟨PL, hPL⟩ : ∃ N, (vplaces t) = N := ⟨_, rfl⟩
  have hdq : pw t.a.base (vplaces t).toNat ≤ x.tdiv y ↔ PW ≤ x.tdiv y := by rw [hPW]
  rw [hN2] at KN2 f1 pb KB hx'
  rw [hN1] at KN1 pa pa2 KB2 hy'
  rw [hPW] at KW vp4 vp5
  obtain ⟨XY, hXY⟩ : ∃ q, x.tdiv y = q := ⟨_, rfl⟩
  have KC := (fun W => clearedM_any t A1 A2 A3 c1 c2 c3 W ⟨b1, b2⟩ ⟨b3, b4⟩ ⟨b5, b6⟩ (sized_of hv))
  have hszc : Sized (clrT t) := by have := sized_of hv; exact ⟨by simp only [clrT, digD_len]; exact this.a0, by simp only [clrT, digD_len]; exact this.b0, by simp only [clrT, digD_len]; exact this.s0, by simp only [clrT, digD_len]; exact this.a, by simp only [clrT, digD_len]; exact this.b, by simp only [clrT, digD_len]; exact this.s⟩
  have KS := (fun (B1 B2 B3 : Option Addr) (h1 h2 h3 : Nat) W q1 q2 q3 => withSetting_any (clrT t) B1 B2 B3 h1 h2 h3 y W q1 q2 q3 hszc b1 b2 (by omega) (by omega))
  have KX := (fun W => withValue_any t.b.base A2 t.b.digits.length c2 x W b3 b4 (by omega) (by omega) (by omega))
  simp only [clrT, digD_len, rowI] at KS KC KX
  have KN3 := (fun (A3 : Option Addr) (c3 : Nat) W => values_any t.s.base A3 t.s.digits.length c3 W b5 b6 (by omega))
  have hp3 : powC t.s.base t.s.digits.length = pw t.s.base t.s.digits.length := by unfold powC; rw [if_pos f2]
  rw [hp3] at KN3
  have p3 := pw_pos t.s.base b5 t.s.digits.length
  have KRP := (fun (LA : Option Addr) (lc : Nat) (E1 : Option Addr) (g1 : Nat) (E2 : Option Addr) (g2 : Nat) (E3 : Option Addr) (g3 : Nat) W q1 q2 q3 hq => runProgram_any (lc := lc) (LA := LA) (n := (divProg (vplaces t).toNat).length) (dvStart t x y) E1 E2 E3 g1 g2 g3 W q1 q2 q3 hst (divProg_ok vp1 vp2) hq)
  unfold RunPI at KRP
  simp only [dvStart, digD_len] at KRP
  have H5 := Lib.hid (fun (h : PW ≤ XY) => dv_code (t := t) (x := x) (y := y) (c := 5) (by rw [hC1, if_pos (hdq.2 (by rw [hXY]; exact h))]) (by decide))
  have H0 := Lib.hid (fun (h : ¬ PW ≤ XY) => show dvC t x y = 0 by rw [hC1, if_neg (fun h2 => h (by rw [← hXY]; exact hdq.1 h2))])
  have hdf := (fun (s : RS) (b : Bool) h he => dv_fine (t := t) (x := x) (y := y) (s := s) (b := b) h he)
  unfold dvStart at hdf
  obtain ⟨N3, hN3⟩ : ∃ N, pw t.s.base t.s.digits.length = N := ⟨_, rfl⟩
  rw [hN3] at KN3 f2 p3 hdf
  obtain ⟨ds, hds⟩ : ∃ l, digD t.a.base t.a.digits.length y = l := ⟨_, rfl⟩
  obtain ⟨es, hes⟩ : ∃ l, digD t.b.base t.b.digits.length x = l := ⟨_, rfl⟩
  obtain ⟨fs, hfs⟩ : ∃ l, digD t.s.base t.s.digits.length 0 = l := ⟨_, rfl⟩
  obtain ⟨zs, hzs⟩ : ∃ l, digD t.b.base t.b.digits.length 0 = l := ⟨_, rfl⟩
  obtain ⟨ys, hys⟩ : ∃ l, digD t.a.base t.a.digits.length 0 = l := ⟨_, rfl⟩
  obtain ⟨ok, hok⟩ : ∃ l, (restD t.a.base t.a.digits.length y == 0) = l := ⟨_, rfl⟩
  obtain ⟨LP, hLP⟩ : ∃ l, divProg (vplaces t).toNat = l := ⟨_, rfl⟩
  rw [hds, hes, hfs] at KRP hdf
  rw [hLP] at KRP KD hdf
  rw [hfs, hzs, hds, hys, hok] at KS
  rw [hfs, hzs, hys] at KC
  rw [hes] at KX
  rw [hPL] at KP KW KD
  have hplb : 0 ≤ PL ∧ PL ≤ 16 := by omega
  rw [hXY] at hqw hxy
  have HQW := Lib.hid hqw
  clear hqw
  have KB := Lib.hid KB
  have KB2 := Lib.hid KB2
  have KV := Lib.hid KV
  have KN2 := Lib.hid KN2
  have KN1 := Lib.hid KN1
  have KN3 := Lib.hid KN3
  have KP := Lib.hid KP
  have KW := Lib.hid KW
  have KD := Lib.hid KD
  have KC := Lib.hid KC
  have KS := Lib.hid KS
  have KX := Lib.hid KX
  have KRP := Lib.hid KRP
  have HDF := Lib.hid hdf
  have HXY := Lib.hid hXY
  clear hv r1 r2 r3 hs k1 k2 k3 hx hy hN2 hN1 hN3 hmo hp1 hp2 hp3 hC0 hC1 e1 e2 l1 p0 p1 hPW hPL hdq hXY hszc hst hdf hds hes hfs hzs hys hok hLP vp1 vp2 vp3 hpw
  go_enter Try.func45, Try.ntmps45
  go_wp2_with fail
  refine Calls.kn ((Kn.nil w).al [.int .i64 t.a.base, .slice A1 t.a.digits.length c1, .int .i64 t.b.base, .slice A2 t.b.digits.length c2, .int .i64 t.s.base, .slice A3 t.s.digits.length c3, .int .i64 t.carry] 65) ?_; intro w1 hK0
  refine (KV.out _ hK0.below).mono ?_; rintro e w2 ⟨rfl, hw⟩
  have hK1 := hK0.keep hw
  clear hK0 hw
  obtain ⟨a1, a2, a3, -⟩ := hK1.cells
  go_wp2_with fail
  refine (KN2.out _).mono ?_; rintro e w3 ⟨rfl, hw⟩
  have hK2 := hK1.keep hw
  clear hK1 hw a1 a2 a3
  obtain ⟨a1, a2, a3, -⟩ := hK2.cells
  go_wp2_with fail
  refine (KB.out _).mono ?_; rintro e w4 ⟨rfl, hw⟩
  have hK3 := hK2.keep hw
  clear hK2 hw a1 a2 a3
  obtain ⟨a1, a2, a3, -⟩ := hK3.cells
  go_wp2_with fail
  refine (KN1.out _).mono ?_; rintro e w5 ⟨rfl, hw⟩
  have hK4 := hK3.keep hw
  clear hK3 hw a1 a2 a3
  obtain ⟨a1, a2, a3, -⟩ := hK4.cells
  go_wp2_with fail
  refine (KB2.out _).mono ?_; rintro e w6 ⟨rfl, hw⟩
  have hK5 := hK4.keep hw
  clear hK4 hw a1 a2 a3
  go_wp2_with fail
  have HG := Lib.hid (box7 hK5.drew)
  go_cut [43] (fun bb wx => bb = .bool (decide (PW ≤ XY)) ∧ Kn w [.blk w.heap.size [.int .i64 t.a.base, .slice A1 t.a.digits.length c1, .int .i64 t.b.base, .slice A2 t.b.digits.length c2, .int .i64 t.s.base, .slice A3 t.s.digits.length c3, .int .i64 t.carry] 65] wx)
  case first =>
    go_region_held3 (fun W => W.cell? ⟨w.heap.size, 0, none⟩ = some (.int .i64 t.a.base) ∧ W.cell? ⟨w.heap.size, 1, none⟩ = some (.slice A1 t.a.digits.length c1) ∧ W.cell? ⟨w.heap.size, 2, none⟩ = some (.int .i64 t.b.base) ∧ W.cell? ⟨w.heap.size, 3, none⟩ = some (.slice A2 t.b.digits.length c2) ∧ W.cell? ⟨w.heap.size, 4, none⟩ = some (.int .i64 t.s.base) ∧ W.cell? ⟨w.heap.size, 5, none⟩ = some (.slice A3 t.s.digits.length c3) ∧ W.cell? ⟨w.heap.size, 6, none⟩ = some (.int .i64 t.carry)) (first | with_reducible exact HG.out | exact HG.out) (first
      | (go_at_call 129; (with_reducible refine (KP.out _ hK5.drew.below).mono ?_); rintro e w7 ⟨rfl, hw⟩; have hK6 := hK5.drew.keep hw; clear HG; have HG := Lib.hid (box7 hK6))
      | (go_at_call 128; (with_reducible refine (KW.out _).mono ?_); rintro e w8 ⟨rfl, hw⟩; have hK7 := hK6.keep hw; clear HG; have HG := Lib.hid (box7 hK7)))
    all_goals
      go_wp2_with fail
      go_meet
      exact ⟨by rw [HXY.out, HQW.out], hK7⟩
  case rest =>
    obtain ⟨rfl, hK8⟩ := hcut
    clear HG hK5
    obtain ⟨a1, a2, a3, -⟩ := hK8.cells
    rcases hle : decide (PW ≤ XY) with _ | _
    rotate_left
    · have HB := Lib.hid (H5.out (of_decide_eq_true hle))
      clear hle
      go_wp2_with fail
      refine bodyPost_ret (v := .tuple #[.int .i64 0, .int .i64 0, .int .i64 0, .int .i64 5]) (by simp [results, Try.results45, go_sem]) rfl ⟨?_, hK8.below⟩
      rw [HB.out.1, HB.out.2.1, HB.out.2.2.1, HB.out.2.2.2]
    have HZ := Lib.hid (H0.out (by simpa using hle))
    clear hle
    go_wp2_with fail
    refine (KC.out _).mono ?_; rintro e w9 ⟨B1, h1, B2, h2, B3, h3, rfl, hKc⟩
    have hK9 : Kn w [rowN B3 t.s.digits.length h3 fs, rowN B2 t.b.digits.length h2 zs, rowN B1 t.a.digits.length h1 ys, .blk w.heap.size [.int .i64 t.a.base, .slice A1 t.a.digits.length c1, .int .i64 t.b.base, .slice A2 t.b.digits.length c2, .int .i64 t.s.base, .slice A3 t.s.digits.length c3, .int .i64 t.carry] 65] w9 := hK8.join hKc
    clear hK8 hKc a1 a2 a3
    obtain ⟨a1, a2, a3, -⟩ := hK9.cells
    go_wp2_with fail
    refine (KS.out _ _ _ _ _ _ _ (Kn.riN hK9.drop.drop) (Kn.riN hK9.drop) (Kn.riN hK9)).mono ?_; rintro e w10 ⟨E1, g1, E2, g2, E3, g3, rfl, hKs⟩
    have hK10 : Kn w [rowN E3 t.s.digits.length g3 fs, rowN E2 t.b.digits.length g2 zs, rowN E1 t.a.digits.length g1 ds, .blk w.heap.size [.int .i64 t.a.base, .slice A1 t.a.digits.length c1, .int .i64 t.b.base, .slice A2 t.b.digits.length c2, .int .i64 t.s.base, .slice A3 t.s.digits.length c3, .int .i64 t.carry] 65] w10 := (hK9.drop.drop.drop).join hKs
    clear hK9 hKs a1 a2 a3
    obtain ⟨a1, a2, a3, -⟩ := hK10.cells
    go_wp2_with fail
    refine Calls.kn (hK10.al [.int .i64 t.a.base, .slice E1 t.a.digits.length g1, .int .i64 t.b.base, .slice E2 t.b.digits.length g2, .int .i64 t.s.base, .slice E3 t.s.digits.length g3, .int .i64 0] 65) ?_; intro w11 hK11
    refine (KX.out _).mono ?_; rintro e w12 ⟨F, f, rfl, hKx⟩
    have hK12 : Kn w [rowN F t.b.digits.length f es, .blk w10.heap.size [.int .i64 t.a.base, .slice E1 t.a.digits.length g1, .int .i64 t.b.base, .slice E2 t.b.digits.length g2, .int .i64 t.s.base, .slice E3 t.s.digits.length g3, .int .i64 0] 65, rowN E3 t.s.digits.length g3 fs, rowN E2 t.b.digits.length g2 zs, rowN E1 t.a.digits.length g1 ds, .blk w.heap.size [.int .i64 t.a.base, .slice A1 t.a.digits.length c1, .int .i64 t.b.base, .slice A2 t.b.digits.length c2, .int .i64 t.s.base, .slice A3 t.s.digits.length c3, .int .i64 t.carry] 65] w12 := hK11.join hKx
    clear hK10 hK11 hKx a1 a2 a3
    obtain ⟨d1, d2, d3, a1, a2, a3, -⟩ := hK12.cells
    go_wp2_with fail
    refine Code.wp.kn ((hK12.sw1.st 2 (.int .i64 t.b.base)).st 3 (.slice F t.b.digits.length f)) ?_; intro w13 hK13
    have hK14 : Kn w [.blk w10.heap.size [.int .i64 t.a.base, .slice E1 t.a.digits.length g1, .int .i64 t.b.base, .slice F t.b.digits.length f, .int .i64 t.s.base, .slice E3 t.s.digits.length g3, .int .i64 0] 65, .blk w.heap.size [.int .i64 t.a.base, .slice A1 t.a.digits.length c1, .int .i64 t.b.base, .slice A2 t.b.digits.length c2, .int .i64 t.s.base, .slice A3 t.s.digits.length c3, .int .i64 t.carry] 65, rowN F t.b.digits.length f es, rowN E3 t.s.digits.length g3 fs, rowN E1 t.a.digits.length g1 ds] w13 := hK13.sel [0, 5, 1, 2, 4] 99 (by decide) (by decide)
    clear hK12 hK13 d1 d2 d3 a1 a2 a3
    go_wp2_with fail
    have HG := Lib.hid (And.intro (box7at hK14.drew 0 rfl) (box7at hK14.drew 1 rfl))
    go_cut [12] (fun pp wx => ∃ (g : Nat) (s : RS) (b' : Bool) (LV : Value) (SA : Option Addr) (sc : Nat) (M1 : Option Addr) (j1 : Nat) (M2 : Option Addr) (j2 : Nat) (M3 : Option Addr) (j3 : Nat), pp = .pointer (some ⟨g, 0, none⟩) ∧ Ev LP (.run 0 LP.length) (startR ⟨⟨t.a.base, ds⟩, ⟨t.b.base, es⟩, ⟨t.s.base, fs⟩, 0⟩) s b' ∧ s.Good ∧
      Kn w [.blk g [.int .i64 s.m.a.base, .slice M1 s.m.a.digits.length j1, .int .i64 s.m.b.base, .slice M2 s.m.b.digits.length j2, .int .i64 s.m.s.base, .slice M3 s.m.s.digits.length j3, .int .i64 s.m.carry, LV, .int .i64 (s.done : Int), .slice SA s.tr.length sc, .int .i64 s.code] 153, rowI M3 j3 s.m.s.digits, rowI M2 j2 s.m.b.digits, .blk w.heap.size [.int .i64 t.a.base, .slice A1 t.a.digits.length c1, .int .i64 t.b.base, .slice A2 t.b.digits.length c2, .int .i64 t.s.base, .slice A3 t.s.digits.length c3, .int .i64 t.carry] 65] wx)
    case first =>
      go_region_held3 (fun W => (W.cell? ⟨w10.heap.size, 0, none⟩ = some (.int .i64 t.a.base) ∧ W.cell? ⟨w10.heap.size, 1, none⟩ = some (.slice E1 t.a.digits.length g1) ∧ W.cell? ⟨w10.heap.size, 2, none⟩ = some (.int .i64 t.b.base) ∧ W.cell? ⟨w10.heap.size, 3, none⟩ = some (.slice F t.b.digits.length f) ∧ W.cell? ⟨w10.heap.size, 4, none⟩ = some (.int .i64 t.s.base) ∧ W.cell? ⟨w10.heap.size, 5, none⟩ = some (.slice E3 t.s.digits.length g3) ∧ W.cell? ⟨w10.heap.size, 6, none⟩ = some (.int .i64 0)) ∧
          (W.cell? ⟨w.heap.size, 0, none⟩ = some (.int .i64 t.a.base) ∧ W.cell? ⟨w.heap.size, 1, none⟩ = some (.slice A1 t.a.digits.length c1) ∧ W.cell? ⟨w.heap.size, 2, none⟩ = some (.int .i64 t.b.base) ∧ W.cell? ⟨w.heap.size, 3, none⟩ = some (.slice A2 t.b.digits.length c2) ∧ W.cell? ⟨w.heap.size, 4, none⟩ = some (.int .i64 t.s.base) ∧ W.cell? ⟨w.heap.size, 5, none⟩ = some (.slice A3 t.s.digits.length c3) ∧ W.cell? ⟨w.heap.size, 6, none⟩ = some (.int .i64 t.carry)))
        (first | with_reducible exact HG.out | exact HG.out) (first
        | (go_at_call 129; (with_reducible refine (KP.out _ hK14.drew.below).mono ?_); rintro e w15 ⟨rfl, hw⟩; have hK15 := hK14.drew.keep hw; clear HG; have HG := Lib.hid (And.intro (box7at hK15 0 rfl) (box7at hK15 1 rfl)))
        | (go_at_call 134; (with_reducible refine (KD.out _).mono ?_); rintro e w16 ⟨LA, lc, rfl, hKd⟩; have hK16 : Kn w [rowIns (.slice LA LP.length lc) LP, .blk w10.heap.size [.int .i64 t.a.base, .slice E1 t.a.digits.length g1, .int .i64 t.b.base, .slice F t.b.digits.length f, .int .i64 t.s.base, .slice E3 t.s.digits.length g3, .int .i64 0] 65, .blk w.heap.size [.int .i64 t.a.base, .slice A1 t.a.digits.length c1, .int .i64 t.b.base, .slice A2 t.b.digits.length c2, .int .i64 t.s.base, .slice A3 t.s.digits.length c3, .int .i64 t.carry] 65, rowN F t.b.digits.length f es, rowN E3 t.s.digits.length g3 fs, rowN E1 t.a.digits.length g1 ds] w16 := hK15.join hKd; clear HG; have HG := Lib.hid (And.intro (box7at hK16 1 rfl) (box7at hK16 2 rfl)))
        | (go_at_call 133; refine (KRP.out _ _ _ _ _ _ _ _ _ (Kn.riN (hK16.sel [5] 99 (by decide) (by decide))) (Kn.riN (hK16.sel [3] 99 (by decide) (by decide))) (Kn.riN (hK16.sel [4] 99 (by decide) (by decide))) (Kn.rlIns hK16).2).mono ?_; rintro e w17 ⟨g, s, b', rfl, he, ⟨SA, sc, M1, j1, M2, j2, M3, j3, hKr⟩, hg⟩; have hK17 := hK16.join hKr; clear HG; have HG := Lib.hid (And.intro (box7at hK17 6 rfl) (box7at hK17 7 rfl))))
      all_goals
        go_wp2_with fail
        go_meet
        exact ⟨_, _, _, _, _, _, _, _, _, _, _, _, rfl, he, hg, hK17.sel [0, 1, 2, 7] 99 (by decide) (by decide)⟩
    case rest =>
      obtain ⟨g, s, b', LV, SA, sc, M1, j1, M2, j2, M3, j3, rfl, he, hg, hK18⟩ := hcut
      have HB := Lib.hid (HDF.out s b' HZ.out he)
      obtain ⟨k1, k2, k3, -, -, g1', g2', -⟩ := vmach_all hg.m
      obtain ⟨⟨y3, y4⟩, ⟨z3, z4⟩, yd2, -⟩ := vreg_iff.1 k2
      obtain ⟨⟨y5, y6⟩, ⟨z5, z6⟩, yd3, -⟩ := vreg_iff.1 k3
      have hv3 := (valL_bd s.m.s.base y5 s.m.s.digits (fun d h => (yd3 d h).1)).1
      have hv3' := valL_lt s.m.s.base y5 s.m.s.digits yd3
      have KVC := Lib.hid (fun W (h : RI W M3 s.m.s.digits.length s.m.s.digits) => value_any s.m.s.base M3 s.m.s.digits.length j3 s.m.s.digits W y5 y6 yd3 h (by omega))
      have KVR := Lib.hid (fun W (h : RI W M2 s.m.b.digits.length s.m.b.digits) => value_any s.m.b.base M2 s.m.b.digits.length j2 s.m.b.digits W y3 y4 yd2 h (by omega))
      obtain ⟨VC, hVC⟩ : ∃ v, valL s.m.s.base s.m.s.digits = v := ⟨_, rfl⟩
      obtain ⟨VR, hVR⟩ : ∃ v, valL s.m.b.base s.m.b.digits = v := ⟨_, rfl⟩
      have KVC := KVC.out
      have KVR := KVR.out
      have HB := HB.out
      rw [hVC] at KVC HB hv3 hv3'
      rw [hVR] at KVR HB
      have KVC := Lib.hid KVC
      have KVR := Lib.hid KVR
      have HB := Lib.hid HB
      have nz1 : N3 ≠ 0 := by omega
      have nz2 : (N3 == 0) = false := by simp; omega
      have hwq := wrapI64 (n := N3 - VC) (by omega)
      clear HG hK14 KP KD KRP k1 k2 k3 hVC hVR y3 y4 y5 y6 yd2 yd3 he hg
      obtain ⟨d1, d2, d3, a1, a2, a3, -⟩ := hK18.cells
      go_wp2_with fail
      refine (KN3.out _ _ _).mono ?_; rintro e w19 ⟨rfl, hw⟩
      have hK19 := hK18.keep hw
      clear hK18 hw a1 a2 a3 d1 d2 d3
      obtain ⟨d1, d2, d3, a1, a2, a3, -⟩ := hK19.cells
      go_wp2_with fail
      refine (KVC.out _ hK19.drop.riv).mono ?_; rintro e w20 ⟨rfl, hw⟩
      have hK20 := hK19.keep hw
      clear hK19 hw a1 a2 a3 d1 d2 d3
      obtain ⟨d1, d2, d3, a1, a2, a3, -⟩ := hK20.cells
      go_wp2_with fail
      have HG := Lib.hid (And.intro (hK20.drew.cellIs 2 (.int .i64 s.m.b.base) rfl) (And.intro (hK20.drew.cellIs 3 (.slice M2 s.m.b.digits.length j2) rfl) (hK20.drew.cellIs 9 (.slice SA s.tr.length sc) rfl)))
      go_region_held3 (fun W => W.cell? ⟨g, 2, none⟩ = some (.int .i64 s.m.b.base) ∧ W.cell? ⟨g, 3, none⟩ = some (.slice M2 s.m.b.digits.length j2) ∧ W.cell? ⟨g, 9, none⟩ = some (.slice SA s.tr.length sc)) (first | with_reducible exact HG.out | exact HG.out) (first
        | (go_at_call 135; (with_reducible refine (KVR.out _ hK20.drew.drop.drop.riv).mono ?_); rintro e w21 ⟨rfl, hw⟩; have hK21 := hK20.drew.keep hw; clear HG; have HG := Lib.hid (And.intro (hK21.cellIs 2 (.int .i64 s.m.b.base) rfl) (And.intro (hK21.cellIs 3 (.slice M2 s.m.b.digits.length j2) rfl) (hK21.cellIs 9 (.slice SA s.tr.length sc) rfl)))))
      all_goals
        go_wp2_with fail
        refine bodyPost_ret (v := .tuple #[.int .i64 ((N3 - VC).tmod N3), .int .i64 VR, .int .i64 s.tr.length, .int .i64 0]) (by simp [results, Try.results45, go_sem]) rfl ⟨?_, hK21.below⟩
        rw [HB.out.1, HB.out.2.1, HB.out.2.2.1, HB.out.2.2.2]
end Go.Proofs.Ytkaaiocbiknipaa

namespace Go.Proofs.Ytkaaiocbiknipaa
open Go.RowKit Go.Sort
set_option maxRecDepth 100000 in
set_option maxHeartbeats 3200000 in
theorem specDivideOn_any (t : Tri) (A1 A2 A3 : Option Addr) (c1 c2 c3 : Nat) (x y : Int) (w : World) (r1 : RI w A1 t.a.digits.length t.a.digits) (r2 : RI w A2 t.b.digits.length t.b.digits) (r3 : RI w A3 t.s.digits.length t.s.digits) (hs : SmallTri t) :
    Calls Try.prog 43 #[.agg #[.int .i64 t.a.base, .slice A1 t.a.digits.length c1, .int .i64 t.b.base, .slice A2 t.b.digits.length c2, .int .i64 t.s.base, .slice A3 t.s.digits.length c3, .int .i64 t.carry], .int .i64 x, .int .i64 y] w (DVRet t x y w) := by
  have hTC : ∀ W, Kn w [.blk w.heap.size [.int .i64 t.a.base, .slice A1 t.a.digits.length c1, .int .i64 t.b.base, .slice A2 t.b.digits.length c2, .int .i64 t.s.base, .slice A3 t.s.digits.length c3, .int .i64 t.carry] 65] W → TriC W ⟨w.heap.size, 0, none⟩ t A1 c1 A2 c2 A3 c3 := fun W h => ⟨⟨h.blkAt.1 0, h.blkAt.1 1, h.blkAt.1 2, h.blkAt.1 3, h.blkAt.1 4, h.blkAt.1 5, h.blkAt.1 6⟩, r1.below h.below, r2.below h.below, r3.below h.below⟩
  have KV := (fun W (hW : Kn w [.blk w.heap.size [.int .i64 t.a.base, .slice A1 t.a.digits.length c1, .int .i64 t.b.base, .slice A2 t.b.digits.length c2, .int .i64 t.s.base, .slice A3 t.s.digits.length c3, .int .i64 t.carry] 65] W) => l10Ok_any ⟨w.heap.size, 0, none⟩ t W (hTC W hW).tri hs)
  rcases hv : vmach t with _ | _
  · rw [hv] at KV
    have HB := Lib.hid (dv_code (t := t) (x := x) (y := y) (c := 1) (by unfold dvC; rw [if_pos hv]) (by decide))
    have KV := Lib.hid KV
    clear hv r1 r2 r3 hs hTC
    go_enter Try.func43, Try.ntmps43
    go_wp2_with fail
    refine Calls.kn ((Kn.nil w).al [.int .i64 t.a.base, .slice A1 t.a.digits.length c1, .int .i64 t.b.base, .slice A2 t.b.digits.length c2, .int .i64 t.s.base, .slice A3 t.s.digits.length c3, .int .i64 t.carry] 65) ?_; intro w1 hK0
    refine (KV.out _ hK0).mono ?_; rintro e w2 ⟨rfl, q, rfl⟩
    have hK1 := hK0.drewN q
    generalize w1.drewN q = w2 at hK1 ⊢
    clear hK0
    obtain ⟨a1, a2, a3, -⟩ := hK1.cells
    go_wp2_with fail
    refine bodyPost_ret (v := .tuple #[.int .i64 0, .int .i64 0, .int .i64 0, .int .i64 1]) (by simp [results, Try.results43, go_sem]) rfl ⟨?_, hK1.below⟩
    rw [HB.out.1, HB.out.2.1, HB.out.2.2.1, HB.out.2.2.2]
  obtain ⟨k1, k2, k3, e1, e2, f1, f2, l1, p0, p1⟩ := vmach_all hv
  obtain ⟨⟨b1, b2⟩, ⟨n1, n2⟩, -⟩ := vreg_iff.1 k1
  obtain ⟨⟨b3, b4⟩, ⟨n3, n4⟩, -⟩ := vreg_iff.1 k2
  obtain ⟨⟨b5, b6⟩, ⟨n5, n6⟩, -⟩ := vreg_iff.1 k3
  have hmo := pw_mono t.a.base b1 _ _ l1
  rw [e1] at hmo
  have pb := pw_pos t.b.base b3 t.b.digits.length
  have pa := pw_pos t.a.base b1 t.a.digits.length
  rw [← e1] at hmo
  have pa2 : pw t.a.base t.a.digits.length ≤ 1000000000001 := by rw [e1] at hmo ⊢; omega
  have KN2 := (fun W (hW : Kn w [.blk w.heap.size [.int .i64 t.a.base, .slice A1 t.a.digits.length c1, .int .i64 t.b.base, .slice A2 t.b.digits.length c2, .int .i64 t.s.base, .slice A3 t.s.digits.length c3, .int .i64 t.carry] 65] W) => l12Room_any ⟨w.heap.size, 2, none⟩ t.b.base A2 t.b.digits.length c2 W ⟨hW.blkAt.1 2, hW.blkAt.1 3⟩ b3 b4 (by omega))
  have hp2 : powS t.b.base t.b.digits.length = pw t.b.base t.b.digits.length := by unfold powS; omega
  rw [hp2] at KN2
  have KN1 := (fun W (hW : Kn w [.blk w.heap.size [.int .i64 t.a.base, .slice A1 t.a.digits.length c1, .int .i64 t.b.base, .slice A2 t.b.digits.length c2, .int .i64 t.s.base, .slice A3 t.s.digits.length c3, .int .i64 t.carry] 65] W) => l12Room_any ⟨w.heap.size, 0, none⟩ t.a.base A1 t.a.digits.length c1 W ⟨hW.blkAt.1 0, hW.blkAt.1 1⟩ b1 b2 (by omega))
  have hp1 : powS t.a.base t.a.digits.length = pw t.a.base t.a.digits.length := by unfold powS; omega
  rw [hp1] at KN1
  rw [hv] at KV
  have hC0 : dvC t x y = if betB x 0 (pw t.b.base t.b.digits.length - 1) = false then 2 else if betB y 1 (pw t.a.base t.a.digits.length - 1) = false then 2 else if pw t.a.base (vplaces t).toNat ≤ x.tdiv y then 5 else 0 := by unfold dvC; rw [if_neg (by rw [hv]; decide)]
  have KB := (fun W => l00In_any x 0 (pw t.b.base t.b.digits.length - 1) W)
  have KB2 := (fun W => l00In_any y 1 (pw t.a.base t.a.digits.length - 1) W)
  rcases hx : betB x 0 (pw t.b.base t.b.digits.length - 1) with _ | _
  · have HB := Lib.hid (dv_code (t := t) (x := x) (y := y) (c := 2) (by rw [hC0, if_pos hx]) (by decide))
    rw [hx] at KB
    obtain ⟨N2, hN2⟩ : ∃ N, pw t.b.base t.b.digits.length = N := ⟨_, rfl⟩
    rw [hN2] at KN2 f1 pb KB
    have KB := Lib.hid KB
    have KV := Lib.hid KV
    have KN2 := Lib.hid KN2
    clear hv r1 r2 r3 hs k1 k2 k3 hx hN2 hmo pa2 pa hp1 hp2 hC0 KN1 KB2 e1 e2 f2 l1 p0 p1 hTC
    go_enter Try.func43, Try.ntmps43
    go_wp2_with fail
    refine Calls.kn ((Kn.nil w).al [.int .i64 t.a.base, .slice A1 t.a.digits.length c1, .int .i64 t.b.base, .slice A2 t.b.digits.length c2, .int .i64 t.s.base, .slice A3 t.s.digits.length c3, .int .i64 t.carry] 65) ?_; intro w1 hK0
    refine (KV.out _ hK0).mono ?_; rintro e w2 ⟨rfl, q, rfl⟩
    have hK1 := hK0.drewN q
    generalize w1.drewN q = w2 at hK1 ⊢
    clear hK0
    obtain ⟨a1, a2, a3, -⟩ := hK1.cells
    go_wp2_with fail
    refine (KN2.out _ hK1).mono ?_; rintro e w3 ⟨rfl, q, rfl⟩
    have hK2 := hK1.drewN q
    generalize w2.drewN q = w3 at hK2 ⊢
    clear hK1 a1 a2 a3
    obtain ⟨a1, a2, a3, -⟩ := hK2.cells
    go_wp2_with fail
    refine (KB.out _).mono ?_; rintro e w4 ⟨rfl, rfl⟩
    go_wp2_with fail
    refine bodyPost_ret (v := .tuple #[.int .i64 0, .int .i64 0, .int .i64 0, .int .i64 2]) (by simp [results, Try.results43, go_sem]) rfl ⟨?_, hK2.below⟩
    rw [HB.out.1, HB.out.2.1, HB.out.2.2.1, HB.out.2.2.2]
  have hx' := betB_iff.1 hx
  rw [hx] at KB
  rcases hy : betB y 1 (pw t.a.base t.a.digits.length - 1) with _ | _
  · have HB := Lib.hid (dv_code (t := t) (x := x) (y := y) (c := 2) (by rw [hC0, if_neg (by rw [hx]; decide), if_pos hy]) (by decide))
    rw [hy] at KB2
    obtain ⟨N2, hN2⟩ : ∃ N, pw t.b.base t.b.digits.length = N := ⟨_, rfl⟩
    obtain ⟨N1, hN1⟩ : ∃ N, pw t.a.base t.a.digits.length = N := ⟨_, rfl⟩
    rw [hN2] at KN2 f1 pb KB
    rw [hN1] at KN1 pa pa2 KB2
    have KB := Lib.hid KB
    have KB2 := Lib.hid KB2
    have KV := Lib.hid KV
    have KN2 := Lib.hid KN2
    have KN1 := Lib.hid KN1
    clear hv r1 r2 r3 hs k1 k2 k3 hx hy hN2 hN1 hmo hp1 hp2 hC0 e1 e2 f2 l1 p0 p1 hx' hTC
    go_enter Try.func43, Try.ntmps43
    go_wp2_with fail
    refine Calls.kn ((Kn.nil w).al [.int .i64 t.a.base, .slice A1 t.a.digits.length c1, .int .i64 t.b.base, .slice A2 t.b.digits.length c2, .int .i64 t.s.base, .slice A3 t.s.digits.length c3, .int .i64 t.carry] 65) ?_; intro w1 hK0
    refine (KV.out _ hK0).mono ?_; rintro e w2 ⟨rfl, q, rfl⟩
    have hK1 := hK0.drewN q
    generalize w1.drewN q = w2 at hK1 ⊢
    clear hK0
    obtain ⟨a1, a2, a3, -⟩ := hK1.cells
    go_wp2_with fail
    refine (KN2.out _ hK1).mono ?_; rintro e w3 ⟨rfl, q, rfl⟩
    have hK2 := hK1.drewN q
    generalize w2.drewN q = w3 at hK2 ⊢
    clear hK1 a1 a2 a3
    obtain ⟨a1, a2, a3, -⟩ := hK2.cells
    go_wp2_with fail
    refine (KB.out _).mono ?_; rintro e w4 ⟨rfl, rfl⟩
    go_wp2_with fail
    refine (KN1.out _ hK2).mono ?_; rintro e w5 ⟨rfl, q, rfl⟩
    have hK5 := hK2.drewN q
    generalize w3.drewN q = w5 at hK5 ⊢
    clear hK2 a1 a2 a3
    obtain ⟨a1, a2, a3, -⟩ := hK5.cells
    go_wp2_with fail
    refine (KB2.out _).mono ?_; rintro e w6 ⟨rfl, rfl⟩
    go_wp2_with fail
    refine bodyPost_ret (v := .tuple #[.int .i64 0, .int .i64 0, .int .i64 0, .int .i64 2]) (by simp [results, Try.results43, go_sem]) rfl ⟨?_, hK5.below⟩
    rw [HB.out.1, HB.out.2.1, HB.out.2.2.1, HB.out.2.2.2]
  have hy' := betB_iff.1 hy
  rw [hy] at KB2
  obtain ⟨vp1, vp2, vp3, vp4, vp5⟩ := vplaces_bd hv
  have KP := (fun W (hW : Kn w [.blk w.heap.size [.int .i64 t.a.base, .slice A1 t.a.digits.length c1, .int .i64 t.b.base, .slice A2 t.b.digits.length c2, .int .i64 t.s.base, .slice A3 t.s.digits.length c3, .int .i64 t.carry] 65] W) => l10Places_any ⟨w.heap.size, 0, none⟩ t W (hTC W hW).tri n2 n4 n6)
  have KW := (fun W => l10Power_any t.a.base (vplaces t).toNat W b1 b2 (by omega))
  have hpw : powS t.a.base (vplaces t).toNat = pw t.a.base (vplaces t).toNat := by unfold powS; omega
  rw [hpw, vp3] at KW
  have KD := (fun W => l12Divide_any (vplaces t).toNat W vp1 vp2)
  rw [vp3] at KD
  have hxy : 0 ≤ x.tdiv y ∧ x.tdiv y ≤ 1000000000001 := by
    rw [Int.tdiv_eq_ediv_of_nonneg hx'.1]
    have := Int.ediv_le_self y hx'.1
    exact ⟨Int.ediv_nonneg hx'.1 (by omega), by omega⟩
  have hqw : IntKind.i64.wrap (x.tdiv y) = x.tdiv y := wrapI64 (by omega)
  have ny1 : y ≠ 0 := by omega
  have ny2 : (y == 0) = false := by simp; omega
  have hC1 : dvC t x y = if pw t.a.base (vplaces t).toNat ≤ x.tdiv y then 5 else 0 := by rw [hC0, if_neg (by rw [hx]; decide), if_neg (by rw [hy]; decide)]
  have hst := dvStart_ok hv hx hy
  have KF : ∀ W, Kn w [.blk w.heap.size [.int .i64 t.a.base, .slice A1 t.a.digits.length c1, .int .i64 t.b.base, .slice A2 t.b.digits.length c2, .int .i64 t.s.base, .slice A3 t.s.digits.length c3, .int .i64 t.carry] 65] W → Calls Try.prog 121 #[.pointer (some ⟨w.heap.size, 0, none⟩), .int .i64 y] W fun e w' => ∃ E1 g1 E2 g2 E3 g3, e = .returned (.agg #[.int .i64 t.a.base, .slice E1 (digD t.a.base t.a.digits.length y).length g1, .int .i64 t.b.base, .slice E2 (digD t.b.base t.b.digits.length 0).length g2, .int .i64 t.s.base, .slice E3 (digD t.s.base t.s.digits.length 0).length g3, .int .i64 0]) ∧
      Kn W [rowI E3 g3 (digD t.s.base t.s.digits.length 0), rowI E2 g2 (digD t.b.base t.b.digits.length 0), rowI E1 g1 (digD t.a.base t.a.digits.length y)] w' := by
    intro W hW
    have := l12Fresh_any w.heap.size t.a.base A1 A2 A3 t.a.digits.length t.b.digits.length t.s.digits.length c1 c2 c3 y W (hW.blkAt.1 0) (hW.blkAt.1 1) (hW.blkAt.1 3) (hW.blkAt.1 5) b1 b2 (by omega) (by omega) (by omega) (by omega) (by omega)
    rw [e2, ← e1]
    exact this
  have KX := (fun W => l02NewV_any t.b.base t.b.digits.length x W b3 b4 (by omega) (by omega) (by omega))
  have KN3 := (fun W (h4 : W.cell? ⟨w.heap.size, 4, none⟩ = some (.int .i64 t.s.base)) (h5 : W.cell? ⟨w.heap.size, 5, none⟩ = some (.slice A3 t.s.digits.length c3)) => l12Room_any ⟨w.heap.size, 4, none⟩ t.s.base A3 t.s.digits.length c3 W ⟨h4, h5⟩ b5 b6 (by omega))
  have hp3 : powS t.s.base t.s.digits.length = pw t.s.base t.s.digits.length := by unfold powS; omega
  rw [hp3] at KN3
  have p3 := pw_pos t.s.base b5 t.s.digits.length
  have KRP := (fun (LA : Option Addr) (lc : Nat) (g0 : Nat) (E1 : Option Addr) (g1 : Nat) (E2 : Option Addr) (g2 : Nat) (E3 : Option Addr) (g3 : Nat) W q1 hq => l11Run_any (lc := lc) (LA := LA) (n := (divProg (vplaces t).toNat).length) g0 (dvStart t x y) E1 E2 E3 g1 g2 g3 W q1 hst (divProg_ok vp1 vp2) hq)
  unfold RunPS TriC at KRP
  simp only [dvStart, digD_len] at KRP
  have hdf := (fun (s : RS) (b : Bool) h he => dv_fine (t := t) (x := x) (y := y) (s := s) (b := b) h he)
  unfold dvStart at hdf
  simp only [digD_len, rowI] at KF KX
  obtain ⟨N2, hN2⟩ : ∃ N, pw t.b.base t.b.digits.length = N := ⟨_, rfl⟩
  obtain ⟨N1, hN1⟩ : ∃ N, pw t.a.base t.a.digits.length = N := ⟨_, rfl⟩
  obtain ⟨PW, hPW⟩ : ∃ N, pw t.a.base (vplaces t).toNat = N := ⟨_, rfl⟩
  obtain ⟨PL, hPL⟩ : ∃ N, (vplaces t) = N := ⟨_, rfl⟩
  have hdq : pw t.a.base (vplaces t).toNat ≤ x.tdiv y ↔ PW ≤ x.tdiv y := by rw [hPW]
  rw [hN2] at KN2 f1 pb KB hx'
  rw [hN1] at KN1 pa pa2 KB2 hy'
  rw [hPW] at KW vp4 vp5
  obtain ⟨XY, hXY⟩ : ∃ q, x.tdiv y = q := ⟨_, rfl⟩
  have H5 := Lib.hid (fun (h : PW ≤ XY) => dv_code (t := t) (x := x) (y := y) (c := 5) (by rw [hC1, if_pos (hdq.2 (by rw [hXY]; exact h))]) (by decide))
  have H0 := Lib.hid (fun (h : ¬ PW ≤ XY) => show dvC t x y = 0 by rw [hC1, if_neg (fun h2 => h (by rw [← hXY]; exact hdq.1 h2))])
  obtain ⟨N3, hN3⟩ : ∃ N, pw t.s.base t.s.digits.length = N := ⟨_, rfl⟩
  rw [hN3] at KN3 f2 p3 hdf
  obtain ⟨ds, hds⟩ : ∃ l, digD t.a.base t.a.digits.length y = l := ⟨_, rfl⟩
  obtain ⟨es, hes⟩ : ∃ l, digD t.b.base t.b.digits.length x = l := ⟨_, rfl⟩
  obtain ⟨fs, hfs⟩ : ∃ l, digD t.s.base t.s.digits.length 0 = l := ⟨_, rfl⟩
  obtain ⟨zs, hzs⟩ : ∃ l, digD t.b.base t.b.digits.length 0 = l := ⟨_, rfl⟩
  have dl : ds.length = t.a.digits.length := by rw [← hds, digD_len]
  have el : es.length = t.b.digits.length := by rw [← hes, digD_len]
  have fl : fs.length = t.s.digits.length := by rw [← hfs, digD_len]
  have zl : zs.length = t.b.digits.length := by rw [← hzs, digD_len]
  obtain ⟨LP, hLP⟩ : ∃ l, divProg (vplaces t).toNat = l := ⟨_, rfl⟩
  rw [hds, hes, hfs] at KRP hdf
  rw [hLP] at KRP KD hdf
  rw [hds, hzs, hfs] at KF
  rw [hes] at KX
  rw [hPL] at KP KW KD
  have hplb : 0 ≤ PL ∧ PL ≤ 16 := by omega
  rw [hXY] at hqw hxy
  have HQW := Lib.hid hqw
  have KB := Lib.hid KB
  have KB2 := Lib.hid KB2
  have KV := Lib.hid KV
  have KN2 := Lib.hid KN2
  have KN1 := Lib.hid KN1
  have KN3 := Lib.hid KN3
  have KP := Lib.hid KP
  have KW := Lib.hid KW
  have KD := Lib.hid KD
  have KF := Lib.hid KF
  have KX := Lib.hid KX
  have KRP := Lib.hid KRP
  have HDF := Lib.hid hdf
  have HXY := Lib.hid hXY
  have HDL := Lib.hid dl
  have HEL := Lib.hid el
  have HFL := Lib.hid fl
  clear hv r1 r2 r3 hs k1 k2 k3 hx hy hN2 hN1 hN3 hmo hp1 hp2 hp3 hC0 hC1 e1 e2 l1 p0 p1 hPW hPL hdq hXY hst hdf hds hes hfs hzs hLP vp1 vp2 vp3 hpw hTC hqw dl el fl zl
  go_enter Try.func43, Try.ntmps43
  go_wp2_with fail
  refine Calls.kn ((Kn.nil w).al [.int .i64 t.a.base, .slice A1 t.a.digits.length c1, .int .i64 t.b.base, .slice A2 t.b.digits.length c2, .int .i64 t.s.base, .slice A3 t.s.digits.length c3, .int .i64 t.carry] 65) ?_; intro w1 hK0
  refine (KV.out _ hK0).mono ?_; rintro e w2 ⟨rfl, q, rfl⟩
  have hK1 := hK0.drewN q
  generalize w1.drewN q = w2 at hK1 ⊢
  clear hK0
  obtain ⟨a1, a2, a3, -⟩ := hK1.cells
  go_wp2_with fail
  refine (KN2.out _ hK1).mono ?_; rintro e w3 ⟨rfl, q, rfl⟩
  have hK2 := hK1.drewN q
  generalize w2.drewN q = w3 at hK2 ⊢
  clear hK1 a1 a2 a3
  obtain ⟨a1, a2, a3, -⟩ := hK2.cells
  go_wp2_with fail
  refine (KB.out _).mono ?_; rintro e w4 ⟨rfl, rfl⟩
  go_wp2_with fail
  refine (KN1.out _ hK2).mono ?_; rintro e w5 ⟨rfl, q, rfl⟩
  have hK5 := hK2.drewN q
  generalize w3.drewN q = w5 at hK5 ⊢
  clear hK2 a1 a2 a3
  obtain ⟨a1, a2, a3, -⟩ := hK5.cells
  go_wp2_with fail
  refine (KB2.out _).mono ?_; rintro e w6 ⟨rfl, rfl⟩
  go_wp2_with fail
  refine (KP.out _ hK5).mono ?_; rintro e w7 ⟨rfl, q, rfl⟩
  have hK7 := hK5.drewN q
  generalize w5.drewN q = w7 at hK7 ⊢
  clear hK5 a1 a2 a3
  obtain ⟨a1, a2, a3, -⟩ := hK7.cells
  go_wp2_with fail
  have HG := Lib.hid (box7 hK7.drew)
  go_cut [43] (fun bb wx => bb = .bool (decide (PW ≤ XY)) ∧ Kn w [.blk w.heap.size [.int .i64 t.a.base, .slice A1 t.a.digits.length c1, .int .i64 t.b.base, .slice A2 t.b.digits.length c2, .int .i64 t.s.base, .slice A3 t.s.digits.length c3, .int .i64 t.carry] 65] wx)
  case first =>
    go_region_held3 (fun W => W.cell? ⟨w.heap.size, 0, none⟩ = some (.int .i64 t.a.base) ∧ W.cell? ⟨w.heap.size, 1, none⟩ = some (.slice A1 t.a.digits.length c1) ∧ W.cell? ⟨w.heap.size, 2, none⟩ = some (.int .i64 t.b.base) ∧ W.cell? ⟨w.heap.size, 3, none⟩ = some (.slice A2 t.b.digits.length c2) ∧ W.cell? ⟨w.heap.size, 4, none⟩ = some (.int .i64 t.s.base) ∧ W.cell? ⟨w.heap.size, 5, none⟩ = some (.slice A3 t.s.digits.length c3) ∧ W.cell? ⟨w.heap.size, 6, none⟩ = some (.int .i64 t.carry)) (first | with_reducible exact HG.out | exact HG.out) (first
      | (go_at_call 120; (with_reducible refine (KW.out _).mono ?_); rintro e w8 ⟨rfl, rfl⟩))
    all_goals
      go_wp2_with fail
      go_meet
      exact ⟨by rw [HXY.out, HQW.out], hK7.drew⟩
  case rest =>
    obtain ⟨rfl, hK8⟩ := hcut
    clear HG hK7
    obtain ⟨a1, a2, a3, -⟩ := hK8.cells
    rcases hle : decide (PW ≤ XY) with _ | _
    rotate_left
    · have HB := Lib.hid (H5.out (of_decide_eq_true hle))
      clear hle
      go_wp2_with fail
      refine bodyPost_ret (v := .tuple #[.int .i64 0, .int .i64 0, .int .i64 0, .int .i64 5]) (by simp [results, Try.results43, go_sem]) rfl ⟨?_, hK8.below⟩
      rw [HB.out.1, HB.out.2.1, HB.out.2.2.1, HB.out.2.2.2]
    have HZ := Lib.hid (H0.out (by simpa using hle))
    clear hle
    go_wp2_with fail
    refine (KF.out _ hK8).mono ?_; rintro e w9 ⟨E1, g1, E2, g2, E3, g3, rfl, hKc⟩
    have hK9 : Kn w [rowN E3 t.s.digits.length g3 fs, rowN E2 t.b.digits.length g2 zs, rowN E1 t.a.digits.length g1 ds, .blk w.heap.size [.int .i64 t.a.base, .slice A1 t.a.digits.length c1, .int .i64 t.b.base, .slice A2 t.b.digits.length c2, .int .i64 t.s.base, .slice A3 t.s.digits.length c3, .int .i64 t.carry] 65] w9 := hK8.join hKc
    clear hK8 hKc a1 a2 a3
    obtain ⟨a1, a2, a3, -⟩ := hK9.cells
    go_wp2_with fail
    refine Calls.kn (hK9.al [.int .i64 t.a.base, .slice E1 t.a.digits.length g1, .int .i64 t.b.base, .slice E2 t.b.digits.length g2, .int .i64 t.s.base, .slice E3 t.s.digits.length g3, .int .i64 0] 65) ?_; intro w11 hK11
    refine (KX.out _).mono ?_; rintro e w12 ⟨F, f, rfl, hKx⟩
    have hK12 : Kn w [rowN F t.b.digits.length f es, .blk w9.heap.size [.int .i64 t.a.base, .slice E1 t.a.digits.length g1, .int .i64 t.b.base, .slice E2 t.b.digits.length g2, .int .i64 t.s.base, .slice E3 t.s.digits.length g3, .int .i64 0] 65, rowN E3 t.s.digits.length g3 fs, rowN E2 t.b.digits.length g2 zs, rowN E1 t.a.digits.length g1 ds, .blk w.heap.size [.int .i64 t.a.base, .slice A1 t.a.digits.length c1, .int .i64 t.b.base, .slice A2 t.b.digits.length c2, .int .i64 t.s.base, .slice A3 t.s.digits.length c3, .int .i64 t.carry] 65] w12 := hK11.join hKx
    clear hK9 hK11 hKx a1 a2 a3
    obtain ⟨d1, d2, d3, a1, a2, a3, -⟩ := hK12.cells
    go_wp2_with fail
    refine Calls.kn (((hK12.sw1.st 2 (.int .i64 t.b.base)).st 3 (.slice F t.b.digits.length f)).al [.int .i64 t.b.base, .slice F t.b.digits.length f] 26) ?_; intro w13 hK13
    clear hK12 d1 d2 d3 a1 a2 a3
    have hK14 : Kn w [.blk w9.heap.size [.int .i64 t.a.base, .slice E1 t.a.digits.length g1, .int .i64 t.b.base, .slice F t.b.digits.length f, .int .i64 t.s.base, .slice E3 t.s.digits.length g3, .int .i64 0] 65, .blk w.heap.size [.int .i64 t.a.base, .slice A1 t.a.digits.length c1, .int .i64 t.b.base, .slice A2 t.b.digits.length c2, .int .i64 t.s.base, .slice A3 t.s.digits.length c3, .int .i64 t.carry] 65, rowN F t.b.digits.length f es, rowN E3 t.s.digits.length g3 fs, rowN E1 t.a.digits.length g1 ds] w13 := hK13.sel [1, 6, 2, 3, 5] 99 (by decide) (by decide)
    clear hK13
    refine (KD.out _).mono ?_; rintro e w16 ⟨LA, lc, rfl, hKd⟩
    have hK16 : Kn w [rowIns (.slice LA LP.length lc) LP, .blk w9.heap.size [.int .i64 t.a.base, .slice E1 t.a.digits.length g1, .int .i64 t.b.base, .slice F t.b.digits.length f, .int .i64 t.s.base, .slice E3 t.s.digits.length g3, .int .i64 0] 65, .blk w.heap.size [.int .i64 t.a.base, .slice A1 t.a.digits.length c1, .int .i64 t.b.base, .slice A2 t.b.digits.length c2, .int .i64 t.s.base, .slice A3 t.s.digits.length c3, .int .i64 t.carry] 65, rowN F t.b.digits.length f es, rowN E3 t.s.digits.length g3 fs, rowN E1 t.a.digits.length g1 ds] w16 := hK14.join hKd
    clear hK14 hKd
    go_wp2_with fail
    refine (KRP.out _ _ _ _ _ _ _ _ _ _ ⟨box7at hK16 1 rfl, Kn.riN (hK16.sel [5] 99 (by decide) (by decide)), Kn.riN (hK16.sel [3] 99 (by decide) (by decide)), Kn.riN (hK16.sel [4] 99 (by decide) (by decide))⟩ (Kn.rlIns hK16).2).mono ?_; rintro e w17 ⟨g, s, b', b2', rfl, he, ⟨SA, sc, M1, j1, M2, j2, M3, j3, hKr⟩, hg⟩
    have hK18 : Kn w [.blk g [.int .i64 s.m.a.base, .slice M1 s.m.a.digits.length j1, .int .i64 s.m.b.base, .slice M2 s.m.b.digits.length j2, .int .i64 s.m.s.base, .slice M3 s.m.s.digits.length j3, .int .i64 s.m.carry, .slice LA LP.length lc, .slice SA s.tr.length sc, .int .i64 (s.done : Int), .bool b2', .int .i64 s.code] 143, rowI M3 j3 s.m.s.digits, rowI M2 j2 s.m.b.digits, .blk w.heap.size [.int .i64 t.a.base, .slice A1 t.a.digits.length c1, .int .i64 t.b.base, .slice A2 t.b.digits.length c2, .int .i64 t.s.base, .slice A3 t.s.digits.length c3, .int .i64 t.carry] 65] w17 := (hK16.join hKr).sel [0, 1, 2, 7] 99 (by decide) (by decide)
    clear hK16 hKr
    have HB := Lib.hid (HDF.out s b' HZ.out he)
    obtain ⟨k1, k2, k3, -, -, g1', g2', -⟩ := vmach_all hg.m
    obtain ⟨⟨y3, y4⟩, ⟨z3, z4⟩, yd2, -⟩ := vreg_iff.1 k2
    obtain ⟨⟨y5, y6⟩, ⟨z5, z6⟩, yd3, -⟩ := vreg_iff.1 k3
    have hv3 := (valL_bd s.m.s.base y5 s.m.s.digits (fun d h => (yd3 d h).1)).1
    have hv3' := valL_lt s.m.s.base y5 s.m.s.digits yd3
    have KVC := (fun W (h : RI W M3 s.m.s.digits.length s.m.s.digits) => l02Value_any s.m.s.base M3 s.m.s.digits.length j3 s.m.s.digits W y5 y6 yd3 h (by omega))
    have KVR := (fun W (h : RI W M2 s.m.b.digits.length s.m.b.digits) => l02Value_any s.m.b.base M2 s.m.b.digits.length j2 s.m.b.digits W y3 y4 yd2 h (by omega))
    obtain ⟨VC, hVC⟩ : ∃ v, valL s.m.s.base s.m.s.digits = v := ⟨_, rfl⟩
    obtain ⟨VR, hVR⟩ : ∃ v, valL s.m.b.base s.m.b.digits = v := ⟨_, rfl⟩
    have HB := HB.out
    rw [hVC] at KVC HB hv3 hv3'
    rw [hVR] at KVR HB
    have KVC := Lib.hid KVC
    have KVR := Lib.hid KVR
    have HB := Lib.hid HB
    have nz1 : N3 ≠ 0 := by omega
    have nz2 : (N3 == 0) = false := by simp; omega
    have hwq := wrapI64 (n := N3 - VC) (by omega)
    clear KP KD KRP k1 k2 k3 hVC hVR y3 y4 y5 y6 yd2 yd3 he hg
    obtain ⟨d1, d2, d3, a1, a2, a3, -⟩ := hK18.cells
    go_wp2_with fail
    refine (KN3.out _ ((hK18.front 3 rfl).cellIs 4 _ rfl) ((hK18.front 3 rfl).cellIs 5 _ rfl)).mono ?_; rintro e w19 ⟨rfl, q, rfl⟩
    have hK19 := hK18.drewN q
    generalize w17.drewN q = w19 at hK19 ⊢
    clear hK18 d1 d2 d3 a1 a2 a3
    obtain ⟨d1, d2, d3, a1, a2, a3, -⟩ := hK19.cells
    go_wp2_with fail
    go_quiet ((go_at_call 124; exact quiet_left (KVC.out _ (hK19.drewN _).drop.riv)))
    have hK20 := hK19.drewN nq
    generalize w19.drewN nq = w20 at hK20 ⊢
    clear hK19 d1 d2 d3 a1 a2 a3
    obtain ⟨d1, d2, d3, a1, a2, a3, -⟩ := hK20.cells
    go_wp2_with fail
    go_quiet ((go_at_call 124; exact quiet_left (KVR.out _ (hK20.drewN _).drop.drop.riv)))
    have hK21 := hK20.drewN nq
    generalize w20.drewN nq = w21 at hK21 ⊢
    clear hK20 d1 d2 d3 a1 a2 a3
    obtain ⟨d1, d2, d3, a1, a2, a3, -⟩ := hK21.cells
    go_wp2_with fail
    go_quiet (fail)
    go_wp2_with fail
    refine bodyPost_ret (v := .tuple #[.int .i64 ((N3 - VC).tmod N3), .int .i64 VR, .int .i64 s.tr.length, .int .i64 0]) (by simp [results, Try.results43, go_sem]) rfl ⟨?_, (hK21.drewN _).below⟩
    rw [HB.out.1, HB.out.2.1, HB.out.2.2.1, HB.out.2.2.2]
end Go.Proofs.Ytkaaiocbiknipaa

namespace Go.Proofs.Ytkaaiocbiknipaa
open Go.RowKit Go.Sort
/-- the program that adds values -/
def inV (vs : List Int) : Bool := vs.all (fun v => betB v 0 1000000000000)
theorem inV_take_succ {vs : List Int} {k : Nat} (h : k < vs.length) : inV (vs.take (k + 1)) = (inV (vs.take k) && betB vs[k] 0 1000000000000) := by
  unfold inV; rw [List.take_succ_eq_append_getElem h, List.all_append]; simp only [List.all_cons, List.all_nil, Bool.and_true]
theorem inV_not {vs : List Int} {k : Nat} (h : k < vs.length) (h1 : betB vs[k] 0 1000000000000 = false) : inV vs = false := by
  simp only [inV, List.all_eq_false]; exact ⟨vs[k], List.getElem_mem _, by simp [h1]⟩
def sumL (vs : List Int) : List Ins := ⟨6, 0⟩ :: vs.flatMap (fun v => [⟨1, v⟩, ⟨2, 1⟩])
theorem sumL_step {vs : List Int} {k : Nat} (h : k < vs.length) : sumL (vs.take (k + 1)) = sumL (vs.take k) ++ [⟨1, vs[k]⟩, ⟨2, 1⟩] := by
  unfold sumL; rw [List.take_succ_eq_append_getElem h, List.flatMap_append]; rfl
theorem sumL_len (vs : List Int) : (sumL vs).length = 1 + 2 * vs.length := by
  unfold sumL
  induction vs with
  | nil => rfl
  | cons v vs ih => simp only [List.flatMap_cons, List.length_cons, List.length_append, List.length_nil] at ih ⊢; omega
def spC (vs : List Int) : Int := if inV vs = false then 2 else if 120 < 2 * (vs.length : Int) + 1 then 5 else 0
def spL (vs : List Int) : List Ins := if spC vs = 0 then sumL vs else []
theorem sp_bad {vs : List Int} {c : Int} (h : spC vs = c) (hc : ¬ c = 0) : spC vs = c ∧ spL vs = [] := ⟨h, by unfold spL; rw [h, if_neg hc]⟩
theorem sp_fine {vs : List Int} (h : spC vs = 0) : spC vs = 0 ∧ spL vs = sumL vs := ⟨h, by unfold spL; rw [h, if_pos rfl]⟩
def SPRet (vs : List Int) (w : World) (e : Ending) (w' : World) : Prop := ∃ LA lc, e = .returned (.tuple #[.slice LA (spL vs).length lc, .int .i64 (spC vs)]) ∧ Kn w [rowIns (.slice LA (spL vs).length lc) (spL vs)] w'
theorem SPRet.bad {vs : List Int} {c : Int} {w w' : World} (h : spC vs = c ∧ spL vs = []) (hk : Kn w [] w') : SPRet vs w (.returned (.tuple #[.slice none 0 0, .int .i64 c])) w' := by
  unfold SPRet
  rw [h.1, h.2]
  exact ⟨none, 0, rfl, hk.nilRow _ _⟩
theorem SPRet.fine {vs : List Int} {w w' : World} {A : Option Addr} {c : Nat} (h : spC vs = 0 ∧ spL vs = sumL vs) (hk : Kn w [rowIns (.slice A (sumL vs).length c) (sumL vs)] w') : SPRet vs w (.returned (.tuple #[.slice A (sumL vs).length c, .int .i64 0])) w' := by
  unfold SPRet
  rw [h.1, h.2]
  exact ⟨A, c, rfl, hk⟩
set_option maxRecDepth 100000 in
set_option maxHeartbeats 1600000 in
theorem l12Sum_any (A : Option Addr) (n c : Nat) (vs : List Int) (w : World) (hr : RI w A n vs) (hm : n ≤ 1048576) :
    Calls Try.prog 190 #[.slice A n c] w fun e w' => ∃ LA lc, e = .returned (.slice LA (sumL vs).length lc) ∧ Kn w [rowIns (.slice LA (sumL vs).length lc) (sumL vs)] w' := by
  have HL := Lib.hid hr.1
  have HLN := Lib.hid (fun (k : Nat) (h : k ≤ n) => show (sumL (vs.take k)).length ≤ 1 + 2 * n by rw [sumL_len, List.length_take]; omega)
  have HFN := Lib.hid (show sumL (vs.take n) = sumL vs by rw [List.take_of_length_le (by have := hr.1; omega)])
  have hK2 : Kn w [rowIns (.slice (some ⟨w.heap.size, 0, none⟩) 1 1) (sumL (vs.take 0))] _ := ((Kn.nil w).al [.int .i64 6, .int .i64 0] 156).litRow (size := 2) (n := 1) rfl (by decide)
  go_enter Try.func190, Try.ntmps190
  go_wp2_with fail
  go_loopw [3, 4] (fun vv kk wr => ∃ (k : Nat), k ≤ n ∧ kk = .int .i64 k ∧ Kn w [rowIns vv (sumL (vs.take k))] wr) (fun _ kk _ => n - (intOf kk).toNat)
  case atStart => exact ⟨0, Nat.zero_le _, rfl, hK2⟩
  case round =>
    clear hK2
    obtain ⟨k, hk, rfl, hK⟩ := hrel
    have hln := HLN.out k hk
    obtain ⟨ds, hds⟩ : ∃ ds, sumL (vs.take k) = ds := ⟨_, rfl⟩
    have HDJ := Lib.hid hds
    rw [hds] at hK hln
    obtain ⟨A0, c0, rfl⟩ := row_form hK.at0
    by_cases hkn : k < n
    · obtain ⟨ad, hA, hlt, hkl, hc⟩ := (hr.below hK.below).at_ hkn
      subst hA
      have HNX := Lib.hid (sumL_step hkl)
      obtain ⟨v, hv⟩ : ∃ v, vs[k] = v := ⟨_, rfl⟩
      have HNX := HNX.out
      rw [hv, hds] at HNX
      rw [hv] at hc
      have HNX := Lib.hid HNX
      clear hds hv
      go_wp2_with (at_builtin; refine kn_pushIns (m := []) (ys := [⟨1, v⟩, ⟨2, 1⟩]) rfl _ _ rfl _ ds rfl rfl (hK.al [.int .i64 1, .int .i64 v, .int .i64 2, .int .i64 1] 156) (by simp; omega) ?_; intro v3 w3 hK3)
      go_roundw
      case rel => exact ⟨k + 1, by omega, by go_num, by rw [HNX.out]; exact hK3⟩
      case measure => simp [intOf]; omega
    · obtain rfl : k = n := by omega
      have hfin := HFN.out
      rw [hds] at hfin
      subst hfin
      clear hds
      go_wp2_with fail
      (go_ret; exact ⟨_, _, rfl, hK⟩)
set_option maxRecDepth 100000 in
set_option maxHeartbeats 1600000 in
theorem SumProgram_any (A : Option Addr) (n c : Nat) (vs : List Int) (w : World) (hr : RI w A n vs) (hm : n ≤ 1048576) :
    Calls Try.prog 144 #[.slice A n c] w (SPRet vs w) := by
  have HL := Lib.hid hr.1
  go_enter Try.func144, Try.ntmps144
  go_wp2_with fail
  go_loop [11] (fun i => ∃ k : Nat, k ≤ n ∧ i = .int .i64 k ∧ inV (vs.take k) = true) (fun i => n - (intOf i).toNat)
  case atStart => exact ⟨0, Nat.zero_le _, rfl, by simp [inV]⟩
  case round =>
    obtain ⟨k, hk, rfl, hdg⟩ := hrel
    have HD := Lib.hid hdg; clear hdg
    by_cases hkn : k < n
    · obtain ⟨ad, hA, hlt, hkl, hc⟩ := hr.at_ hkn
      subst hA
      rcases hd : betB vs[k] 0 1000000000000 with _ | _
      · have HF := Lib.hid (sp_bad (vs := vs) (c := 2) (by unfold spC; rw [if_pos (inV_not hkl hd)]) (by decide))
        have hd' := Lib.hid hd; clear hd
        go_wp2_with (go_at_call 81; refine (between_any _ _ _ _).mono ?_; rintro e w' ⟨rfl, rfl⟩; rw [hd'.out])
        go_ret2
        exact SPRet.bad HF.out (Kn.nil w)
      · have hd' := Lib.hid hd; clear hd
        go_wp2_with (go_at_call 81; refine (between_any _ _ _ _).mono ?_; rintro e w' ⟨rfl, rfl⟩; rw [hd'.out])
        go_round
        case rel => exact ⟨k + 1, by omega, by go_num, by rw [inV_take_succ hkl, HD.out, hd'.out]; rfl⟩
        case measure => simp [intOf]; omega
    · have HK : Hid (inV vs = true) := by have h1 := HD.out; rwa [List.take_of_length_le (by have := HL.out; omega)] at h1
      have hs0 : spC vs = if 120 < 2 * (n : Int) + 1 then 5 else 0 := by unfold spC; rw [HK.out, if_neg (by decide), HL.out]
      clear HD hk
      by_cases hn : 120 < 2 * (n : Int) + 1
      · have HF := Lib.hid (sp_bad (vs := vs) (c := 5) (by rw [hs0, if_pos hn]) (by decide))
        clear hs0
        go_wp2_with fail
        go_ret2
        exact SPRet.bad HF.out (Kn.nil w)
      · have HF := Lib.hid (sp_fine (vs := vs) (by rw [hs0, if_neg hn]))
        clear hs0
        have HLN := Lib.hid (fun (k : Nat) (h : k ≤ n) => show (sumL (vs.take k)).length ≤ 1 + 2 * n by rw [sumL_len, List.length_take]; omega)
        have HFN := Lib.hid (show sumL (vs.take n) = sumL vs by rw [List.take_of_length_le (by have := hr.1; omega)])
        have hK2 : Kn w [rowIns (.slice (some ⟨w.heap.size, 0, none⟩) 1 1) (sumL (vs.take 0))] _ := ((Kn.nil w).al [.int .i64 6, .int .i64 0] 156).litRow (size := 2) (n := 1) rfl (by decide)
        go_wp2_with fail
        go_loopw [6, 28] (fun vv kk wr => ∃ (k : Nat), k ≤ n ∧ kk = .int .i64 k ∧ Kn w [rowIns vv (sumL (vs.take k))] wr) (fun _ kk _ => n - (intOf kk).toNat)
        case atStart => exact ⟨0, Nat.zero_le _, rfl, hK2⟩
        case round =>
          clear hK2
          obtain ⟨k, hk, rfl, hK⟩ := hrel
          have hln := HLN.out k hk
          obtain ⟨ds, hds⟩ : ∃ ds, sumL (vs.take k) = ds := ⟨_, rfl⟩
          have HDJ := Lib.hid hds
          rw [hds] at hK hln
          obtain ⟨A0, c0, rfl⟩ := row_form hK.at0
          by_cases hkn : k < n
          · obtain ⟨ad, hA, hlt, hkl, hc⟩ := (hr.below hK.below).at_ hkn
            subst hA
            have HNX := Lib.hid (sumL_step hkl)
            obtain ⟨v, hv⟩ : ∃ v, vs[k] = v := ⟨_, rfl⟩
            have HNX := HNX.out
            rw [hv, hds] at HNX
            rw [hv] at hc
            have HNX := Lib.hid HNX
            clear hds hv
            go_wp2_with (at_builtin; refine kn_pushIns (m := []) (ys := [⟨1, v⟩, ⟨2, 1⟩]) rfl _ _ rfl _ ds rfl rfl (hK.al [.int .i64 1, .int .i64 v, .int .i64 2, .int .i64 1] 156) (by simp; omega) ?_; intro v3 w3 hK3)
            go_roundw
            case rel => exact ⟨k + 1, by omega, by go_num, by rw [HNX.out]; exact hK3⟩
            case measure => simp [intOf]; omega
          · obtain rfl : k = n := by omega
            have hfin := HFN.out
            rw [hds] at hfin
            subst hfin
            clear hds
            go_wp2_with fail
            (go_ret2; exact SPRet.fine HF.out hK)
set_option maxRecDepth 100000 in
set_option maxHeartbeats 1600000 in
theorem specSumProgram_any (A : Option Addr) (n c : Nat) (vs : List Int) (w : World) (hr : RI w A n vs) (hm : n ≤ 1048576) :
    Calls Try.prog 143 #[.slice A n c] w (SPRet vs w) := by
  have HL := Lib.hid hr.1
  go_enter Try.func143, Try.ntmps143
  go_wp2_with fail
  go_loop [4] (fun i => ∃ k : Nat, k ≤ n ∧ i = .int .i64 k ∧ inV (vs.take k) = true) (fun i => n - (intOf i).toNat)
  case atStart => exact ⟨0, Nat.zero_le _, rfl, by simp [inV]⟩
  case round =>
    obtain ⟨k, hk, rfl, hdg⟩ := hrel
    have HD := Lib.hid hdg; clear hdg
    by_cases hkn : k < n
    · obtain ⟨ad, hA, hlt, hkl, hc⟩ := hr.at_ hkn
      subst hA
      rcases hd : betB vs[k] 0 1000000000000 with _ | _
      · have HF := Lib.hid (sp_bad (vs := vs) (c := 2) (by unfold spC; rw [if_pos (inV_not hkl hd)]) (by decide))
        have hd' := Lib.hid hd; clear hd
        go_wp2_with (go_at_call 107; refine (l00In_any _ _ _ _).mono ?_; rintro e w' ⟨rfl, rfl⟩; rw [hd'.out])
        go_ret2
        exact SPRet.bad HF.out (Kn.nil w)
      · have hd' := Lib.hid hd; clear hd
        go_wp2_with (go_at_call 107; refine (l00In_any _ _ _ _).mono ?_; rintro e w' ⟨rfl, rfl⟩; rw [hd'.out])
        go_round
        case rel => exact ⟨k + 1, by omega, by go_num, by rw [inV_take_succ hkl, HD.out, hd'.out]; rfl⟩
        case measure => simp [intOf]; omega
    · have HK : Hid (inV vs = true) := by have h1 := HD.out; rwa [List.take_of_length_le (by have := HL.out; omega)] at h1
      have hs0 : spC vs = if 120 < 2 * (n : Int) + 1 then 5 else 0 := by unfold spC; rw [HK.out, if_neg (by decide), HL.out]
      clear HD hk
      by_cases hn : 120 < 2 * (n : Int) + 1
      · have HF := Lib.hid (sp_bad (vs := vs) (c := 5) (by rw [hs0, if_pos hn]) (by decide))
        clear hs0
        go_wp2_with fail
        go_ret2
        exact SPRet.bad HF.out (Kn.nil w)
      · have HF := Lib.hid (sp_fine (vs := vs) (by rw [hs0, if_neg hn]))
        clear hs0
        (go_wp2_with fail; refine (l12Sum_any A n c vs w hr hm).mono ?_; rintro e w2 ⟨LA, lc, rfl, hK⟩; go_wp2_with fail; go_ret2; exact SPRet.fine HF.out hK)
end Go.Proofs.Ytkaaiocbiknipaa

namespace Go.Proofs.Ytkaaiocbiknipaa
open Go.RowKit Go.Sort
/-- a machine, a number, a code -/
def MSRet (M : Tri) (n c : Int) (w : World) (e : Ending) (w' : World) : Prop := ∃ A1 c1 A2 c2 A3 c3, e = .returned (.tuple #[.agg #[.int .i64 M.a.base, .slice A1 M.a.digits.length c1, .int .i64 M.b.base, .slice A2 M.b.digits.length c2, .int .i64 M.s.base, .slice A3 M.s.digits.length c3, .int .i64 M.carry], .int .i64 n, .int .i64 c]) ∧
  Kn w [rowI A3 c3 M.s.digits, rowI A2 c2 M.b.digits, rowI A1 c1 M.a.digits] w'
theorem MSRet.bad {w w' : World} {c : Int} (h : Kn w [] w') : MSRet zTri 0 c w (.returned (.tuple #[.agg #[.int .i64 0, .slice none 0 0, .int .i64 0, .slice none 0 0, .int .i64 0, .slice none 0 0, .int .i64 0], .int .i64 0, .int .i64 c])) w' :=
  ⟨none, 0, none, 0, none, 0, rfl, ((h.nilRow _ _).nilRow _ _).nilRow _ _⟩
noncomputable def soC (t : Tri) (vs : List Int) : Int := if vmach t = false then 1 else if spC vs = 0 then rpC (sumL vs) (clrT t) else spC vs
noncomputable def soM (t : Tri) (vs : List Int) : Tri := if vmach t = true ∧ spC vs = 0 then rpM (sumL vs) (clrT t) else zTri
noncomputable def soN (t : Tri) (vs : List Int) : Int := if vmach t = true ∧ spC vs = 0 then ((rpT (sumL vs) (clrT t)).length : Int) else 0
def SORet (t : Tri) (vs : List Int) (w : World) (e : Ending) (w' : World) : Prop := MSRet (soM t vs) (soN t vs) (soC t vs) w e w'
theorem so_bad {t : Tri} {vs : List Int} (h : vmach t = false) : soM t vs = zTri ∧ soN t vs = 0 ∧ soC t vs = 1 := by
  refine ⟨?_, ?_, ?_⟩
  · unfold soM; rw [if_neg (fun hh => by rw [h] at hh; exact absurd hh.1 (by decide))]
  · unfold soN; rw [if_neg (fun hh => by rw [h] at hh; exact absurd hh.1 (by decide))]
  · unfold soC; rw [if_pos h]
theorem so_bad2 {t : Tri} {vs : List Int} (h : vmach t = true) (h2 : ¬ spC vs = 0) : soM t vs = zTri ∧ soN t vs = 0 ∧ soC t vs = spC vs := by
  refine ⟨?_, ?_, ?_⟩
  · unfold soM; rw [if_neg (fun hh => h2 hh.2)]
  · unfold soN; rw [if_neg (fun hh => h2 hh.2)]
  · unfold soC; rw [if_neg (by rw [h]; decide), if_neg h2]
theorem so_fine {t : Tri} {vs : List Int} (h : vmach t = true) (h2 : spC vs = 0) : soM t vs = rpM (sumL vs) (clrT t) ∧ soN t vs = ((rpT (sumL vs) (clrT t)).length : Int) ∧ soC t vs = rpC (sumL vs) (clrT t) := by
  refine ⟨?_, ?_, ?_⟩
  · unfold soM; rw [if_pos ⟨h, h2⟩]
  · unfold soN; rw [if_pos ⟨h, h2⟩]
  · unfold soC; rw [if_neg (by rw [h]; decide), if_pos h2]
theorem soM_len (t : Tri) (vs : List Int) : (soM t vs).a.digits.length ≤ 16 ∧ (soM t vs).b.digits.length ≤ 16 ∧ (soM t vs).s.digits.length ≤ 16 := by
  unfold soM
  split
  · exact rpM_len _ _
  · exact ⟨by decide, by decide, by decide⟩
set_option maxRecDepth 100000 in
set_option maxHeartbeats 3200000 in
theorem SumOn_any (t : Tri) (A1 A2 A3 VA : Option Addr) (c1 c2 c3 n vc : Nat) (vs : List Int) (w : World) (r1 : RI w A1 t.a.digits.length t.a.digits) (r2 : RI w A2 t.b.digits.length t.b.digits) (r3 : RI w A3 t.s.digits.length t.s.digits) (hs : SmallTri t) (rv : RI w VA n vs) (hn : n ≤ 1048576) :
    Calls Try.prog 62 #[.agg #[.int .i64 t.a.base, .slice A1 t.a.digits.length c1, .int .i64 t.b.base, .slice A2 t.b.digits.length c2, .int .i64 t.s.base, .slice A3 t.s.digits.length c3, .int .i64 t.carry], .slice VA n vc] w (SORet t vs w) := by
  have KV := (fun W (hW : Below w.heap.size w W) => ValidMachine_any t A1 A2 A3 c1 c2 c3 W (r1.below hW) (r2.below hW) (r3.below hW) hs)
  rcases hv : vmach t with _ | _
  · rw [hv] at KV
    have HB := Lib.hid (so_bad (vs := vs) hv)
    have KV := Lib.hid KV
    clear hv r1 r2 r3 hs rv
    go_enter Try.func62, Try.ntmps62
    go_wp2_with fail
    refine Calls.kn (((Kn.nil w).al [.int .i64 t.a.base, .slice A1 t.a.digits.length c1, .int .i64 t.b.base, .slice A2 t.b.digits.length c2, .int .i64 t.s.base, .slice A3 t.s.digits.length c3, .int .i64 t.carry] 65).al [.int .i64 0, .slice none 0 0, .int .i64 0, .slice none 0 0, .int .i64 0, .slice none 0 0, .int .i64 0] 65) ?_; intro w1 hK0
    simp only [World.size_alloc] at hK0
    refine (KV.out _ hK0.below).mono ?_; rintro e w2 ⟨rfl, hw⟩
    have hK1 := hK0.keep hw
    obtain ⟨x1, x2, x3, -⟩ := hK1.cells
    go_wp2_with fail
    refine bodyPost.kn (((((((hK1.st 0 (.int .i64 0)).st 1 (.slice none 0 0)).st 2 (.int .i64 0)).st 3 (.slice none 0 0)).st 4 (.int .i64 0)).st 5 (.slice none 0 0)).st 6 (.int .i64 0)) ?_; intro w6 hK6
    clear x1 x2 x3
    obtain ⟨a1, a2, a3, -⟩ := hK6.cells
    refine bodyPost_ret (v := .tuple #[.agg #[.int .i64 0, .slice none 0 0, .int .i64 0, .slice none 0 0, .int .i64 0, .slice none 0 0, .int .i64 0], .int .i64 0, .int .i64 1]) (by simp [results, Try.results62, go_sem, a1]) rfl ?_
    unfold SORet
    rw [HB.out.1, HB.out.2.1, HB.out.2.2]
    exact MSRet.bad hK6.bare
  have KSP := (fun W (hW : Below w.heap.size w W) => SumProgram_any VA n vc vs W (rv.below hW) hn)
  rw [hv] at KV
  by_cases hc : spC vs = 0
  rotate_left
  · have hcb : (spC vs != 0) = true := by simpa using hc
    have HB := Lib.hid (so_bad2 hv hc)
    have KV := Lib.hid KV
    have KSP := Lib.hid KSP
    clear hv r1 r2 r3 hs rv hc
    go_enter Try.func62, Try.ntmps62
    go_wp2_with fail
    refine Calls.kn (((Kn.nil w).al [.int .i64 t.a.base, .slice A1 t.a.digits.length c1, .int .i64 t.b.base, .slice A2 t.b.digits.length c2, .int .i64 t.s.base, .slice A3 t.s.digits.length c3, .int .i64 t.carry] 65).al [.int .i64 0, .slice none 0 0, .int .i64 0, .slice none 0 0, .int .i64 0, .slice none 0 0, .int .i64 0] 65) ?_; intro w1 hK0
    simp only [World.size_alloc] at hK0
    refine (KV.out _ hK0.below).mono ?_; rintro e w2 ⟨rfl, hw⟩
    have hK1 := hK0.keep hw
    clear hK0 hw
    obtain ⟨a1, a2, a3, -⟩ := hK1.cells
    go_wp2_with fail
    refine (KSP.out _ hK1.below).mono ?_; rintro e w3 ⟨LA, lc, rfl, hKs⟩
    have hK1 := (hK1.join hKs).drop
    clear hKs a1 a2 a3
    obtain ⟨x1, x2, x3, -⟩ := hK1.cells
    go_wp2_with fail
    refine bodyPost.kn (((((((hK1.st 0 (.int .i64 0)).st 1 (.slice none 0 0)).st 2 (.int .i64 0)).st 3 (.slice none 0 0)).st 4 (.int .i64 0)).st 5 (.slice none 0 0)).st 6 (.int .i64 0)) ?_; intro w6 hK6
    clear x1 x2 x3
    obtain ⟨a1, a2, a3, -⟩ := hK6.cells
    refine bodyPost_ret (v := .tuple #[.agg #[.int .i64 0, .slice none 0 0, .int .i64 0, .slice none 0 0, .int .i64 0, .slice none 0 0, .int .i64 0], .int .i64 0, .int .i64 (spC vs)]) (by simp [results, Try.results62, go_sem, a1]) rfl ?_
    unfold SORet
    rw [HB.out.1, HB.out.2.1, HB.out.2.2]
    exact MSRet.bad hK6.bare
  obtain ⟨k1, k2, k3, e1, e2, f1, f2, l1, p0, p1⟩ := vmach_all hv
  obtain ⟨⟨b1, b2⟩, ⟨n1, n2⟩, -⟩ := vreg_iff.1 k1
  obtain ⟨⟨b3, b4⟩, ⟨n3, n4⟩, -⟩ := vreg_iff.1 k2
  obtain ⟨⟨b5, b6⟩, ⟨n5, n6⟩, -⟩ := vreg_iff.1 k3
  have hlen : (sumL vs).length ≤ 9223372036854775807 := by rw [sumL_len]; have := rv.1; omega
  have KC := (fun W => clearedM_any t A1 A2 A3 c1 c2 c3 W ⟨b1, b2⟩ ⟨b3, b4⟩ ⟨b5, b6⟩ (sized_of hv))
  simp only [digD_len, rowI] at KC
  have KRP := (fun (LA : Option Addr) (lc : Nat) (E1 E2 E3 : Option Addr) (g1 g2 g3 : Nat) W q1 q2 q3 hq => RunProgram_any (lc := lc) (LA := LA) (n := (sumL vs).length) (L := sumL vs) (clrT t) E1 E2 E3 g1 g2 g3 W q1 q2 q3 (by simp only [SmallTri, SmallReg, clrT, digD_len]; exact hs) hq hlen)
  unfold RPRet at KRP
  have HB := so_fine hv hc
  obtain ⟨RM, hRM⟩ : ∃ m, rpM (sumL vs) (clrT t) = m := ⟨_, rfl⟩
  obtain ⟨RN, hRN⟩ : ∃ m, ((rpT (sumL vs) (clrT t)).length : Int) = m := ⟨_, rfl⟩
  obtain ⟨RC, hRC⟩ : ∃ m, rpC (sumL vs) (clrT t) = m := ⟨_, rfl⟩
  rw [hRM, hRN, hRC] at HB
  simp only [hRM, hRN, hRC] at KRP
  clear hRM hRN hRC
  simp only [clrT, digD_len] at KRP
  obtain ⟨xs, hxs⟩ : ∃ l, digD t.a.base t.a.digits.length 0 = l := ⟨_, rfl⟩
  obtain ⟨ys, hys⟩ : ∃ l, digD t.b.base t.b.digits.length 0 = l := ⟨_, rfl⟩
  obtain ⟨zs, hzs⟩ : ∃ l, digD t.s.base t.s.digits.length 0 = l := ⟨_, rfl⟩
  obtain ⟨LL, hLL⟩ : ∃ l, sumL vs = l := ⟨_, rfl⟩
  rw [hxs, hys, hzs, hLL] at KRP
  rw [hxs, hys, hzs] at KC
  unfold SPRet at KSP
  rw [hc, (sp_fine hc).2, hLL] at KSP
  have HB := Lib.hid HB
  have KRP := Lib.hid KRP
  have KC := Lib.hid KC
  have KSP := Lib.hid KSP
  have KV := Lib.hid KV
  clear hv r1 r2 r3 hs rv hc k1 k2 k3 e1 e2 f1 f2 l1 p0 p1 hxs hys hzs hLL hlen
  go_enter Try.func62, Try.ntmps62
  go_wp2_with fail
  refine Calls.kn (((Kn.nil w).al [.int .i64 t.a.base, .slice A1 t.a.digits.length c1, .int .i64 t.b.base, .slice A2 t.b.digits.length c2, .int .i64 t.s.base, .slice A3 t.s.digits.length c3, .int .i64 t.carry] 65).al [.int .i64 0, .slice none 0 0, .int .i64 0, .slice none 0 0, .int .i64 0, .slice none 0 0, .int .i64 0] 65) ?_; intro w1 hK0
  simp only [World.size_alloc] at hK0
  refine (KV.out _ hK0.below).mono ?_; rintro e w2 ⟨rfl, hw⟩
  have hK1 := hK0.keep hw
  clear hK0 hw
  obtain ⟨a1, a2, a3, a4, a5, a6, -⟩ := hK1.cells
  go_wp2_with fail
  refine (KSP.out _ hK1.below).mono ?_; rintro e w3 ⟨LA, lc, rfl, hKs⟩
  have hK2 : Kn w [rowIns (.slice LA LL.length lc) LL, .blk (w.heap.size + 1) [.int .i64 0, .slice none 0 0, .int .i64 0, .slice none 0 0, .int .i64 0, .slice none 0 0, .int .i64 0] 65, .blk w.heap.size [.int .i64 t.a.base, .slice A1 t.a.digits.length c1, .int .i64 t.b.base, .slice A2 t.b.digits.length c2, .int .i64 t.s.base, .slice A3 t.s.digits.length c3, .int .i64 t.carry] 65] w3 := hK1.join hKs
  clear hK1 hKs a1 a2 a3 a4 a5 a6
  obtain ⟨a1, a2, a3, a4, a5, a6, -⟩ := hK2.cells
  go_wp2_with fail
  refine (KC.out _).mono ?_; rintro e w4 ⟨E1, g1, E2, g2, E3, g3, rfl, hKc⟩
  have hK3 : Kn w [rowN E3 t.s.digits.length g3 zs, rowN E2 t.b.digits.length g2 ys, rowN E1 t.a.digits.length g1 xs, rowIns (.slice LA LL.length lc) LL, .blk (w.heap.size + 1) [.int .i64 0, .slice none 0 0, .int .i64 0, .slice none 0 0, .int .i64 0, .slice none 0 0, .int .i64 0] 65, .blk w.heap.size [.int .i64 t.a.base, .slice A1 t.a.digits.length c1, .int .i64 t.b.base, .slice A2 t.b.digits.length c2, .int .i64 t.s.base, .slice A3 t.s.digits.length c3, .int .i64 t.carry] 65] w4 := hK2.join hKc
  clear hK2 hKc a1 a2 a3 a4 a5 a6
  go_wp2_with fail
  refine (KRP.out _ _ _ _ _ _ _ _ _ (Kn.riN (hK3.sel [2] 99 (by decide) (by decide))) (Kn.riN (hK3.sel [1] 99 (by decide) (by decide))) (Kn.riN hK3) (Kn.rlIns (hK3.sel [3] 99 (by decide) (by decide))).2).mono ?_; rintro e w9 ⟨B1, d1, B2, d2, B3, d3, rfl, hKr⟩
  have hK10 : Kn w [.blk (w.heap.size + 1) [.int .i64 0, .slice none 0 0, .int .i64 0, .slice none 0 0, .int .i64 0, .slice none 0 0, .int .i64 0] 65, rowI B3 d3 RM.s.digits, rowI B2 d2 RM.b.digits, rowI B1 d1 RM.a.digits] w9 := (hK3.join hKr).sel [7, 0, 1, 2] 99 (by decide) (by decide)
  clear hK3 hKr
  obtain ⟨a1, a2, a3, -⟩ := hK10.cells
  go_wp2_with fail
  refine bodyPost.kn (((((((hK10.st 0 (.int .i64 RM.a.base)).st 1 (.slice B1 RM.a.digits.length d1)).st 2 (.int .i64 RM.b.base)).st 3 (.slice B2 RM.b.digits.length d2)).st 4 (.int .i64 RM.s.base)).st 5 (.slice B3 RM.s.digits.length d3)).st 6 (.int .i64 RM.carry)) ?_; intro w11 hK11
  clear a1 a2 a3
  obtain ⟨a1, a2, a3, -⟩ := hK11.cells
  refine bodyPost_ret (v := .tuple #[.agg #[.int .i64 RM.a.base, .slice B1 RM.a.digits.length d1, .int .i64 RM.b.base, .slice B2 RM.b.digits.length d2, .int .i64 RM.s.base, .slice B3 RM.s.digits.length d3, .int .i64 RM.carry], .int .i64 RN, .int .i64 RC]) (by simp [results, Try.results62, go_sem, a1]) rfl ?_
  unfold SORet
  rw [HB.out.1, HB.out.2.1, HB.out.2.2]
  exact ⟨B1, d1, B2, d2, B3, d3, rfl, hK11.drop⟩
set_option maxRecDepth 100000 in
set_option maxHeartbeats 3200000 in
theorem specSumOn_any (t : Tri) (A1 A2 A3 VA : Option Addr) (c1 c2 c3 n vc : Nat) (vs : List Int) (w : World) (r1 : RI w A1 t.a.digits.length t.a.digits) (r2 : RI w A2 t.b.digits.length t.b.digits) (r3 : RI w A3 t.s.digits.length t.s.digits) (hs : SmallTri t) (rv : RI w VA n vs) (hn : n ≤ 1048576) :
    Calls Try.prog 60 #[.agg #[.int .i64 t.a.base, .slice A1 t.a.digits.length c1, .int .i64 t.b.base, .slice A2 t.b.digits.length c2, .int .i64 t.s.base, .slice A3 t.s.digits.length c3, .int .i64 t.carry], .slice VA n vc] w (SORet t vs w) := by
  have hTC : ∀ W, Kn w [.blk (w.heap.size + 1) [.int .i64 0, .slice none 0 0, .int .i64 0, .slice none 0 0, .int .i64 0, .slice none 0 0, .int .i64 0] 65, .blk w.heap.size [.int .i64 t.a.base, .slice A1 t.a.digits.length c1, .int .i64 t.b.base, .slice A2 t.b.digits.length c2, .int .i64 t.s.base, .slice A3 t.s.digits.length c3, .int .i64 t.carry] 65] W → TriC W ⟨w.heap.size, 0, none⟩ t A1 c1 A2 c2 A3 c3 := fun W h => ⟨⟨h.drop.blkAt.1 0, h.drop.blkAt.1 1, h.drop.blkAt.1 2, h.drop.blkAt.1 3, h.drop.blkAt.1 4, h.drop.blkAt.1 5, h.drop.blkAt.1 6⟩, r1.below h.below, r2.below h.below, r3.below h.below⟩
  have KV := (fun W (hW : Kn w [.blk (w.heap.size + 1) [.int .i64 0, .slice none 0 0, .int .i64 0, .slice none 0 0, .int .i64 0, .slice none 0 0, .int .i64 0] 65, .blk w.heap.size [.int .i64 t.a.base, .slice A1 t.a.digits.length c1, .int .i64 t.b.base, .slice A2 t.b.digits.length c2, .int .i64 t.s.base, .slice A3 t.s.digits.length c3, .int .i64 t.carry] 65] W) => l10Ok_any ⟨w.heap.size, 0, none⟩ t W (hTC W hW).tri hs)
  rcases hv : vmach t with _ | _
  · rw [hv] at KV
    have HB := Lib.hid (so_bad (vs := vs) hv)
    have KV := Lib.hid KV
    clear hv r1 r2 r3 hs rv hTC
    go_enter Try.func60, Try.ntmps60
    go_wp2_with fail
    refine Calls.kn (((Kn.nil w).al [.int .i64 t.a.base, .slice A1 t.a.digits.length c1, .int .i64 t.b.base, .slice A2 t.b.digits.length c2, .int .i64 t.s.base, .slice A3 t.s.digits.length c3, .int .i64 t.carry] 65).al [.int .i64 0, .slice none 0 0, .int .i64 0, .slice none 0 0, .int .i64 0, .slice none 0 0, .int .i64 0] 65) ?_; intro w1 hK0
    simp only [World.size_alloc] at hK0
    refine (KV.out _ hK0).mono ?_; rintro e w2 ⟨rfl, q, rfl⟩
    have hK1 := hK0.drewN q
    generalize w1.drewN q = w3 at hK1 ⊢
    obtain ⟨x1, x2, x3, -⟩ := hK1.cells
    go_wp2_with fail
    refine bodyPost.kn (((((((hK1.st 0 (.int .i64 0)).st 1 (.slice none 0 0)).st 2 (.int .i64 0)).st 3 (.slice none 0 0)).st 4 (.int .i64 0)).st 5 (.slice none 0 0)).st 6 (.int .i64 0)) ?_; intro w6 hK6
    clear x1 x2 x3
    obtain ⟨a1, a2, a3, -⟩ := hK6.cells
    refine bodyPost_ret (v := .tuple #[.agg #[.int .i64 0, .slice none 0 0, .int .i64 0, .slice none 0 0, .int .i64 0, .slice none 0 0, .int .i64 0], .int .i64 0, .int .i64 1]) (by simp [results, Try.results60, go_sem, a1]) rfl ?_
    unfold SORet
    rw [HB.out.1, HB.out.2.1, HB.out.2.2]
    exact MSRet.bad hK6.bare
  have KSP := (fun W (hW : Below w.heap.size w W) => specSumProgram_any VA n vc vs W (rv.below hW) hn)
  rw [hv] at KV
  by_cases hc : spC vs = 0
  rotate_left
  · have hcb : (spC vs != 0) = true := by simpa using hc
    have HB := Lib.hid (so_bad2 hv hc)
    have KV := Lib.hid KV
    have KSP := Lib.hid KSP
    clear hv r1 r2 r3 hs rv hc hTC
    go_enter Try.func60, Try.ntmps60
    go_wp2_with fail
    refine Calls.kn (((Kn.nil w).al [.int .i64 t.a.base, .slice A1 t.a.digits.length c1, .int .i64 t.b.base, .slice A2 t.b.digits.length c2, .int .i64 t.s.base, .slice A3 t.s.digits.length c3, .int .i64 t.carry] 65).al [.int .i64 0, .slice none 0 0, .int .i64 0, .slice none 0 0, .int .i64 0, .slice none 0 0, .int .i64 0] 65) ?_; intro w1 hK0
    simp only [World.size_alloc] at hK0
    refine (KV.out _ hK0).mono ?_; rintro e w2 ⟨rfl, q, rfl⟩
    have hK1 := hK0.drewN q
    generalize w1.drewN q = w3 at hK1 ⊢
    clear hK0
    go_wp2_with fail
    refine (KSP.out _ hK1.below).mono ?_; rintro e w4 ⟨LA, lc, rfl, hKs⟩
    have hK1 := (hK1.join hKs).drop
    clear hKs
    obtain ⟨x1, x2, x3, -⟩ := hK1.cells
    go_wp2_with fail
    refine bodyPost.kn (((((((hK1.st 0 (.int .i64 0)).st 1 (.slice none 0 0)).st 2 (.int .i64 0)).st 3 (.slice none 0 0)).st 4 (.int .i64 0)).st 5 (.slice none 0 0)).st 6 (.int .i64 0)) ?_; intro w6 hK6
    clear x1 x2 x3
    obtain ⟨a1, a2, a3, -⟩ := hK6.cells
    refine bodyPost_ret (v := .tuple #[.agg #[.int .i64 0, .slice none 0 0, .int .i64 0, .slice none 0 0, .int .i64 0, .slice none 0 0, .int .i64 0], .int .i64 0, .int .i64 (spC vs)]) (by simp [results, Try.results60, go_sem, a1]) rfl ?_
    unfold SORet
    rw [HB.out.1, HB.out.2.1, HB.out.2.2]
    exact MSRet.bad hK6.bare
  obtain ⟨k1, k2, k3, e1, e2, f1, f2, l1, p0, p1⟩ := vmach_all hv
  obtain ⟨⟨b1, b2⟩, ⟨n1, n2⟩, -⟩ := vreg_iff.1 k1
  obtain ⟨⟨b3, b4⟩, ⟨n3, n4⟩, -⟩ := vreg_iff.1 k2
  obtain ⟨⟨b5, b6⟩, ⟨n5, n6⟩, -⟩ := vreg_iff.1 k3
  have hlen : (sumL vs).length ≤ 9223372036854775807 := by rw [sumL_len]; have := rv.1; omega
  have KC : ∀ W, W.cell? ⟨w.heap.size, 0, none⟩ = some (.int .i64 t.a.base) → W.cell? ⟨w.heap.size, 1, none⟩ = some (.slice A1 t.a.digits.length c1) → W.cell? ⟨w.heap.size, 3, none⟩ = some (.slice A2 t.b.digits.length c2) → W.cell? ⟨w.heap.size, 5, none⟩ = some (.slice A3 t.s.digits.length c3) → Calls Try.prog 121 #[.pointer (some ⟨w.heap.size, 0, none⟩), .int .i64 0] W fun e w' => ∃ E1 g1 E2 g2 E3 g3, e = .returned (.agg #[.int .i64 t.a.base, .slice E1 (digD t.a.base t.a.digits.length 0).length g1, .int .i64 t.b.base, .slice E2 (digD t.b.base t.b.digits.length 0).length g2, .int .i64 t.s.base, .slice E3 (digD t.s.base t.s.digits.length 0).length g3, .int .i64 0]) ∧
      Kn W [rowI E3 g3 (digD t.s.base t.s.digits.length 0), rowI E2 g2 (digD t.b.base t.b.digits.length 0), rowI E1 g1 (digD t.a.base t.a.digits.length 0)] w' := by
    intro W q1 q2 q3 q4
    have := l12Fresh_any w.heap.size t.a.base A1 A2 A3 t.a.digits.length t.b.digits.length t.s.digits.length c1 c2 c3 0 W q1 q2 q3 q4 b1 b2 (by omega) (by omega) (by omega) (by decide) (by decide)
    rw [e2, ← e1]
    exact this
  simp only [digD_len, rowI] at KC
  have KRP := (fun (LA : Option Addr) (lc : Nat) (E1 E2 E3 : Option Addr) (g1 g2 g3 : Nat) W q1 q2 q3 hq => specRunProgram_any (lc := lc) (LA := LA) (n := (sumL vs).length) (L := sumL vs) (clrT t) E1 E2 E3 g1 g2 g3 W q1 q2 q3 (by simp only [SmallTri, SmallReg, clrT, digD_len]; exact hs) hq hlen)
  unfold RPRet at KRP
  have HB := so_fine hv hc
  obtain ⟨RM, hRM⟩ : ∃ m, rpM (sumL vs) (clrT t) = m := ⟨_, rfl⟩
  obtain ⟨RN, hRN⟩ : ∃ m, ((rpT (sumL vs) (clrT t)).length : Int) = m := ⟨_, rfl⟩
  obtain ⟨RC, hRC⟩ : ∃ m, rpC (sumL vs) (clrT t) = m := ⟨_, rfl⟩
  rw [hRM, hRN, hRC] at HB
  simp only [hRM, hRN, hRC] at KRP
  clear hRM hRN hRC
  simp only [clrT, digD_len] at KRP
  obtain ⟨xs, hxs⟩ : ∃ l, digD t.a.base t.a.digits.length 0 = l := ⟨_, rfl⟩
  obtain ⟨ys, hys⟩ : ∃ l, digD t.b.base t.b.digits.length 0 = l := ⟨_, rfl⟩
  obtain ⟨zs, hzs⟩ : ∃ l, digD t.s.base t.s.digits.length 0 = l := ⟨_, rfl⟩
  obtain ⟨LL, hLL⟩ : ∃ l, sumL vs = l := ⟨_, rfl⟩
  rw [hxs, hys, hzs, hLL] at KRP
  rw [hxs, hys, hzs] at KC
  unfold SPRet at KSP
  rw [hc, (sp_fine hc).2, hLL] at KSP
  have HB := Lib.hid HB
  have KRP := Lib.hid KRP
  have KC := Lib.hid KC
  have KSP := Lib.hid KSP
  have KV := Lib.hid KV
  clear hv r1 r2 r3 hs rv hc k1 k2 k3 e1 e2 f1 f2 l1 p0 p1 hxs hys hzs hLL hlen hTC
  go_enter Try.func60, Try.ntmps60
  go_wp2_with fail
  refine Calls.kn (((Kn.nil w).al [.int .i64 t.a.base, .slice A1 t.a.digits.length c1, .int .i64 t.b.base, .slice A2 t.b.digits.length c2, .int .i64 t.s.base, .slice A3 t.s.digits.length c3, .int .i64 t.carry] 65).al [.int .i64 0, .slice none 0 0, .int .i64 0, .slice none 0 0, .int .i64 0, .slice none 0 0, .int .i64 0] 65) ?_; intro w1 hK0
  simp only [World.size_alloc] at hK0
  refine (KV.out _ hK0).mono ?_; rintro e w2 ⟨rfl, q, rfl⟩
  have hK1 := hK0.drewN q
  generalize w1.drewN q = w2 at hK1 ⊢
  clear hK0
  go_wp2_with fail
  refine (KSP.out _ hK1.below).mono ?_; rintro e w3 ⟨LA, lc, rfl, hKs⟩
  have hK2 : Kn w [rowIns (.slice LA LL.length lc) LL, .blk (w.heap.size + 1) [.int .i64 0, .slice none 0 0, .int .i64 0, .slice none 0 0, .int .i64 0, .slice none 0 0, .int .i64 0] 65, .blk w.heap.size [.int .i64 t.a.base, .slice A1 t.a.digits.length c1, .int .i64 t.b.base, .slice A2 t.b.digits.length c2, .int .i64 t.s.base, .slice A3 t.s.digits.length c3, .int .i64 t.carry] 65] w3 := hK1.join hKs
  clear hK1 hKs
  go_wp2_with fail
  have hKb := hK2.drop.drop.blkAt.1
  refine (KC.out _ (hKb 0) (hKb 1) (hKb 3) (hKb 5)).mono ?_; rintro e w4 ⟨E1, g1, E2, g2, E3, g3, rfl, hKc⟩
  have hK3 : Kn w [rowN E3 t.s.digits.length g3 zs, rowN E2 t.b.digits.length g2 ys, rowN E1 t.a.digits.length g1 xs, rowIns (.slice LA LL.length lc) LL, .blk (w.heap.size + 1) [.int .i64 0, .slice none 0 0, .int .i64 0, .slice none 0 0, .int .i64 0, .slice none 0 0, .int .i64 0] 65, .blk w.heap.size [.int .i64 t.a.base, .slice A1 t.a.digits.length c1, .int .i64 t.b.base, .slice A2 t.b.digits.length c2, .int .i64 t.s.base, .slice A3 t.s.digits.length c3, .int .i64 t.carry] 65] w4 := hK2.join hKc
  clear hK2 hKc hKb
  go_wp2_with fail
  refine Calls.kn (hK3.al [.int .i64 t.a.base, .slice E1 t.a.digits.length g1, .int .i64 t.b.base, .slice E2 t.b.digits.length g2, .int .i64 t.s.base, .slice E3 t.s.digits.length g3, .int .i64 0] 65) ?_; intro w5 hK5
  refine (KRP.out _ _ _ _ _ _ _ _ _ (Kn.riN (hK5.sel [3] 99 (by decide) (by decide))) (Kn.riN (hK5.sel [2] 99 (by decide) (by decide))) (Kn.riN (hK5.sel [1] 99 (by decide) (by decide))) (Kn.rlIns (hK5.sel [4] 99 (by decide) (by decide))).2).mono ?_; rintro e w9 ⟨B1, d1, B2, d2, B3, d3, rfl, hKr⟩
  have hK10 : Kn w [.blk (w.heap.size + 1) [.int .i64 0, .slice none 0 0, .int .i64 0, .slice none 0 0, .int .i64 0, .slice none 0 0, .int .i64 0] 65, rowI B3 d3 RM.s.digits, rowI B2 d2 RM.b.digits, rowI B1 d1 RM.a.digits] w9 := (hK5.join hKr).sel [8, 0, 1, 2] 99 (by decide) (by decide)
  clear hK3 hK5 hKr
  obtain ⟨a1, a2, a3, -⟩ := hK10.cells
  go_wp2_with fail
  refine bodyPost.kn (((((((hK10.st 0 (.int .i64 RM.a.base)).st 1 (.slice B1 RM.a.digits.length d1)).st 2 (.int .i64 RM.b.base)).st 3 (.slice B2 RM.b.digits.length d2)).st 4 (.int .i64 RM.s.base)).st 5 (.slice B3 RM.s.digits.length d3)).st 6 (.int .i64 RM.carry)) ?_; intro w11 hK11
  clear a1 a2 a3
  obtain ⟨a1, a2, a3, -⟩ := hK11.cells
  refine bodyPost_ret (v := .tuple #[.agg #[.int .i64 RM.a.base, .slice B1 RM.a.digits.length d1, .int .i64 RM.b.base, .slice B2 RM.b.digits.length d2, .int .i64 RM.s.base, .slice B3 RM.s.digits.length d3, .int .i64 RM.carry], .int .i64 RN, .int .i64 RC]) (by simp [results, Try.results60, go_sem, a1]) rfl ?_
  unfold SORet
  rw [HB.out.1, HB.out.2.1, HB.out.2.2]
  exact ⟨B1, d1, B2, d2, B3, d3, rfl, hK11.drop⟩
end Go.Proofs.Ytkaaiocbiknipaa

namespace Go.Proofs.Ytkaaiocbiknipaa
open Go.RowKit Go.Sort
set_option maxRecDepth 100000 in
set_option maxHeartbeats 6400000 in
theorem law_SumOn (b1 b2 b3 cy : Int) (A1 A2 A3 : Option Addr) (n1 n2 n3 c1 c2 c3 : Nat) (d1 d2 d3 : List Int) (VA : Option Addr) (vn vc : Nat) (V : List Int) (w : World) (r1 : RI w A1 n1 d1) (r2 : RI w A2 n2 d2) (r3 : RI w A3 n3 d3) (m1 : n1 ≤ 9223372036854775807) (m2 : n2 ≤ 9223372036854775807) (m3 : n3 ≤ 9223372036854775807) (hv : RI w VA vn V) (hvn : vn ≤ 9223372036854775807) :
    Calls Try.prog 8 #[.agg #[.int .i64 b1, .slice A1 n1 c1, .int .i64 b2, .slice A2 n2 c2, .int .i64 b3, .slice A3 n3 c3, .int .i64 cy], .slice VA vn vc] w fun e w' => e = .returned (.bool true) ∧ Below w.heap.size w w' := by
  have hB0 := (Kn.nil w).al [.int .i64 b1, .slice A1 n1 c1, .int .i64 b2, .slice A2 n2 c2, .int .i64 b3, .slice A3 n3 c3, .int .i64 cy] 60
  have HID0 := True.intro
  by_cases hvl : 1048576 < vn
  · have hvi : (1048576 : Int) < (vn : Int) := by omega
    go_enter Try.func8, Try.ntmps8
    go_wp2_with fail
    go_ret
    exact ⟨rfl, hB0.below⟩
  have hvi : ¬ (1048576 : Int) < (vn : Int) := by omega
  obtain ⟨v1, v2⟩ := lf3_lo n1 n2 n3 (by omega) (by omega) (by omega)
  by_cases hneg : lft3 1048576 n1 n2 n3 < 0
  · go_enter Try.func8, Try.ntmps8
    go_wp2_with fail
    refine Calls.kn hB0 ?_; intro w1 hK
    refine (szMachine_any b1 b2 b3 cy A1 A2 A3 _ _ _ c1 c2 c3 1048576 _ (by omega) (by omega) m1 m2 m3).mono ?_; rintro e w2 ⟨rfl, hw⟩
    have hK := hK.keep hw
    go_wp2_with fail
    go_ret
    exact ⟨rfl, hK.below⟩
  obtain ⟨s1, s2, s3⟩ := lf3_small (by omega) (by omega) (by omega) hneg
  have hl0 : 0 ≤ lft3 1048576 n1 n2 n3 := by omega
  have hl1 : lft3 1048576 n1 n2 n3 ≤ 1048576 := by omega
  obtain rfl : d1.length = n1 := r1.1
  obtain rfl : d2.length = n2 := r2.1
  obtain rfl : d3.length = n3 := r3.1
  have hsm : SmallTri ⟨⟨b1, d1⟩, ⟨b2, d2⟩, ⟨b3, d3⟩, cy⟩ := by unfold SmallTri SmallReg; simp only; omega
  have TM := Lib.hid (fun W (hW : Below w.heap.size w W) => toMachine_kn b1 b2 b3 cy A1 A2 A3 _ _ _ c1 c2 c3 d1 d2 d3 W (r1.below hW) (r2.below hW) (r3.below hW) (by omega) (by omega) (by omega))
  obtain ⟨mk, hmk⟩ : ∃ mk : Int, (1 : Int) + d1.length + d2.length + d3.length = mk := ⟨_, rfl⟩
  have hmk0 : ¬ mk < 0 := by omega
  have hmk1 : 0 ≤ mk ∧ mk ≤ 4000000 := by omega
  have HMK := Lib.hid hmk
  have TV := Lib.hid (fun W (hW : Below w.heap.size w W) => toInt64S_kn VA vn vc V W (hv.below hW) (by omega))
  have HVL := Lib.hid hv.1
  have KS := (fun (X1 : Option Addr) (x1 : Nat) (X2 : Option Addr) (x2 : Nat) (X3 : Option Addr) (x3 : Nat) (VX : Option Addr) (vx : Nat) W h1 h2 h3 hq => specSumOn_any ⟨⟨b1, d1⟩, ⟨b2, d2⟩, ⟨b3, d3⟩, cy⟩ X1 X2 X3 VX x1 x2 x3 vn vx V W h1 h2 h3 hsm hq (by omega))
  have KI := (fun (X1 : Option Addr) (x1 : Nat) (X2 : Option Addr) (x2 : Nat) (X3 : Option Addr) (x3 : Nat) (VX : Option Addr) (vx : Nat) W h1 h2 h3 hq => SumOn_any ⟨⟨b1, d1⟩, ⟨b2, d2⟩, ⟨b3, d3⟩, cy⟩ X1 X2 X3 VX x1 x2 x3 vn vx V W h1 h2 h3 hsm hq (by omega))
  unfold SORet MSRet at KS KI
  obtain ⟨l1, l2, l3⟩ := soM_len ⟨⟨b1, d1⟩, ⟨b2, d2⟩, ⟨b3, d3⟩, cy⟩ V
  obtain ⟨RT, hRT⟩ : ∃ x : Tri, soM ⟨⟨b1, d1⟩, ⟨b2, d2⟩, ⟨b3, d3⟩, cy⟩ V = x := ⟨_, rfl⟩
  rw [hRT] at KS KI l1 l2 l3
  clear hRT
  obtain ⟨e1, he1⟩ : ∃ d, RT.a.digits = d := ⟨_, rfl⟩
  obtain ⟨e2, he2⟩ : ∃ d, RT.b.digits = d := ⟨_, rfl⟩
  obtain ⟨e3, he3⟩ : ∃ d, RT.s.digits = d := ⟨_, rfl⟩
  rw [he1, he2, he3] at KS KI
  rw [he1] at l1
  rw [he2] at l2
  rw [he3] at l3
  obtain ⟨k1, hk1⟩ : ∃ n, e1.length = n := ⟨_, rfl⟩
  obtain ⟨k2, hk2⟩ : ∃ n, e2.length = n := ⟨_, rfl⟩
  obtain ⟨k3, hk3⟩ : ∃ n, e3.length = n := ⟨_, rfl⟩
  unfold rowI at KI KS
  rw [hk1, hk2, hk3] at KI KS
  rw [hk1] at l1
  rw [hk2] at l2
  rw [hk3] at l3
  clear he1 he2 he3 hk1 hk2 hk3
  obtain ⟨rk, hrk⟩ : ∃ rk : Int, (1 : Int) + k1 + k2 + k3 = rk := ⟨_, rfl⟩
  have hrk0 : ¬ rk < 0 := by omega
  have HRK := Lib.hid hrk
  clear hrk
  obtain ⟨RI1, hRI1⟩ : ∃ x, soN ⟨⟨b1, d1⟩, ⟨b2, d2⟩, ⟨b3, d3⟩, cy⟩ V = x := ⟨_, rfl⟩
  rw [hRI1] at KS KI
  clear hRI1
  obtain ⟨RI2, hRI2⟩ : ∃ x, soC ⟨⟨b1, d1⟩, ⟨b2, d2⟩, ⟨b3, d3⟩, cy⟩ V = x := ⟨_, rfl⟩
  rw [hRI2] at KS KI
  clear hRI2
  have KS := Lib.hid KS
  have KI := Lib.hid KI
  clear hmk r1 r2 r3 hv
  go_enter Try.func8, Try.ntmps8
  go_wp2_with fail
  refine Calls.kn hB0 ?_; intro w1 hK
  refine (szMachine_any b1 b2 b3 cy A1 A2 A3 _ _ _ c1 c2 c3 1048576 _ (by omega) (by omega) m1 m2 m3).mono ?_; rintro e w2 ⟨rfl, hw⟩
  have hK := hK.keep hw
  clear hB0
  have hK : Kn w [.blk w.heap.size [.int .i64 b1, .slice A1 d1.length c1, .int .i64 b2, .slice A2 d2.length c2, .int .i64 b3, .slice A3 d3.length c3, .int .i64 cy] 60] w2 := hK
  obtain ⟨q0, p0, o0, -⟩ := hK.cells
  go_wp2_with fail
  clear q0 p0 o0
  refine (TM.out _ hK.below).mono ?_; rintro e w4 ⟨X11, x11, X12, x12, X13, x13, rfl, hKn⟩
  have hK : Kn w [rowN X13 d3.length x13 d3, rowN X12 d2.length x12 d2, rowN X11 d1.length x11 d1, .blk w.heap.size [.int .i64 b1, .slice A1 d1.length c1, .int .i64 b2, .slice A2 d2.length c2, .int .i64 b3, .slice A3 d3.length c3, .int .i64 cy] 60] w4 := hK.join hKn
  clear hKn
  obtain ⟨q0, p0, o0, -⟩ := hK.cells
  go_wp2_with fail
  clear q0 p0 o0
  refine (TV.out _ hK.below).mono ?_; rintro e w5 ⟨X2, x2, rfl, hKn⟩
  have hK : Kn w [rowN X2 vn x2 V, rowN X13 d3.length x13 d3, rowN X12 d2.length x12 d2, rowN X11 d1.length x11 d1, .blk w.heap.size [.int .i64 b1, .slice A1 d1.length c1, .int .i64 b2, .slice A2 d2.length c2, .int .i64 b3, .slice A3 d3.length c3, .int .i64 cy] 60] w5 := hK.join hKn
  clear hKn
  obtain ⟨q0, p0, o0, -⟩ := hK.cells
  go_wp2_with fail
  clear q0 p0 o0
  refine (KS.out X11 x11 X12 x12 X13 x13 X2 x2 _ (Kn.riN (hK.sel [3] 99 (by decide) (by decide))) (Kn.riN (hK.sel [2] 99 (by decide) (by decide))) (Kn.riN (hK.sel [1] 99 (by decide) (by decide))) (Kn.riN (hK.sel [0] 99 (by decide) (by decide)))).mono ?_; rintro e w6 ⟨S1, s1, S2, s2, S3, s3, rfl, hKn⟩
  have hK : Kn w [rowN S3 k3 s3 e3, rowN S2 k2 s2 e2, rowN S1 k1 s1 e1, rowN X2 vn x2 V, rowN X13 d3.length x13 d3, rowN X12 d2.length x12 d2, rowN X11 d1.length x11 d1, .blk w.heap.size [.int .i64 b1, .slice A1 d1.length c1, .int .i64 b2, .slice A2 d2.length c2, .int .i64 b3, .slice A3 d3.length c3, .int .i64 cy] 60] w6 := hK.join hKn
  clear hKn
  obtain ⟨q0, p0, o0, -⟩ := hK.cells
  go_wp2_with fail
  have hK' := (hK.al [.int .i64 RT.a.base, .slice S1 k1 s1, .int .i64 RT.b.base, .slice S2 k2 s2, .int .i64 RT.s.base, .slice S3 k3 s3, .int .i64 RT.carry] 65)
  refine Calls.kn hK' ?_; clear hK'; intro w7 hK'
  clear q0 p0 o0
  have hK : Kn w [.blk w6.heap.size [.int .i64 RT.a.base, .slice S1 k1 s1, .int .i64 RT.b.base, .slice S2 k2 s2, .int .i64 RT.s.base, .slice S3 k3 s3, .int .i64 RT.carry] 65, rowN S3 k3 s3 e3, rowN S2 k2 s2 e2, rowN S1 k1 s1 e1, rowN X2 vn x2 V, rowN X13 d3.length x13 d3, rowN X12 d2.length x12 d2, rowN X11 d1.length x11 d1, .blk w.heap.size [.int .i64 b1, .slice A1 d1.length c1, .int .i64 b2, .slice A2 d2.length c2, .int .i64 b3, .slice A3 d3.length c3, .int .i64 cy] 60] w7 := hK'
  clear hK'
  refine (TM.out _ hK.below).mono ?_; rintro e w8 ⟨X31, x31, X32, x32, X33, x33, rfl, hKn⟩
  have hK : Kn w [rowN X33 d3.length x33 d3, rowN X32 d2.length x32 d2, rowN X31 d1.length x31 d1, .blk w6.heap.size [.int .i64 RT.a.base, .slice S1 k1 s1, .int .i64 RT.b.base, .slice S2 k2 s2, .int .i64 RT.s.base, .slice S3 k3 s3, .int .i64 RT.carry] 65, rowN S3 k3 s3 e3, rowN S2 k2 s2 e2, rowN S1 k1 s1 e1, rowN X2 vn x2 V, rowN X13 d3.length x13 d3, rowN X12 d2.length x12 d2, rowN X11 d1.length x11 d1, .blk w.heap.size [.int .i64 b1, .slice A1 d1.length c1, .int .i64 b2, .slice A2 d2.length c2, .int .i64 b3, .slice A3 d3.length c3, .int .i64 cy] 60] w8 := hK.join hKn
  clear hKn
  obtain ⟨q0, p0, o0, q1, p1, o1, -⟩ := hK.cells
  go_wp2_with fail
  have hK' := (hK.al [.int .i64 b1, .slice X31 d1.length x31, .int .i64 b2, .slice X32 d2.length x32, .int .i64 b3, .slice X33 d3.length x33, .int .i64 cy] 65)
  refine Calls.kn hK' ?_; clear hK'; intro w9 hK'
  clear q0 p0 o0 q1 p1 o1
  have hK : Kn w [.blk w8.heap.size [.int .i64 b1, .slice X31 d1.length x31, .int .i64 b2, .slice X32 d2.length x32, .int .i64 b3, .slice X33 d3.length x33, .int .i64 cy] 65, rowN X33 d3.length x33 d3, rowN X32 d2.length x32 d2, rowN X31 d1.length x31 d1, .blk w6.heap.size [.int .i64 RT.a.base, .slice S1 k1 s1, .int .i64 RT.b.base, .slice S2 k2 s2, .int .i64 RT.s.base, .slice S3 k3 s3, .int .i64 RT.carry] 65, rowN S3 k3 s3 e3, rowN S2 k2 s2 e2, rowN S1 k1 s1 e1, rowN X2 vn x2 V, rowN X13 d3.length x13 d3, rowN X12 d2.length x12 d2, rowN X11 d1.length x11 d1, .blk w.heap.size [.int .i64 b1, .slice A1 d1.length c1, .int .i64 b2, .slice A2 d2.length c2, .int .i64 b3, .slice A3 d3.length c3, .int .i64 cy] 60] w9 := hK'
  clear hK'
  refine (TV.out _ hK.below).mono ?_; rintro e w10 ⟨X4, x4, rfl, hKn⟩
  have hK : Kn w [rowN X4 vn x4 V, .blk w8.heap.size [.int .i64 b1, .slice X31 d1.length x31, .int .i64 b2, .slice X32 d2.length x32, .int .i64 b3, .slice X33 d3.length x33, .int .i64 cy] 65, rowN X33 d3.length x33 d3, rowN X32 d2.length x32 d2, rowN X31 d1.length x31 d1, .blk w6.heap.size [.int .i64 RT.a.base, .slice S1 k1 s1, .int .i64 RT.b.base, .slice S2 k2 s2, .int .i64 RT.s.base, .slice S3 k3 s3, .int .i64 RT.carry] 65, rowN S3 k3 s3 e3, rowN S2 k2 s2 e2, rowN S1 k1 s1 e1, rowN X2 vn x2 V, rowN X13 d3.length x13 d3, rowN X12 d2.length x12 d2, rowN X11 d1.length x11 d1, .blk w.heap.size [.int .i64 b1, .slice A1 d1.length c1, .int .i64 b2, .slice A2 d2.length c2, .int .i64 b3, .slice A3 d3.length c3, .int .i64 cy] 60] w10 := hK.join hKn
  clear hKn
  obtain ⟨q0, p0, o0, q1, p1, o1, q2, p2, o2, -⟩ := hK.cells
  go_wp2_with fail
  clear q0 p0 o0 q1 p1 o1 q2 p2 o2
  refine (KI.out X31 x31 X32 x32 X33 x33 X4 x4 _ (Kn.riN (hK.sel [4] 99 (by decide) (by decide))) (Kn.riN (hK.sel [3] 99 (by decide) (by decide))) (Kn.riN (hK.sel [2] 99 (by decide) (by decide))) (Kn.riN (hK.sel [0] 99 (by decide) (by decide)))).mono ?_; rintro e w11 ⟨G1, g1, G2, g2, G3, g3, rfl, hKn⟩
  have hK : Kn w [rowN G3 k3 g3 e3, rowN G2 k2 g2 e2, rowN G1 k1 g1 e1, rowN X4 vn x4 V, .blk w8.heap.size [.int .i64 b1, .slice X31 d1.length x31, .int .i64 b2, .slice X32 d2.length x32, .int .i64 b3, .slice X33 d3.length x33, .int .i64 cy] 65, rowN X33 d3.length x33 d3, rowN X32 d2.length x32 d2, rowN X31 d1.length x31 d1, .blk w6.heap.size [.int .i64 RT.a.base, .slice S1 k1 s1, .int .i64 RT.b.base, .slice S2 k2 s2, .int .i64 RT.s.base, .slice S3 k3 s3, .int .i64 RT.carry] 65, rowN S3 k3 s3 e3, rowN S2 k2 s2 e2, rowN S1 k1 s1 e1, rowN X2 vn x2 V, rowN X13 d3.length x13 d3, rowN X12 d2.length x12 d2, rowN X11 d1.length x11 d1, .blk w.heap.size [.int .i64 b1, .slice A1 d1.length c1, .int .i64 b2, .slice A2 d2.length c2, .int .i64 b3, .slice A3 d3.length c3, .int .i64 cy] 60] w11 := hK.join hKn
  clear hKn
  obtain ⟨q0, p0, o0, q1, p1, o1, q2, p2, o2, -⟩ := hK.cells
  go_wp2_with fail
  have hK' := (hK.al [.int .i64 RT.a.base, .slice G1 k1 g1, .int .i64 RT.b.base, .slice G2 k2 g2, .int .i64 RT.s.base, .slice G3 k3 g3, .int .i64 RT.carry] 65)
  refine Calls.kn hK' ?_; clear hK'; intro w12 hK'
  clear q0 p0 o0 q1 p1 o1 q2 p2 o2
  have hK : Kn w [.blk w11.heap.size [.int .i64 RT.a.base, .slice G1 k1 g1, .int .i64 RT.b.base, .slice G2 k2 g2, .int .i64 RT.s.base, .slice G3 k3 g3, .int .i64 RT.carry] 65, rowN G3 k3 g3 e3, rowN G2 k2 g2 e2, rowN G1 k1 g1 e1, rowN X4 vn x4 V, .blk w8.heap.size [.int .i64 b1, .slice X31 d1.length x31, .int .i64 b2, .slice X32 d2.length x32, .int .i64 b3, .slice X33 d3.length x33, .int .i64 cy] 65, rowN X33 d3.length x33 d3, rowN X32 d2.length x32 d2, rowN X31 d1.length x31 d1, .blk w6.heap.size [.int .i64 RT.a.base, .slice S1 k1 s1, .int .i64 RT.b.base, .slice S2 k2 s2, .int .i64 RT.s.base, .slice S3 k3 s3, .int .i64 RT.carry] 65, rowN S3 k3 s3 e3, rowN S2 k2 s2 e2, rowN S1 k1 s1 e1, rowN X2 vn x2 V, rowN X13 d3.length x13 d3, rowN X12 d2.length x12 d2, rowN X11 d1.length x11 d1, .blk w.heap.size [.int .i64 b1, .slice A1 d1.length c1, .int .i64 b2, .slice A2 d2.length c2, .int .i64 b3, .slice A3 d3.length c3, .int .i64 cy] 60] w12 := hK'
  clear hK'
  refine (eqM_same RT.a.base RT.b.base RT.s.base RT.carry G1 G2 G3 S1 S2 S3   k1 k2 k3 g1 g2 g3 s1 s2 s3 e1 e2 e3 _ (Kn.riN (hK.sel [3] 99 (by decide) (by decide))) (Kn.riN (hK.sel [2] 99 (by decide) (by decide))) (Kn.riN (hK.sel [1] 99 (by decide) (by decide))) (Kn.riN (hK.sel [12] 99 (by decide) (by decide))) (Kn.riN (hK.sel [11] 99 (by decide) (by decide))) (Kn.riN (hK.sel [10] 99 (by decide) (by decide))) (by omega) (by omega) (by omega)).mono ?_; rintro e w13 ⟨rfl, hw⟩
  have hK : Kn w [.blk w11.heap.size [.int .i64 RT.a.base, .slice G1 k1 g1, .int .i64 RT.b.base, .slice G2 k2 g2, .int .i64 RT.s.base, .slice G3 k3 g3, .int .i64 RT.carry] 65, rowN G3 k3 g3 e3, rowN G2 k2 g2 e2, rowN G1 k1 g1 e1, rowN X4 vn x4 V, .blk w8.heap.size [.int .i64 b1, .slice X31 d1.length x31, .int .i64 b2, .slice X32 d2.length x32, .int .i64 b3, .slice X33 d3.length x33, .int .i64 cy] 65, rowN X33 d3.length x33 d3, rowN X32 d2.length x32 d2, rowN X31 d1.length x31 d1, .blk w6.heap.size [.int .i64 RT.a.base, .slice S1 k1 s1, .int .i64 RT.b.base, .slice S2 k2 s2, .int .i64 RT.s.base, .slice S3 k3 s3, .int .i64 RT.carry] 65, rowN S3 k3 s3 e3, rowN S2 k2 s2 e2, rowN S1 k1 s1 e1, rowN X2 vn x2 V, rowN X13 d3.length x13 d3, rowN X12 d2.length x12 d2, rowN X11 d1.length x11 d1, .blk w.heap.size [.int .i64 b1, .slice A1 d1.length c1, .int .i64 b2, .slice A2 d2.length c2, .int .i64 b3, .slice A3 d3.length c3, .int .i64 cy] 60] w13 := hK.keep hw
  clear hw
  obtain ⟨q0, p0, o0, q1, p1, o1, q2, p2, o2, q3, p3, o3, -⟩ := hK.cells
  go_wp2_with fail
  have HG := Lib.hid (And.intro (box7at hK.drew 5 rfl) (box7at hK.drew 17 rfl))
  go_region_held3 (fun W => (W.cell? ⟨w8.heap.size, 0, none⟩ = some (.int .i64 b1) ∧ W.cell? ⟨w8.heap.size, 1, none⟩ = some (.slice X31 d1.length x31) ∧ W.cell? ⟨w8.heap.size, 2, none⟩ = some (.int .i64 b2) ∧ W.cell? ⟨w8.heap.size, 3, none⟩ = some (.slice X32 d2.length x32) ∧ W.cell? ⟨w8.heap.size, 4, none⟩ = some (.int .i64 b3) ∧ W.cell? ⟨w8.heap.size, 5, none⟩ = some (.slice X33 d3.length x33) ∧ W.cell? ⟨w8.heap.size, 6, none⟩ = some (.int .i64 cy)) ∧ (W.cell? ⟨w.heap.size, 0, none⟩ = some (.int .i64 b1) ∧ W.cell? ⟨w.heap.size, 1, none⟩ = some (.slice A1 d1.length c1) ∧ W.cell? ⟨w.heap.size, 2, none⟩ = some (.int .i64 b2) ∧ W.cell? ⟨w.heap.size, 3, none⟩ = some (.slice A2 d2.length c2) ∧ W.cell? ⟨w.heap.size, 4, none⟩ = some (.int .i64 b3) ∧ W.cell? ⟨w.heap.size, 5, none⟩ = some (.slice A3 d3.length c3) ∧ W.cell? ⟨w.heap.size, 6, none⟩ = some (.int .i64 cy)))
    (first | with_reducible exact HG.out | exact HG.out) (first
    | (go_at_call 44; refine (TM.out _ hK.drew.below).mono ?_; rintro e w14 ⟨X51, x51, X52, x52, X53, x53, rfl, hKn⟩; have hK2 : Kn w [rowN X53 d3.length x53 d3, rowN X52 d2.length x52 d2, rowN X51 d1.length x51 d1, .blk w11.heap.size [.int .i64 RT.a.base, .slice G1 k1 g1, .int .i64 RT.b.base, .slice G2 k2 g2, .int .i64 RT.s.base, .slice G3 k3 g3, .int .i64 RT.carry] 65, rowN G3 k3 g3 e3, rowN G2 k2 g2 e2, rowN G1 k1 g1 e1, rowN X4 vn x4 V, .blk w8.heap.size [.int .i64 b1, .slice X31 d1.length x31, .int .i64 b2, .slice X32 d2.length x32, .int .i64 b3, .slice X33 d3.length x33, .int .i64 cy] 65, rowN X33 d3.length x33 d3, rowN X32 d2.length x32 d2, rowN X31 d1.length x31 d1, .blk w6.heap.size [.int .i64 RT.a.base, .slice S1 k1 s1, .int .i64 RT.b.base, .slice S2 k2 s2, .int .i64 RT.s.base, .slice S3 k3 s3, .int .i64 RT.carry] 65, rowN S3 k3 s3 e3, rowN S2 k2 s2 e2, rowN S1 k1 s1 e1, rowN X2 vn x2 V, rowN X13 d3.length x13 d3, rowN X12 d2.length x12 d2, rowN X11 d1.length x11 d1, .blk w.heap.size [.int .i64 b1, .slice A1 d1.length c1, .int .i64 b2, .slice A2 d2.length c2, .int .i64 b3, .slice A3 d3.length c3, .int .i64 cy] 60] w14 := hK.drew.join hKn; clear HG; have HG := Lib.hid (And.intro (box7at hK2 8 rfl) (box7at hK2 20 rfl)))
    | (go_at_call 46; refine (eqM_same b1 b2 b3 cy X31 X32 X33 X51 X52 X53 _ _ _ x31 x32 x33 x51 x52 x53 d1 d2 d3 _ (Kn.riN (hK2.sel [11] 99 (by decide) (by decide))) (Kn.riN (hK2.sel [10] 99 (by decide) (by decide))) (Kn.riN (hK2.sel [9] 99 (by decide) (by decide))) (Kn.riN (hK2.sel [2] 99 (by decide) (by decide))) (Kn.riN (hK2.sel [1] 99 (by decide) (by decide))) (Kn.riN (hK2.sel [0] 99 (by decide) (by decide))) (by omega) (by omega) (by omega)).mono ?_; rintro e w15 ⟨rfl, hw⟩; have hK3 : Kn w [rowN X53 d3.length x53 d3, rowN X52 d2.length x52 d2, rowN X51 d1.length x51 d1, .blk w11.heap.size [.int .i64 RT.a.base, .slice G1 k1 g1, .int .i64 RT.b.base, .slice G2 k2 g2, .int .i64 RT.s.base, .slice G3 k3 g3, .int .i64 RT.carry] 65, rowN G3 k3 g3 e3, rowN G2 k2 g2 e2, rowN G1 k1 g1 e1, rowN X4 vn x4 V, .blk w8.heap.size [.int .i64 b1, .slice X31 d1.length x31, .int .i64 b2, .slice X32 d2.length x32, .int .i64 b3, .slice X33 d3.length x33, .int .i64 cy] 65, rowN X33 d3.length x33 d3, rowN X32 d2.length x32 d2, rowN X31 d1.length x31 d1, .blk w6.heap.size [.int .i64 RT.a.base, .slice S1 k1 s1, .int .i64 RT.b.base, .slice S2 k2 s2, .int .i64 RT.s.base, .slice S3 k3 s3, .int .i64 RT.carry] 65, rowN S3 k3 s3 e3, rowN S2 k2 s2 e2, rowN S1 k1 s1 e1, rowN X2 vn x2 V, rowN X13 d3.length x13 d3, rowN X12 d2.length x12 d2, rowN X11 d1.length x11 d1, .blk w.heap.size [.int .i64 b1, .slice A1 d1.length c1, .int .i64 b2, .slice A2 d2.length c2, .int .i64 b3, .slice A3 d3.length c3, .int .i64 cy] 60] w15 := hK2.keep hw; clear HG; have HG := Lib.hid (And.intro (box7at hK3 8 rfl) (box7at hK3 20 rfl))))
  clear q0 p0 o0 q1 p1 o1 q2 p2 o2 q3 p3 o3
  have hK := hK3
  clear HG hK2 hK3 hKn hw
  obtain ⟨q0, p0, o0, q1, p1, o1, q2, p2, o2, q3, p3, o3, -⟩ := hK.cells
  go_wp2_with fail
  clear q0 p0 o0 q1 p1 o1 q2 p2 o2 q3 p3 o3
  refine (TV.out _ hK.below).mono ?_; rintro e w16 ⟨X6, x6, rfl, hKn⟩
  have hK : Kn w [rowN X6 vn x6 V, rowN X53 d3.length x53 d3, rowN X52 d2.length x52 d2, rowN X51 d1.length x51 d1, .blk w11.heap.size [.int .i64 RT.a.base, .slice G1 k1 g1, .int .i64 RT.b.base, .slice G2 k2 g2, .int .i64 RT.s.base, .slice G3 k3 g3, .int .i64 RT.carry] 65, rowN G3 k3 g3 e3, rowN G2 k2 g2 e2, rowN G1 k1 g1 e1, rowN X4 vn x4 V, .blk w8.heap.size [.int .i64 b1, .slice X31 d1.length x31, .int .i64 b2, .slice X32 d2.length x32, .int .i64 b3, .slice X33 d3.length x33, .int .i64 cy] 65, rowN X33 d3.length x33 d3, rowN X32 d2.length x32 d2, rowN X31 d1.length x31 d1, .blk w6.heap.size [.int .i64 RT.a.base, .slice S1 k1 s1, .int .i64 RT.b.base, .slice S2 k2 s2, .int .i64 RT.s.base, .slice S3 k3 s3, .int .i64 RT.carry] 65, rowN S3 k3 s3 e3, rowN S2 k2 s2 e2, rowN S1 k1 s1 e1, rowN X2 vn x2 V, rowN X13 d3.length x13 d3, rowN X12 d2.length x12 d2, rowN X11 d1.length x11 d1, .blk w.heap.size [.int .i64 b1, .slice A1 d1.length c1, .int .i64 b2, .slice A2 d2.length c2, .int .i64 b3, .slice A3 d3.length c3, .int .i64 cy] 60] w16 := hK.join hKn
  clear hKn
  obtain ⟨q0, p0, o0, q1, p1, o1, q2, p2, o2, q3, p3, o3, -⟩ := hK.cells
  go_wp2_with fail
  clear q0 p0 o0 q1 p1 o1 q2 p2 o2 q3 p3 o3
  refine (eqI_same _ _ _ _ _ _ _ (Kn.riN (hK.sel [8] 99 (by decide) (by decide))) (Kn.riN (hK.sel [0] 99 (by decide) (by decide))) (by omega)).mono ?_; rintro e w17 ⟨rfl, hw⟩
  have hK : Kn w [rowN X6 vn x6 V, rowN X53 d3.length x53 d3, rowN X52 d2.length x52 d2, rowN X51 d1.length x51 d1, .blk w11.heap.size [.int .i64 RT.a.base, .slice G1 k1 g1, .int .i64 RT.b.base, .slice G2 k2 g2, .int .i64 RT.s.base, .slice G3 k3 g3, .int .i64 RT.carry] 65, rowN G3 k3 g3 e3, rowN G2 k2 g2 e2, rowN G1 k1 g1 e1, rowN X4 vn x4 V, .blk w8.heap.size [.int .i64 b1, .slice X31 d1.length x31, .int .i64 b2, .slice X32 d2.length x32, .int .i64 b3, .slice X33 d3.length x33, .int .i64 cy] 65, rowN X33 d3.length x33 d3, rowN X32 d2.length x32 d2, rowN X31 d1.length x31 d1, .blk w6.heap.size [.int .i64 RT.a.base, .slice S1 k1 s1, .int .i64 RT.b.base, .slice S2 k2 s2, .int .i64 RT.s.base, .slice S3 k3 s3, .int .i64 RT.carry] 65, rowN S3 k3 s3 e3, rowN S2 k2 s2 e2, rowN S1 k1 s1 e1, rowN X2 vn x2 V, rowN X13 d3.length x13 d3, rowN X12 d2.length x12 d2, rowN X11 d1.length x11 d1, .blk w.heap.size [.int .i64 b1, .slice A1 d1.length c1, .int .i64 b2, .slice A2 d2.length c2, .int .i64 b3, .slice A3 d3.length c3, .int .i64 cy] 60] w17 := hK.keep hw
  clear hw
  obtain ⟨q0, p0, o0, q1, p1, o1, q2, p2, o2, q3, p3, o3, -⟩ := hK.cells
  go_wp2_with fail
  clear q0 p0 o0 q1 p1 o1 q2 p2 o2 q3 p3 o3
  have hK : Kn w [rowN X33 d3.length x33 d3, rowN X32 d2.length x32 d2, rowN X31 d1.length x31 d1, rowN X6 vn x6 V, rowN X53 d3.length x53 d3, rowN X52 d2.length x52 d2, rowN X51 d1.length x51 d1, .blk w11.heap.size [.int .i64 RT.a.base, .slice G1 k1 g1, .int .i64 RT.b.base, .slice G2 k2 g2, .int .i64 RT.s.base, .slice G3 k3 g3, .int .i64 RT.carry] 65, rowN G3 k3 g3 e3, rowN G2 k2 g2 e2, rowN G1 k1 g1 e1, rowN X4 vn x4 V, .blk w8.heap.size [.int .i64 b1, .slice X31 d1.length x31, .int .i64 b2, .slice X32 d2.length x32, .int .i64 b3, .slice X33 d3.length x33, .int .i64 cy] 65, .blk w6.heap.size [.int .i64 RT.a.base, .slice S1 k1 s1, .int .i64 RT.b.base, .slice S2 k2 s2, .int .i64 RT.s.base, .slice S3 k3 s3, .int .i64 RT.carry] 65, rowN S3 k3 s3 e3, rowN S2 k2 s2 e2, rowN S1 k1 s1 e1, rowN X2 vn x2 V, rowN X13 d3.length x13 d3, rowN X12 d2.length x12 d2, rowN X11 d1.length x11 d1, .blk w.heap.size [.int .i64 b1, .slice A1 d1.length c1, .int .i64 b2, .slice A2 d2.length c2, .int .i64 b3, .slice A3 d3.length c3, .int .i64 cy] 60] w17 := hK.sel [10, 11, 12, 0, 1, 2, 3, 4, 5, 6, 7, 8, 9, 13, 14, 15, 16, 17, 18, 19, 20, 21] 22 (by decide) (by decide)
  refine (markMachine_kn w _ _ _ _ _ X31 X32 X33 d1.length d2.length d3.length x31 x32 x33 d1 d2 d3  1 _ hK (by omega) (by omega)).mono ?_; rintro e w18 ⟨rfl, hKn⟩
  have hK : Kn w [rowN X33 d3.length x33 (upto (1 + (d1.length : Int) + (d2.length : Int)) d3.length), rowN X32 d2.length x32 (upto (1 + (d1.length : Int)) d2.length), rowN X31 d1.length x31 (upto 1 d1.length), rowN X6 vn x6 V, rowN X53 d3.length x53 d3, rowN X52 d2.length x52 d2, rowN X51 d1.length x51 d1, .blk w11.heap.size [.int .i64 RT.a.base, .slice G1 k1 g1, .int .i64 RT.b.base, .slice G2 k2 g2, .int .i64 RT.s.base, .slice G3 k3 g3, .int .i64 RT.carry] 65, rowN G3 k3 g3 e3, rowN G2 k2 g2 e2, rowN G1 k1 g1 e1, rowN X4 vn x4 V, .blk w8.heap.size [.int .i64 b1, .slice X31 d1.length x31, .int .i64 b2, .slice X32 d2.length x32, .int .i64 b3, .slice X33 d3.length x33, .int .i64 cy] 65, .blk w6.heap.size [.int .i64 RT.a.base, .slice S1 k1 s1, .int .i64 RT.b.base, .slice S2 k2 s2, .int .i64 RT.s.base, .slice S3 k3 s3, .int .i64 RT.carry] 65, rowN S3 k3 s3 e3, rowN S2 k2 s2 e2, rowN S1 k1 s1 e1, rowN X2 vn x2 V, rowN X13 d3.length x13 d3, rowN X12 d2.length x12 d2, rowN X11 d1.length x11 d1, .blk w.heap.size [.int .i64 b1, .slice A1 d1.length c1, .int .i64 b2, .slice A2 d2.length c2, .int .i64 b3, .slice A3 d3.length c3, .int .i64 cy] 60] w18 := hKn
  clear hKn
  rw [HMK.out]
  obtain ⟨q0, p0, o0, q1, p1, o1, q2, p2, o2, q3, p3, o3, -⟩ := hK.cells
  go_wp2_with fail
  clear q0 p0 o0 q1 p1 o1 q2 p2 o2 q3 p3 o3
  have hK : Kn w [rowN X4 vn x4 V, rowN X33 d3.length x33 (upto (1 + (d1.length : Int) + (d2.length : Int)) d3.length), rowN X32 d2.length x32 (upto (1 + (d1.length : Int)) d2.length), rowN X31 d1.length x31 (upto 1 d1.length), rowN X6 vn x6 V, rowN X53 d3.length x53 d3, rowN X52 d2.length x52 d2, rowN X51 d1.length x51 d1, .blk w11.heap.size [.int .i64 RT.a.base, .slice G1 k1 g1, .int .i64 RT.b.base, .slice G2 k2 g2, .int .i64 RT.s.base, .slice G3 k3 g3, .int .i64 RT.carry] 65, rowN G3 k3 g3 e3, rowN G2 k2 g2 e2, rowN G1 k1 g1 e1, .blk w8.heap.size [.int .i64 b1, .slice X31 d1.length x31, .int .i64 b2, .slice X32 d2.length x32, .int .i64 b3, .slice X33 d3.length x33, .int .i64 cy] 65, .blk w6.heap.size [.int .i64 RT.a.base, .slice S1 k1 s1, .int .i64 RT.b.base, .slice S2 k2 s2, .int .i64 RT.s.base, .slice S3 k3 s3, .int .i64 RT.carry] 65, rowN S3 k3 s3 e3, rowN S2 k2 s2 e2, rowN S1 k1 s1 e1, rowN X2 vn x2 V, rowN X13 d3.length x13 d3, rowN X12 d2.length x12 d2, rowN X11 d1.length x11 d1, .blk w.heap.size [.int .i64 b1, .slice A1 d1.length c1, .int .i64 b2, .slice A2 d2.length c2, .int .i64 b3, .slice A3 d3.length c3, .int .i64 cy] 60] w18 := hK.sel [11, 0, 1, 2, 3, 4, 5, 6, 7, 8, 9, 10, 12, 13, 14, 15, 16, 17, 18, 19, 20, 21] 22 (by decide) (by decide)
  refine (markI_kn w _ X4 vn x4 V mk _ hK (by omega) (by omega)).mono ?_; rintro e w19 ⟨rfl, hKn⟩
  have hK : Kn w [rowN X4 vn x4 (upto mk vn), rowN X33 d3.length x33 (upto (1 + (d1.length : Int) + (d2.length : Int)) d3.length), rowN X32 d2.length x32 (upto (1 + (d1.length : Int)) d2.length), rowN X31 d1.length x31 (upto 1 d1.length), rowN X6 vn x6 V, rowN X53 d3.length x53 d3, rowN X52 d2.length x52 d2, rowN X51 d1.length x51 d1, .blk w11.heap.size [.int .i64 RT.a.base, .slice G1 k1 g1, .int .i64 RT.b.base, .slice G2 k2 g2, .int .i64 RT.s.base, .slice G3 k3 g3, .int .i64 RT.carry] 65, rowN G3 k3 g3 e3, rowN G2 k2 g2 e2, rowN G1 k1 g1 e1, .blk w8.heap.size [.int .i64 b1, .slice X31 d1.length x31, .int .i64 b2, .slice X32 d2.length x32, .int .i64 b3, .slice X33 d3.length x33, .int .i64 cy] 65, .blk w6.heap.size [.int .i64 RT.a.base, .slice S1 k1 s1, .int .i64 RT.b.base, .slice S2 k2 s2, .int .i64 RT.s.base, .slice S3 k3 s3, .int .i64 RT.carry] 65, rowN S3 k3 s3 e3, rowN S2 k2 s2 e2, rowN S1 k1 s1 e1, rowN X2 vn x2 V, rowN X13 d3.length x13 d3, rowN X12 d2.length x12 d2, rowN X11 d1.length x11 d1, .blk w.heap.size [.int .i64 b1, .slice A1 d1.length c1, .int .i64 b2, .slice A2 d2.length c2, .int .i64 b3, .slice A3 d3.length c3, .int .i64 cy] 60] w19 := hKn
  clear hKn
  obtain ⟨pk1, hpk1⟩ : ∃ x : Int, mk + (vn : Int) = x := ⟨_, rfl⟩
  have hpk1n : ¬ pk1 < 0 := by omega
  have hpk1b : 0 ≤ pk1 ∧ pk1 ≤ 40000000 := by omega
  rw [hpk1]
  have Hpk1 := Lib.hid hpk1
  clear hpk1
  obtain ⟨q0, p0, o0, q1, p1, o1, q2, p2, o2, q3, p3, o3, -⟩ := hK.cells
  go_wp2_with fail
  clear q0 p0 o0 q1 p1 o1 q2 p2 o2 q3 p3 o3
  refine (eqM_same RT.a.base RT.b.base RT.s.base RT.carry G1 G2 G3 S1 S2 S3   k1 k2 k3 g1 g2 g3 s1 s2 s3 e1 e2 e3 _ (Kn.riN (hK.sel [11] 99 (by decide) (by decide))) (Kn.riN (hK.sel [10] 99 (by decide) (by decide))) (Kn.riN (hK.sel [9] 99 (by decide) (by decide))) (Kn.riN (hK.sel [16] 99 (by decide) (by decide))) (Kn.riN (hK.sel [15] 99 (by decide) (by decide))) (Kn.riN (hK.sel [14] 99 (by decide) (by decide))) (by omega) (by omega) (by omega)).mono ?_; rintro e w20 ⟨rfl, hw⟩
  have hK : Kn w [rowN X4 vn x4 (upto mk vn), rowN X33 d3.length x33 (upto (1 + (d1.length : Int) + (d2.length : Int)) d3.length), rowN X32 d2.length x32 (upto (1 + (d1.length : Int)) d2.length), rowN X31 d1.length x31 (upto 1 d1.length), rowN X6 vn x6 V, rowN X53 d3.length x53 d3, rowN X52 d2.length x52 d2, rowN X51 d1.length x51 d1, .blk w11.heap.size [.int .i64 RT.a.base, .slice G1 k1 g1, .int .i64 RT.b.base, .slice G2 k2 g2, .int .i64 RT.s.base, .slice G3 k3 g3, .int .i64 RT.carry] 65, rowN G3 k3 g3 e3, rowN G2 k2 g2 e2, rowN G1 k1 g1 e1, .blk w8.heap.size [.int .i64 b1, .slice X31 d1.length x31, .int .i64 b2, .slice X32 d2.length x32, .int .i64 b3, .slice X33 d3.length x33, .int .i64 cy] 65, .blk w6.heap.size [.int .i64 RT.a.base, .slice S1 k1 s1, .int .i64 RT.b.base, .slice S2 k2 s2, .int .i64 RT.s.base, .slice S3 k3 s3, .int .i64 RT.carry] 65, rowN S3 k3 s3 e3, rowN S2 k2 s2 e2, rowN S1 k1 s1 e1, rowN X2 vn x2 V, rowN X13 d3.length x13 d3, rowN X12 d2.length x12 d2, rowN X11 d1.length x11 d1, .blk w.heap.size [.int .i64 b1, .slice A1 d1.length c1, .int .i64 b2, .slice A2 d2.length c2, .int .i64 b3, .slice A3 d3.length c3, .int .i64 cy] 60] w20 := hK.keep hw
  clear hw
  obtain ⟨q0, p0, o0, q1, p1, o1, q2, p2, o2, q3, p3, o3, -⟩ := hK.cells
  go_wp2_with fail
  clear q0 p0 o0 q1 p1 o1 q2 p2 o2 q3 p3 o3
  have hK : Kn w [rowN G3 k3 g3 e3, rowN G2 k2 g2 e2, rowN G1 k1 g1 e1, rowN X4 vn x4 (upto mk vn), rowN X33 d3.length x33 (upto (1 + (d1.length : Int) + (d2.length : Int)) d3.length), rowN X32 d2.length x32 (upto (1 + (d1.length : Int)) d2.length), rowN X31 d1.length x31 (upto 1 d1.length), rowN X6 vn x6 V, rowN X53 d3.length x53 d3, rowN X52 d2.length x52 d2, rowN X51 d1.length x51 d1, .blk w11.heap.size [.int .i64 RT.a.base, .slice G1 k1 g1, .int .i64 RT.b.base, .slice G2 k2 g2, .int .i64 RT.s.base, .slice G3 k3 g3, .int .i64 RT.carry] 65, .blk w8.heap.size [.int .i64 b1, .slice X31 d1.length x31, .int .i64 b2, .slice X32 d2.length x32, .int .i64 b3, .slice X33 d3.length x33, .int .i64 cy] 65, .blk w6.heap.size [.int .i64 RT.a.base, .slice S1 k1 s1, .int .i64 RT.b.base, .slice S2 k2 s2, .int .i64 RT.s.base, .slice S3 k3 s3, .int .i64 RT.carry] 65, rowN S3 k3 s3 e3, rowN S2 k2 s2 e2, rowN S1 k1 s1 e1, rowN X2 vn x2 V, rowN X13 d3.length x13 d3, rowN X12 d2.length x12 d2, rowN X11 d1.length x11 d1, .blk w.heap.size [.int .i64 b1, .slice A1 d1.length c1, .int .i64 b2, .slice A2 d2.length c2, .int .i64 b3, .slice A3 d3.length c3, .int .i64 cy] 60] w20 := hK.sel [9, 10, 11, 0, 1, 2, 3, 4, 5, 6, 7, 8, 12, 13, 14, 15, 16, 17, 18, 19, 20, 21] 22 (by decide) (by decide)
  refine (markMachine_kn w _ _ _ _ _ G1 G2 G3 k1 k2 k3 g1 g2 g3 e1 e2 e3  1 _ hK (by omega) (by omega)).mono ?_; rintro e w21 ⟨rfl, hKn⟩
  have hK : Kn w [rowN G3 k3 g3 (upto (1 + (k1 : Int) + (k2 : Int)) k3), rowN G2 k2 g2 (upto (1 + (k1 : Int)) k2), rowN G1 k1 g1 (upto 1 k1), rowN X4 vn x4 (upto mk vn), rowN X33 d3.length x33 (upto (1 + (d1.length : Int) + (d2.length : Int)) d3.length), rowN X32 d2.length x32 (upto (1 + (d1.length : Int)) d2.length), rowN X31 d1.length x31 (upto 1 d1.length), rowN X6 vn x6 V, rowN X53 d3.length x53 d3, rowN X52 d2.length x52 d2, rowN X51 d1.length x51 d1, .blk w11.heap.size [.int .i64 RT.a.base, .slice G1 k1 g1, .int .i64 RT.b.base, .slice G2 k2 g2, .int .i64 RT.s.base, .slice G3 k3 g3, .int .i64 RT.carry] 65, .blk w8.heap.size [.int .i64 b1, .slice X31 d1.length x31, .int .i64 b2, .slice X32 d2.length x32, .int .i64 b3, .slice X33 d3.length x33, .int .i64 cy] 65, .blk w6.heap.size [.int .i64 RT.a.base, .slice S1 k1 s1, .int .i64 RT.b.base, .slice S2 k2 s2, .int .i64 RT.s.base, .slice S3 k3 s3, .int .i64 RT.carry] 65, rowN S3 k3 s3 e3, rowN S2 k2 s2 e2, rowN S1 k1 s1 e1, rowN X2 vn x2 V, rowN X13 d3.length x13 d3, rowN X12 d2.length x12 d2, rowN X11 d1.length x11 d1, .blk w.heap.size [.int .i64 b1, .slice A1 d1.length c1, .int .i64 b2, .slice A2 d2.length c2, .int .i64 b3, .slice A3 d3.length c3, .int .i64 cy] 60] w21 := hKn
  clear hKn
  rw [HRK.out]
  obtain ⟨q0, p0, o0, q1, p1, o1, q2, p2, o2, q3, p3, o3, -⟩ := hK.cells
  go_wp2_with fail
  clear q0 p0 o0 q1 p1 o1 q2 p2 o2 q3 p3 o3
  refine (heldMachine_any _ _ _ _ G1 G2 G3 k1 k2 k3 g1 g2 g3 1 _ (Kn.riN (hK.sel [2] 99 (by decide) (by decide))) (Kn.riN (hK.sel [1] 99 (by decide) (by decide))) (Kn.riN (hK.sel [0] 99 (by decide) (by decide))) (by omega) (by omega)).mono ?_; rintro e w22 ⟨rfl, hw⟩
  have hK : Kn w [rowN G3 k3 g3 (upto (1 + (k1 : Int) + (k2 : Int)) k3), rowN G2 k2 g2 (upto (1 + (k1 : Int)) k2), rowN G1 k1 g1 (upto 1 k1), rowN X4 vn x4 (upto mk vn), rowN X33 d3.length x33 (upto (1 + (d1.length : Int) + (d2.length : Int)) d3.length), rowN X32 d2.length x32 (upto (1 + (d1.length : Int)) d2.length), rowN X31 d1.length x31 (upto 1 d1.length), rowN X6 vn x6 V, rowN X53 d3.length x53 d3, rowN X52 d2.length x52 d2, rowN X51 d1.length x51 d1, .blk w11.heap.size [.int .i64 RT.a.base, .slice G1 k1 g1, .int .i64 RT.b.base, .slice G2 k2 g2, .int .i64 RT.s.base, .slice G3 k3 g3, .int .i64 RT.carry] 65, .blk w8.heap.size [.int .i64 b1, .slice X31 d1.length x31, .int .i64 b2, .slice X32 d2.length x32, .int .i64 b3, .slice X33 d3.length x33, .int .i64 cy] 65, .blk w6.heap.size [.int .i64 RT.a.base, .slice S1 k1 s1, .int .i64 RT.b.base, .slice S2 k2 s2, .int .i64 RT.s.base, .slice S3 k3 s3, .int .i64 RT.carry] 65, rowN S3 k3 s3 e3, rowN S2 k2 s2 e2, rowN S1 k1 s1 e1, rowN X2 vn x2 V, rowN X13 d3.length x13 d3, rowN X12 d2.length x12 d2, rowN X11 d1.length x11 d1, .blk w.heap.size [.int .i64 b1, .slice A1 d1.length c1, .int .i64 b2, .slice A2 d2.length c2, .int .i64 b3, .slice A3 d3.length c3, .int .i64 cy] 60] w22 := hK.keep hw
  clear hw
  rw [HRK.out]
  obtain ⟨q0, p0, o0, q1, p1, o1, q2, p2, o2, q3, p3, o3, -⟩ := hK.cells
  go_wp2_with fail
  clear q0 p0 o0 q1 p1 o1 q2 p2 o2 q3 p3 o3
  refine (TM.out _ hK.below).mono ?_; rintro e w23 ⟨X71, x71, X72, x72, X73, x73, rfl, hKn⟩
  have hK : Kn w [rowN X73 d3.length x73 d3, rowN X72 d2.length x72 d2, rowN X71 d1.length x71 d1, rowN G3 k3 g3 (upto (1 + (k1 : Int) + (k2 : Int)) k3), rowN G2 k2 g2 (upto (1 + (k1 : Int)) k2), rowN G1 k1 g1 (upto 1 k1), rowN X4 vn x4 (upto mk vn), rowN X33 d3.length x33 (upto (1 + (d1.length : Int) + (d2.length : Int)) d3.length), rowN X32 d2.length x32 (upto (1 + (d1.length : Int)) d2.length), rowN X31 d1.length x31 (upto 1 d1.length), rowN X6 vn x6 V, rowN X53 d3.length x53 d3, rowN X52 d2.length x52 d2, rowN X51 d1.length x51 d1, .blk w11.heap.size [.int .i64 RT.a.base, .slice G1 k1 g1, .int .i64 RT.b.base, .slice G2 k2 g2, .int .i64 RT.s.base, .slice G3 k3 g3, .int .i64 RT.carry] 65, .blk w8.heap.size [.int .i64 b1, .slice X31 d1.length x31, .int .i64 b2, .slice X32 d2.length x32, .int .i64 b3, .slice X33 d3.length x33, .int .i64 cy] 65, .blk w6.heap.size [.int .i64 RT.a.base, .slice S1 k1 s1, .int .i64 RT.b.base, .slice S2 k2 s2, .int .i64 RT.s.base, .slice S3 k3 s3, .int .i64 RT.carry] 65, rowN S3 k3 s3 e3, rowN S2 k2 s2 e2, rowN S1 k1 s1 e1, rowN X2 vn x2 V, rowN X13 d3.length x13 d3, rowN X12 d2.length x12 d2, rowN X11 d1.length x11 d1, .blk w.heap.size [.int .i64 b1, .slice A1 d1.length c1, .int .i64 b2, .slice A2 d2.length c2, .int .i64 b3, .slice A3 d3.length c3, .int .i64 cy] 60] w23 := hK.join hKn
  clear hKn
  obtain ⟨q0, p0, o0, q1, p1, o1, q2, p2, o2, q3, p3, o3, -⟩ := hK.cells
  go_wp2_with fail
  clear q0 p0 o0 q1 p1 o1 q2 p2 o2 q3 p3 o3
  refine (TV.out _ hK.below).mono ?_; rintro e w24 ⟨X8, x8, rfl, hKn⟩
  have hK : Kn w [rowN X8 vn x8 V, rowN X73 d3.length x73 d3, rowN X72 d2.length x72 d2, rowN X71 d1.length x71 d1, rowN G3 k3 g3 (upto (1 + (k1 : Int) + (k2 : Int)) k3), rowN G2 k2 g2 (upto (1 + (k1 : Int)) k2), rowN G1 k1 g1 (upto 1 k1), rowN X4 vn x4 (upto mk vn), rowN X33 d3.length x33 (upto (1 + (d1.length : Int) + (d2.length : Int)) d3.length), rowN X32 d2.length x32 (upto (1 + (d1.length : Int)) d2.length), rowN X31 d1.length x31 (upto 1 d1.length), rowN X6 vn x6 V, rowN X53 d3.length x53 d3, rowN X52 d2.length x52 d2, rowN X51 d1.length x51 d1, .blk w11.heap.size [.int .i64 RT.a.base, .slice G1 k1 g1, .int .i64 RT.b.base, .slice G2 k2 g2, .int .i64 RT.s.base, .slice G3 k3 g3, .int .i64 RT.carry] 65, .blk w8.heap.size [.int .i64 b1, .slice X31 d1.length x31, .int .i64 b2, .slice X32 d2.length x32, .int .i64 b3, .slice X33 d3.length x33, .int .i64 cy] 65, .blk w6.heap.size [.int .i64 RT.a.base, .slice S1 k1 s1, .int .i64 RT.b.base, .slice S2 k2 s2, .int .i64 RT.s.base, .slice S3 k3 s3, .int .i64 RT.carry] 65, rowN S3 k3 s3 e3, rowN S2 k2 s2 e2, rowN S1 k1 s1 e1, rowN X2 vn x2 V, rowN X13 d3.length x13 d3, rowN X12 d2.length x12 d2, rowN X11 d1.length x11 d1, .blk w.heap.size [.int .i64 b1, .slice A1 d1.length c1, .int .i64 b2, .slice A2 d2.length c2, .int .i64 b3, .slice A3 d3.length c3, .int .i64 cy] 60] w24 := hK.join hKn
  clear hKn
  obtain ⟨q0, p0, o0, q1, p1, o1, q2, p2, o2, q3, p3, o3, -⟩ := hK.cells
  go_wp2_with fail
  clear q0 p0 o0 q1 p1 o1 q2 p2 o2 q3 p3 o3
  refine (KI.out X71 x71 X72 x72 X73 x73 X8 x8 _ (Kn.riN (hK.sel [3] 99 (by decide) (by decide))) (Kn.riN (hK.sel [2] 99 (by decide) (by decide))) (Kn.riN (hK.sel [1] 99 (by decide) (by decide))) (Kn.riN (hK.sel [0] 99 (by decide) (by decide)))).mono ?_; rintro e w25 ⟨H1, h1, H2, h2, H3, h3, rfl, hKn⟩
  have hK : Kn w [rowN H3 k3 h3 e3, rowN H2 k2 h2 e2, rowN H1 k1 h1 e1, rowN X8 vn x8 V, rowN X73 d3.length x73 d3, rowN X72 d2.length x72 d2, rowN X71 d1.length x71 d1, rowN G3 k3 g3 (upto (1 + (k1 : Int) + (k2 : Int)) k3), rowN G2 k2 g2 (upto (1 + (k1 : Int)) k2), rowN G1 k1 g1 (upto 1 k1), rowN X4 vn x4 (upto mk vn), rowN X33 d3.length x33 (upto (1 + (d1.length : Int) + (d2.length : Int)) d3.length), rowN X32 d2.length x32 (upto (1 + (d1.length : Int)) d2.length), rowN X31 d1.length x31 (upto 1 d1.length), rowN X6 vn x6 V, rowN X53 d3.length x53 d3, rowN X52 d2.length x52 d2, rowN X51 d1.length x51 d1, .blk w11.heap.size [.int .i64 RT.a.base, .slice G1 k1 g1, .int .i64 RT.b.base, .slice G2 k2 g2, .int .i64 RT.s.base, .slice G3 k3 g3, .int .i64 RT.carry] 65, .blk w8.heap.size [.int .i64 b1, .slice X31 d1.length x31, .int .i64 b2, .slice X32 d2.length x32, .int .i64 b3, .slice X33 d3.length x33, .int .i64 cy] 65, .blk w6.heap.size [.int .i64 RT.a.base, .slice S1 k1 s1, .int .i64 RT.b.base, .slice S2 k2 s2, .int .i64 RT.s.base, .slice S3 k3 s3, .int .i64 RT.carry] 65, rowN S3 k3 s3 e3, rowN S2 k2 s2 e2, rowN S1 k1 s1 e1, rowN X2 vn x2 V, rowN X13 d3.length x13 d3, rowN X12 d2.length x12 d2, rowN X11 d1.length x11 d1, .blk w.heap.size [.int .i64 b1, .slice A1 d1.length c1, .int .i64 b2, .slice A2 d2.length c2, .int .i64 b3, .slice A3 d3.length c3, .int .i64 cy] 60] w25 := hK.join hKn
  clear hKn
  obtain ⟨q0, p0, o0, q1, p1, o1, q2, p2, o2, q3, p3, o3, -⟩ := hK.cells
  go_wp2_with fail
  have hK' := (hK.al [.int .i64 RT.a.base, .slice H1 k1 h1, .int .i64 RT.b.base, .slice H2 k2 h2, .int .i64 RT.s.base, .slice H3 k3 h3, .int .i64 RT.carry] 65)
  refine Calls.kn hK' ?_; clear hK'; intro w26 hK'
  clear q0 p0 o0 q1 p1 o1 q2 p2 o2 q3 p3 o3
  have hK : Kn w [.blk w25.heap.size [.int .i64 RT.a.base, .slice H1 k1 h1, .int .i64 RT.b.base, .slice H2 k2 h2, .int .i64 RT.s.base, .slice H3 k3 h3, .int .i64 RT.carry] 65, rowN H3 k3 h3 e3, rowN H2 k2 h2 e2, rowN H1 k1 h1 e1, rowN X8 vn x8 V, rowN X73 d3.length x73 d3, rowN X72 d2.length x72 d2, rowN X71 d1.length x71 d1, rowN G3 k3 g3 (upto (1 + (k1 : Int) + (k2 : Int)) k3), rowN G2 k2 g2 (upto (1 + (k1 : Int)) k2), rowN G1 k1 g1 (upto 1 k1), rowN X4 vn x4 (upto mk vn), rowN X33 d3.length x33 (upto (1 + (d1.length : Int) + (d2.length : Int)) d3.length), rowN X32 d2.length x32 (upto (1 + (d1.length : Int)) d2.length), rowN X31 d1.length x31 (upto 1 d1.length), rowN X6 vn x6 V, rowN X53 d3.length x53 d3, rowN X52 d2.length x52 d2, rowN X51 d1.length x51 d1, .blk w11.heap.size [.int .i64 RT.a.base, .slice G1 k1 g1, .int .i64 RT.b.base, .slice G2 k2 g2, .int .i64 RT.s.base, .slice G3 k3 g3, .int .i64 RT.carry] 65, .blk w8.heap.size [.int .i64 b1, .slice X31 d1.length x31, .int .i64 b2, .slice X32 d2.length x32, .int .i64 b3, .slice X33 d3.length x33, .int .i64 cy] 65, .blk w6.heap.size [.int .i64 RT.a.base, .slice S1 k1 s1, .int .i64 RT.b.base, .slice S2 k2 s2, .int .i64 RT.s.base, .slice S3 k3 s3, .int .i64 RT.carry] 65, rowN S3 k3 s3 e3, rowN S2 k2 s2 e2, rowN S1 k1 s1 e1, rowN X2 vn x2 V, rowN X13 d3.length x13 d3, rowN X12 d2.length x12 d2, rowN X11 d1.length x11 d1, .blk w.heap.size [.int .i64 b1, .slice A1 d1.length c1, .int .i64 b2, .slice A2 d2.length c2, .int .i64 b3, .slice A3 d3.length c3, .int .i64 cy] 60] w26 := hK'
  clear hK'
  refine (eqM_same RT.a.base RT.b.base RT.s.base RT.carry H1 H2 H3 S1 S2 S3   k1 k2 k3 h1 h2 h3 s1 s2 s3 e1 e2 e3 _ (Kn.riN (hK.sel [3] 99 (by decide) (by decide))) (Kn.riN (hK.sel [2] 99 (by decide) (by decide))) (Kn.riN (hK.sel [1] 99 (by decide) (by decide))) (Kn.riN (hK.sel [24] 99 (by decide) (by decide))) (Kn.riN (hK.sel [23] 99 (by decide) (by decide))) (Kn.riN (hK.sel [22] 99 (by decide) (by decide))) (by omega) (by omega) (by omega)).mono ?_; rintro e w27 ⟨rfl, hw⟩
  have hK : Kn w [.blk w25.heap.size [.int .i64 RT.a.base, .slice H1 k1 h1, .int .i64 RT.b.base, .slice H2 k2 h2, .int .i64 RT.s.base, .slice H3 k3 h3, .int .i64 RT.carry] 65, rowN H3 k3 h3 e3, rowN H2 k2 h2 e2, rowN H1 k1 h1 e1, rowN X8 vn x8 V, rowN X73 d3.length x73 d3, rowN X72 d2.length x72 d2, rowN X71 d1.length x71 d1, rowN G3 k3 g3 (upto (1 + (k1 : Int) + (k2 : Int)) k3), rowN G2 k2 g2 (upto (1 + (k1 : Int)) k2), rowN G1 k1 g1 (upto 1 k1), rowN X4 vn x4 (upto mk vn), rowN X33 d3.length x33 (upto (1 + (d1.length : Int) + (d2.length : Int)) d3.length), rowN X32 d2.length x32 (upto (1 + (d1.length : Int)) d2.length), rowN X31 d1.length x31 (upto 1 d1.length), rowN X6 vn x6 V, rowN X53 d3.length x53 d3, rowN X52 d2.length x52 d2, rowN X51 d1.length x51 d1, .blk w11.heap.size [.int .i64 RT.a.base, .slice G1 k1 g1, .int .i64 RT.b.base, .slice G2 k2 g2, .int .i64 RT.s.base, .slice G3 k3 g3, .int .i64 RT.carry] 65, .blk w8.heap.size [.int .i64 b1, .slice X31 d1.length x31, .int .i64 b2, .slice X32 d2.length x32, .int .i64 b3, .slice X33 d3.length x33, .int .i64 cy] 65, .blk w6.heap.size [.int .i64 RT.a.base, .slice S1 k1 s1, .int .i64 RT.b.base, .slice S2 k2 s2, .int .i64 RT.s.base, .slice S3 k3 s3, .int .i64 RT.carry] 65, rowN S3 k3 s3 e3, rowN S2 k2 s2 e2, rowN S1 k1 s1 e1, rowN X2 vn x2 V, rowN X13 d3.length x13 d3, rowN X12 d2.length x12 d2, rowN X11 d1.length x11 d1, .blk w.heap.size [.int .i64 b1, .slice A1 d1.length c1, .int .i64 b2, .slice A2 d2.length c2, .int .i64 b3, .slice A3 d3.length c3, .int .i64 cy] 60] w27 := hK.keep hw
  clear hw
  obtain ⟨q0, p0, o0, q1, p1, o1, q2, p2, o2, q3, p3, o3, q4, p4, o4, -⟩ := hK.cells
  go_wp2_with fail
  clear q0 p0 o0 q1 p1 o1 q2 p2 o2 q3 p3 o3 q4 p4 o4
  refine (heldMachine_any _ _ _ _ G1 G2 G3 k1 k2 k3 g1 g2 g3 1 _ (Kn.riN (hK.sel [10] 99 (by decide) (by decide))) (Kn.riN (hK.sel [9] 99 (by decide) (by decide))) (Kn.riN (hK.sel [8] 99 (by decide) (by decide))) (by omega) (by omega)).mono ?_; rintro e w28 ⟨rfl, hw⟩
  have hK : Kn w [.blk w25.heap.size [.int .i64 RT.a.base, .slice H1 k1 h1, .int .i64 RT.b.base, .slice H2 k2 h2, .int .i64 RT.s.base, .slice H3 k3 h3, .int .i64 RT.carry] 65, rowN H3 k3 h3 e3, rowN H2 k2 h2 e2, rowN H1 k1 h1 e1, rowN X8 vn x8 V, rowN X73 d3.length x73 d3, rowN X72 d2.length x72 d2, rowN X71 d1.length x71 d1, rowN G3 k3 g3 (upto (1 + (k1 : Int) + (k2 : Int)) k3), rowN G2 k2 g2 (upto (1 + (k1 : Int)) k2), rowN G1 k1 g1 (upto 1 k1), rowN X4 vn x4 (upto mk vn), rowN X33 d3.length x33 (upto (1 + (d1.length : Int) + (d2.length : Int)) d3.length), rowN X32 d2.length x32 (upto (1 + (d1.length : Int)) d2.length), rowN X31 d1.length x31 (upto 1 d1.length), rowN X6 vn x6 V, rowN X53 d3.length x53 d3, rowN X52 d2.length x52 d2, rowN X51 d1.length x51 d1, .blk w11.heap.size [.int .i64 RT.a.base, .slice G1 k1 g1, .int .i64 RT.b.base, .slice G2 k2 g2, .int .i64 RT.s.base, .slice G3 k3 g3, .int .i64 RT.carry] 65, .blk w8.heap.size [.int .i64 b1, .slice X31 d1.length x31, .int .i64 b2, .slice X32 d2.length x32, .int .i64 b3, .slice X33 d3.length x33, .int .i64 cy] 65, .blk w6.heap.size [.int .i64 RT.a.base, .slice S1 k1 s1, .int .i64 RT.b.base, .slice S2 k2 s2, .int .i64 RT.s.base, .slice S3 k3 s3, .int .i64 RT.carry] 65, rowN S3 k3 s3 e3, rowN S2 k2 s2 e2, rowN S1 k1 s1 e1, rowN X2 vn x2 V, rowN X13 d3.length x13 d3, rowN X12 d2.length x12 d2, rowN X11 d1.length x11 d1, .blk w.heap.size [.int .i64 b1, .slice A1 d1.length c1, .int .i64 b2, .slice A2 d2.length c2, .int .i64 b3, .slice A3 d3.length c3, .int .i64 cy] 60] w28 := hK.keep hw
  clear hw
  rw [HRK.out]
  obtain ⟨q0, p0, o0, q1, p1, o1, q2, p2, o2, q3, p3, o3, q4, p4, o4, -⟩ := hK.cells
  go_wp2_with fail
  go_ret
  exact ⟨rfl, hK.below⟩
end Go.Proofs.Ytkaaiocbiknipaa

namespace Go.Proofs.Ytkaaiocbiknipaa.fnExactSumOn
open Go.ChangeShapes Go.WideShapes Go.ChangeAt Go.RowKit
theorem own : ownKnob Try.prog.godebug = none := by kernel_rfl
theorem laidOut : laidOutB Try.prog = true := by kernel_rfl
set_option maxRecDepth 100000 in
theorem contract (H : Type) (enc : TypeId × Value → H) (W : World) (base : Nat) (args : Array Value) (ds gs : List (DataW H)) (before : List MemPlace)
    (hval : ∀ (j : Nat) t v, Try.f8.params[j]? = some t → args[j]? = some v → Value.okWide Try.prog W .any base t v)
    (hW : DataW.Whole enc Try.prog Try.f8.params.toList Rows.fnExactSumOnSpec.vars false W args.toList ds gs before) :
    Calls Try.prog 8 args W fun e W' => ∃ v, e = .returned v ∧ Rows.fnExactSumOnSpec.post enc Try.prog Try.f8 false true false false W args v W' := by
  have hW' := hW
  obtain ⟨p, q, hA0, hV, rfl, hfz, hnd⟩ := hW
  have hA : DataW.TrodAll enc Try.prog W 0 (fun _ => true) true Try.f8.params.toList args.toList ds p := hA0
  rw [Try.params8] at hA hval
  obtain ⟨v0, vs0, d0, ds0, p0, q0, hargs, rfl, rfl, h0, r0⟩ := trodAll_cons hA
  obtain ⟨v1, vs1, d1, ds1, p1, q1, rfl, rfl, rfl, h1, r1⟩ := trodAll_cons r0
  obtain ⟨rfl, rfl, rfl⟩ := trodAll_nil r1
  obtain rfl : args = #[v0, v1] := by cases args; simp_all
  obtain ⟨rfl, rfl⟩ := trodVars_none hV
  clear hA0
  simp only [List.append_nil] at hW'
  have hlt : ∀ x ∈ p0 ++ (p1), x.block < W.heap.size := fun x hx => by
    have := hW'.lt x (by simpa using hx)
    simpa using this
  obtain ⟨cs, rfl, hsz⟩ := okWide_struct Try.underlying60 (hval 0 _ _ rfl rfl)
  have t0 := h0
  obtain ⟨fuel0, hf0⟩ := h0
  obtain ⟨b1, A1, n1, c1, e1, b2, A2, n2, c2, e2, b3, A3, n3, c3, e3, cy, hcs, z1, z2, z3, m1, m2, m3⟩ := rd_lmachine hf0
  obtain rfl : cs = #[.int .i64 b1, .slice A1 n1 c1, .int .i64 b2, .slice A2 n2 c2, .int .i64 b3, .slice A3 n3 c3, .int .i64 cy] := by
    have : cs.toList = [.int .i64 b1, .slice A1 n1 c1, .int .i64 b2, .slice A2 n2 c2, .int .i64 b3, .slice A3 n3 c3, .int .i64 cy] := hcs
    rw [← Array.toArray_toList (xs := cs), this]
  obtain ⟨VA, Vn, Vc, rfl⟩ := okWide_slice Try.underlying24 (hval 1 _ _ rfl rfl)
  have t1 := h1
  obtain ⟨fuel1, hf1⟩ := h1
  obtain ⟨A', n', c', Vxs, hcs1, hr1, hn1⟩ := rd_ints hf1
  obtain ⟨rfl, rfl, rfl⟩ : A' = VA ∧ n' = Vn ∧ c' = Vc := by
    have : [Value.slice VA Vn Vc] = [.slice A' n' c'] := hcs1
    injection this with this
    injection this with e1 e2 e3
    exact ⟨e1.symm, e2.symm, e3.symm⟩
  have walk : Calls Try.prog 8 #[.agg #[.int .i64 b1, .slice A1 n1 c1, .int .i64 b2, .slice A2 n2 c2, .int .i64 b3, .slice A3 n3 c3, .int .i64 cy], .slice A' n' c'] W fun e w' => e = .returned (.bool true) ∧ Below W.heap.size W w' :=
    law_SumOn b1 b2 b3 cy A1 A2 A3 n1 n2 n3 c1 c2 c3 e1 e2 e3 A' n' c' Vxs W z1 z2 z3 m1 m2 m3 hr1 hn1
  refine walk.mono fun e W' ⟨he, hb⟩ => ?_
  subst he
  have u0 := Below.trod laidOut (by kernel_rfl) (of_decide_eq_true (by kernel_rfl)) t0 hb (fun x hx => hlt x (by simp only [List.mem_append]; simp [hx]))
  have u1 := Below.trod laidOut (by kernel_rfl) (of_decide_eq_true (by kernel_rfl)) t1 hb (fun x hx => hlt x (by simp only [List.mem_append]; simp [hx]))
  exact ⟨_, rfl, [d0, d1], [], p0 ++ (p1 ++ []), [], p0 ++ (p1 ++ []), [], by simpa using hW', trodAll_cons_mk (shut_bool Try.underlying4 _) trodAll_mk0, (trodAll_cons_mk u0 (trodAll_cons_mk u1 trodAll_mk0)), rfl, hb.frame _, fun h => by cases h⟩
theorem reads (os : Os) {H : Type} (enc : TypeId × Value → H) : ∃ places, DataW.whole enc Try.prog ((World.holding Try.prog os ⟨#[], #[], []⟩).forCall (fun _ _ => 0) ⟨#[], #[.agg #[.int .i64 0, .slice none 0 0, .int .i64 0, .slice none 0 0, .int .i64 0, .slice none 0 0, .int .i64 0], .slice none 0 0], []⟩).memory Try.f8.params.toList Rows.fnExactSumOnSpec.vars false (#[.agg #[.int .i64 0, .slice none 0 0, .int .i64 0, .slice none 0 0, .int .i64 0, .slice none 0 0, .int .i64 0], .slice none 0 0] : Array Value).toList 8 = some ([.agg [.agg [.lit (.int .i64 0), .nil], .agg [.lit (.int .i64 0), .nil], .agg [.lit (.int .i64 0), .nil], .lit (.int .i64 0)], .nil], [], places) :=
  ⟨[], by kernel_rfl⟩
set_option maxRecDepth 100000 in
theorem lifted (os : Os) (started : os.Started) (H : Type) (enc : TypeId × Value → H) (F : Stop.Interp) :
    ReturnsInHanded {} Try.checked os 8 .any ((OpenSpec.ofChange Rows.fnExactSumOnSpec).preRow enc Try.prog Try.f8 Rows.fnExactSumOnRow.domain false Rows.fnExactSumOnRow.laid) (((OpenSpec.ofChange Rows.fnExactSumOnSpec).at F).post enc Try.prog Try.f8 false true false false) := by
  obtain ⟨places, hx⟩ := reads os enc
  refine returnsInHanded_of_row (C := Try.checked) (s := OpenSpec.ofChange Rows.fnExactSumOnSpec) own started (by kernel_rfl) Try.func8
    (witness_row_at (enc := enc) (C := Try.checked) false (World.holding Try.prog os ⟨#[], #[], []⟩) #[.agg #[.int .i64 0, .slice none 0 0, .int .i64 0, .slice none 0 0, .int .i64 0, .slice none 0 0, .int .i64 0], .slice none 0 0] rfl (by kernel_rfl) (by kernel_rfl) (by kernel_rfl)
      (OpenSpec.preRow_of_cond 8 hx (by kernel_rfl) (fun k hk => by cases hk) (by kernel_rfl) (laidMet_of_run' 8 (by kernel_rfl) (by kernel_rfl)))) ?_
  intro W base args ds gs before hval hW _ _ _ _ _ _
  exact contract H enc W base args ds gs before hval hW
set_option maxRecDepth 100000 in
set_option maxHeartbeats 20000000 in
theorem closed : joinedFacts Try.pinned.checked.prog 8 Try.f8 (OpenSpec.ofChange Rows.fnExactSumOnSpec).bare Rows.fnExactSumOnRow = true := by
  unfold joinedFacts
  simp only [Bool.and_eq_true]
  repeat' apply And.intro
  all_goals (as_aux_lemma => kernel_rfl)
theorem named : Try.pinned.checked.prog.funcNamed Rows.fnExactSumOnRow.func = some 8 := by kernel_rfl
theorem said : Rows.FnExactSumOnSaid :=
  OpenClaim.holds_of_cond 8 Try.f8 rfl rfl rfl rfl rfl rfl rfl ⟨rfl, rfl, rfl, rfl, rfl⟩ rfl rfl rfl rfl rfl named Try.func8 closed
    (of_decide_eq_true (by kernel_rfl)) (by unfold Func.isWrapper; first | (rw [if_pos (by decide +kernel)]; kernel_rfl) | (rw [if_neg (by decide +kernel)]; exact ⟨rfl, rfl⟩))
    (fun os started H enc _ F => by rw [OpenClaim.pre_eq_preRow]; exact lifted os started H enc F)
end Go.Proofs.Ytkaaiocbiknipaa.fnExactSumOn
