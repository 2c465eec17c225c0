/- Part 9: lemmas and contracts of the claim's functions. -/
import Derived.Test.YtkfbfainhmkkdaaZC1
import Derived.Test.YtkfbfainhmkkdaaZC2
import Derived.Test.YtkfbfainhmkkdaaZC3
import Derived.Test.YtkfbfainhmkkdaaZC4
import Derived.Test.YtkfbfainhmkkdaaZC5
import Derived.Test.YtkfbfainhmkkdaaZC6
import Derived.Test.YtkfbfainhmkkdaaZC7
import Derived.Test.YtkfbfainhmkkdaaZC8
import Derived.Deep.RegionHeld3
namespace Go.Proofs.Ytkfbfainhmkkdaa
open Go.RowKit Go.Sort
/-- a row of bytes that is owned -/
def rowB (v : Value) (bs : List UInt8) : Ent := .row v 5 1 bs.length (bs.map byteV)
theorem kn_pushB {ops : Array Oper} {rest : List Oper} {o : Oper} {a : Act} {Q : Exit → Act → World → Prop} {w0 w : World} {m : List Ent} (hgd : o.guard = none) (s x : Operand) (ho : o.op = .call { callee := .builtin .append, args := #[s, x], argTypes := #[22, 22] })
    (v : Value) (bs : List UInt8) (hs : a.eval s = v) {g c : Nat} {T' : TypeId} {z : Int} (hx : a.eval x = .slice (some ⟨g, 0, none⟩) 1 c)
    (hK : Kn w0 (.blk g [.int .u8 z] T' :: rowB v bs :: m) w) (hz : 0 ≤ z ∧ z < 256) (hl : bs.length ≤ 10000000)
    (h : ∀ v' w', Kn w0 (rowB v' (bs ++ [UInt8.ofNat z.toNat]) :: m) w' → wpList Try.prog ops Q rest (a.put o.dst v') w') : wpList Try.prog ops Q (o :: rest) a w := by
  refine kn_app tpB hgd s x ho v bs.length (bs.map byteV) hs hx hK rfl (by simp [Value.oneCell']) (by omega) (by omega) (fun v' w' hK' => h v' w' ?_)
  unfold rowB
  rw [List.length_append, List.map_append, List.map_cons, List.map_nil, ← ofNat_byte hz.1 hz.2]
  exact hK'
theorem kn_litB {w0 w : World} {m : List Ent} {g : Nat} {zs : List Int} {bs : List UInt8} (h : Kn w0 (.blk g (zs.map (Value.int .u8)) 5 :: m) w) (hz : zs.map (Value.int .u8) = bs.map byteV) (hl : bs.length ≤ 1000000) : Kn w0 (rowB (.slice (some ⟨g, 0, none⟩) bs.length bs.length) bs :: m) w := by
  unfold rowB
  rw [hz] at h
  exact h.litRow (by simp) (by simp only [maxLen]; omega)
/-- seven bits in a byte, the lowest ones first -/
def varB (n : Nat) : List UInt8 := if h : n < 128 then [UInt8.ofNat n] else UInt8.ofNat (128 + n % 128) :: varB (n / 128)
theorem varB_lt {n : Nat} (h : n < 128) : varB n = [UInt8.ofNat n] := by rw [varB, dif_pos h]
theorem varB_ge {n : Nat} (h : ¬ n < 128) : varB n = UInt8.ofNat (128 + n % 128) :: varB (n / 128) := by rw [varB, dif_neg h]
theorem varB_len : ∀ (k n : Nat), n < 128 ^ (k + 1) → (varB n).length ≤ k + 1
  | 0, n, h => by rw [varB_lt (by simpa using h)]; simp
  | k + 1, n, h => by
    by_cases h1 : n < 128
    · rw [varB_lt h1]; simp
    · rw [varB_ge h1, List.length_cons]
      have := varB_len k (n / 128) (by rw [Nat.pow_succ] at h; omega)
      omega
def insB (x : Ins) : List UInt8 := toB x.op :: varB x.arg.toNat
def progB (xs : List Ins) : List UInt8 := 80 :: UInt8.ofNat xs.length :: xs.flatMap insB
def packP (xs : List Ins) : List UInt8 := sealB (progB xs)
theorem instrOk_bd {op arg : Int} (h : instrOk op arg = true) : 1 ≤ op ∧ op ≤ 10 ∧ 0 ≤ arg ∧ arg ≤ 1000000000000 := by
  rcases op_cases op with rfl | rfl | rfl | rfl | rfl | rfl | rfl | rfl | rfl | rfl | h1
  rotate_right 1
  · rw [instrOk_else h1] at h; cases h
  all_goals
    simp [instrOk, betB] at h
    omega
theorem vprog_each {xs : List Ins} (h : vprog xs = true) : xs.length ≤ 120 ∧ ∀ x ∈ xs, instrOk x.op x.arg = true := by
  unfold vprog at h
  simp only [Bool.and_eq_true, decide_eq_true_eq] at h
  refine ⟨h.2, fun x hx => ?_⟩
  obtain ⟨k, hk, rfl⟩ := List.getElem_of_mem hx
  rcases hi : instrOk xs[k].op xs[k].arg with _ | _
  · have h2 : progD xs = none := progD_none (k := k + 1) (by
      rw [progD_succ hk]
      cases progD (xs.take k) with
      | none => rfl
      | some d => simp [stepI, hi])
    rw [h2] at h; simp at h
  · rfl
theorem insB_len {x : Ins} (h : instrOk x.op x.arg = true) : (insB x).length ≤ 7 := by
  have h1 := instrOk_bd h
  have := varB_len 5 x.arg.toNat (by omega)
  simp [insB]; omega
theorem flat_len {xs : List Ins} (h : ∀ x ∈ xs, instrOk x.op x.arg = true) : (xs.flatMap insB).length ≤ 7 * xs.length := by
  induction xs with
  | nil => simp
  | cons x xs ih =>
    rw [List.flatMap_cons, List.length_append, List.length_cons]
    have h1 := insB_len (h x (by simp))
    have h2 := ih (fun y hy => h y (by simp [hy]))
    omega
def progP (n : Nat) (xs : List Ins) : List UInt8 := 80 :: UInt8.ofNat n :: xs.flatMap insB
theorem progP_succ {n k : Nat} {xs : List Ins} (h : k < xs.length) : progP n (xs.take (k + 1)) = progP n (xs.take k) ++ insB xs[k] := by
  unfold progP; rw [List.take_succ_eq_append_getElem h, List.flatMap_append]; simp
theorem varB_bd {a : Nat} {l pre : List UInt8} (h : pre ++ varB a = l) (hl : l.length ≤ 7) : pre.length ≤ 6 := by
  have h1 := congrArg List.length h
  rw [List.length_append] at h1
  have : 1 ≤ (varB a).length := by rw [varB]; split <;> simp
  omega
set_option maxRecDepth 100000 in
set_option maxHeartbeats 3200000 in
theorem PackProgram_true (A : Option Addr) (n c : Nat) (xs : List Ins) (w : World) (hr : RL InsM 2 w A n xs) (hv : vprog xs = true) :
    Calls Try.prog 32 #[.slice A n c] w fun e w' => e = .returned (.tuple #[.string ⟨(packP xs).toArray⟩, .int .i64 0]) ∧ Below w.heap.size w w' := by
  obtain ⟨h120, hall⟩ := vprog_each hv
  have hln := hr.1
  have HL := Lib.hid hr.1
  have KV := Lib.hid (fun W (hW : Below w.heap.size w W) => calls_val (ValidProgram_any A n c xs W (hr.below steady_InsM hW) (by omega)) (congrArg Value.bool hv))
  have hn : n ≤ 120 := by omega
  have y0 : IntKind.u8.wrap (n : Int) = (n : Int) := wrapB (by omega)
  clear hv
  go_enter Try.func32, Try.ntmps32
  go_wp2_with fail
  refine (KV.out _ (Below.refl _ _)).mono ?_; rintro e w1 ⟨rfl, hw⟩
  have hK1 := (Kn.nil w).keep hw
  have hK2 := kn_litB (zs := [80, (n : Int)]) (bs := progP n []) (hK1.al [.int .u8 80, .int .u8 n] 5) (by unfold progP; simp [byteV]; omega) (by simp [progP])
  clear hw hK1
  go_wp2_with fail
  go_loopw [4, 17] (fun out ii wr => ∃ k : Nat, k ≤ n ∧ ii = .int .i64 k ∧ Kn w [rowB out (progP n (xs.take k))] wr) (fun _ i _ => n - (intOf i).toNat)
  case atStart => exact ⟨0, Nat.zero_le _, rfl, by simpa [progP] using hK2⟩
  case round =>
    rename_i out _
    obtain ⟨k, hk, rfl, hK⟩ := hrel
    obtain ⟨wo, rfl⟩ : ∃ wo : World, wo = wr := ⟨_, rfl⟩
    have hpl : (progP n (xs.take k)).length ≤ 2 + 7 * 120 := by
      have := flat_len (xs := xs.take k) (fun x hx => hall x (List.mem_of_mem_take hx))
      rw [List.length_take] at this
      simp [progP] at this ⊢; omega
    by_cases hkn : k < n
    · obtain ⟨ad, hA, hlt, hkl, hx⟩ := (hr.below steady_InsM hK.below).at_ hkn
      obtain ⟨x1, x2⟩ := hx
      have HP := Lib.hid (progP_succ (n := n) hkl)
      have hib := instrOk_bd (hall _ (List.getElem_mem hkl))
      have hil := insB_len (hall _ (List.getElem_mem hkl))
      obtain ⟨x, hxe⟩ : ∃ x, xs[k] = x := ⟨_, rfl⟩
      rw [hxe] at x1 x2 HP hib hil
      have hi0 : (0 : Int) ≤ (k : Int) := by omega
      have hi1 : (k : Int) < (n : Int) := by omega
      have y1 : IntKind.u8.wrap x.op = x.op := wrapB (by omega)
      subst hA
      clear hxe
      have hKx := (hK.al [.int .i64 x.op, .int .i64 x.arg] 46).sw1
      go_wp2_with (first | (refine wpList.kn hKx ?_; clear hKx; intro w2 hK2; obtain ⟨a1, a2, a3, -⟩ := hK2.cells) | (at_builtin; refine kn_pushB rfl _ _ rfl _ _ rfl rfl (hK2.al [.int .u8 x.op] 5) (by omega) (by omega) ?_; intro v5 w6 hK3; clear a1 a2 a3 hK2; obtain ⟨a1, a2, a3, -⟩ := hK3.cells))
      go_loopw [4, 7] (fun out aa wi => ∃ (a : Nat) (pre : List UInt8), aa = .int .i64 a ∧ pre ++ varB a = varB x.arg.toNat ∧ (a : Int) ≤ 1000000000000 ∧ Kn w [rowB out (progP n (xs.take k) ++ [toB x.op] ++ pre)] wi) (fun _ a _ => (intOf a).toNat)
      case atStart => exact ⟨x.arg.toNat, [], by rw [show ((x.arg.toNat : Nat) : Int) = x.arg by omega], rfl, by omega, by rw [List.append_nil]; exact hK3.drop1⟩
      case round =>
        rename_i out2 _
        obtain ⟨a, pre, rfl, hpre, ha, hKi⟩ := hrel
        have hpb := varB_bd hpre (by have h7 := hil; simp [insB] at h7; omega)
        have HPR := Lib.hid hpre
        clear hpre
        by_cases h128 : a < 128
        · have y3 : IntKind.u8.wrap (a : Int) = (a : Int) := wrapB (by omega)
          have i1 : ¬ (127 : Int) < (a : Int) := by omega
          have i2 : ¬ (128 : Int) ≤ (a : Int) := by omega
          have HV := Lib.hid (varB_lt h128)
          clear h128
          go_wp2_with (at_builtin; refine kn_pushB rfl _ _ rfl _ _ rfl rfl (hKi.al [.int .u8 (a : Int)] 5) (by omega) (by simp; omega) ?_; intro v7 w7 hK7)
          go_roundw
          case rel => exact ⟨k + 1, by omega, by go_num, by
            have h1 : progP n (xs.take k) ++ [toB x.op] ++ pre ++ [UInt8.ofNat (a : Int).toNat] = progP n (xs.take (k + 1)) := by
              have h2 := HPR.out
              rw [HV.out] at h2
              rw [HP.out, Int.toNat_natCast]
              unfold insB
              rw [← h2]; simp
            rw [h1] at hK7; exact hK7⟩
          case measure => simp [intOf]; omega
        · have y3 : IntKind.u8.wrap ((a : Int) % 128) = (a : Int) % 128 := wrapB (by omega)
          have y4 : IntKind.u8.wrap ((a : Int) % 128 + 128) = (a : Int) % 128 + 128 := wrapB (by omega)
          have y5 : IntKind.u8.wrap (128 + (a : Int) % 128) = 128 + (a : Int) % 128 := wrapB (by omega)
          have i1 : (127 : Int) < (a : Int) := by omega
          have i2 : (128 : Int) ≤ (a : Int) := by omega
          have HV := Lib.hid (varB_ge h128)
          clear h128
          go_wp2_with (at_builtin; refine kn_pushB rfl _ _ rfl _ _ rfl rfl (hKi.al [.int .u8 ((a : Int) % 128 + 128)] 5) (by omega) (by simp; omega) ?_; intro v7 w7 hK7)
          go_roundw
          case rel => exact ⟨a / 128, pre ++ [UInt8.ofNat (128 + a % 128)], rfl, by rw [← HPR.out, HV.out]; simp, by omega, by
            have h1 : ((a : Int) % 128 + 128).toNat = 128 + a % 128 := by omega
            rw [h1] at hK7; rw [← List.append_assoc]; exact hK7⟩
          case measure => simp [intOf]; omega
    · have HF : Hid (progP n (xs.take k) = progB xs) := by
        simp only [Hid, progP, progB]; rw [List.take_of_length_le (by have := HL.out; omega), HL.out]
      rw [HF.out] at hK
      have ho := hK.ownB
      obtain ⟨A5, c5, rfl, -⟩ := ho.reads
      have hpl2 : (progB xs).length ≤ 1000000 := by rw [← HF.out]; omega
      have KS := Lib.hid (sealed_any w.heap.size A5 _ c5 _ wo ho hpl2 hK.size)
      clear ho
      go_wp2_with fail
      refine KS.out.mono ?_; rintro e w7 ⟨rfl, hw⟩
      have HB := Lib.hid (hK.below.trans hw)
      clear hw
      go_wp2_with fail
      refine bodyPost_ret (v := .tuple #[.string ⟨(packP xs).toArray⟩, .int .i64 0]) (by simp [results, Try.results32, go_sem, packP]) rfl ⟨rfl, HB.out⟩
theorem PackProgram_false (A : Option Addr) (n c : Nat) (xs : List Ins) (w : World) (hr : RL InsM 2 w A n xs) (hm : n ≤ 9223372036854775807) (hv : vprog xs = false) :
    Calls Try.prog 32 #[.slice A n c] w fun e w' => e = .returned (.tuple #[.string ⟨#[]⟩, .int .i64 1]) ∧ Below w.heap.size w w' := by
  have KV := Lib.hid (calls_val (ValidProgram_any A n c xs w hr hm) (congrArg Value.bool hv))
  clear hv hr
  go_enter Try.func32, Try.ntmps32
  go_wp2_with fail
  refine KV.out.mono ?_; rintro e w1 ⟨rfl, hw⟩
  go_wp2_with fail
  refine bodyPost_ret (v := .tuple #[.string ⟨#[]⟩, .int .i64 1]) (by simp [results, Try.results32, go_sem]) rfl ⟨rfl, hw⟩
set_option maxRecDepth 100000 in
set_option maxHeartbeats 3200000 in
theorem l27Program_any (A : Option Addr) (n c : Nat) (xs : List Ins) (w : World) (hr : RL InsM 2 w A n xs) (hv : vprog xs = true) :
    Calls Try.prog 97 #[.slice A n c] w fun e w' => e = .returned (.string ⟨(packP xs).toArray⟩) ∧ Below w.heap.size w w' := by
  obtain ⟨h120, hall⟩ := vprog_each hv
  have hln := hr.1
  have HL := Lib.hid hr.1
  have hn : n ≤ 120 := by omega
  have y0 : IntKind.u8.wrap (n : Int) = (n : Int) := wrapB (by omega)
  clear hv
  go_enter Try.func97, Try.ntmps97
  have hK2 := kn_litB (zs := [80, (n : Int)]) (bs := progP n []) ((Kn.nil w).al [.int .u8 80, .int .u8 n] 5) (by unfold progP; simp [byteV]; omega) (by simp [progP])
  go_wp2_with fail
  go_loopw [3, 4] (fun out ii wr => ∃ k : Nat, k ≤ n ∧ ii = .int .i64 k ∧ Kn w [rowB out (progP n (xs.take k))] wr) (fun _ i _ => n - (intOf i).toNat)
  case atStart => exact ⟨0, Nat.zero_le _, rfl, by simpa [progP] using hK2⟩
  case round =>
    rename_i out _
    obtain ⟨k, hk, rfl, hK⟩ := hrel
    obtain ⟨wo, rfl⟩ : ∃ wo : World, wo = wr := ⟨_, rfl⟩
    have hpl : (progP n (xs.take k)).length ≤ 2 + 7 * 120 := by
      have := flat_len (xs := xs.take k) (fun x hx => hall x (List.mem_of_mem_take hx))
      rw [List.length_take] at this
      simp [progP] at this ⊢; omega
    by_cases hkn : k < n
    · obtain ⟨ad, hA, hlt, hkl, hx⟩ := (hr.below steady_InsM hK.below).at_ hkn
      obtain ⟨ad', hA', hlt0, hkl', hx0⟩ := hr.at_ hkn
      obtain rfl : ad = ad' := by rw [hA] at hA'; injection hA'
      obtain ⟨x1, x2⟩ := hx
      obtain ⟨z1, z2⟩ := hx0
      have HP := Lib.hid (progP_succ (n := n) hkl)
      have hib := instrOk_bd (hall _ (List.getElem_mem hkl))
      have hil := insB_len (hall _ (List.getElem_mem hkl))
      obtain ⟨x, hxe⟩ : ∃ x, xs[k] = x := ⟨_, rfl⟩
      rw [hxe] at x1 x2 HP hib hil z1 z2
      have hi0 : (0 : Int) ≤ (k : Int) := by omega
      have hi1 : (k : Int) < (n : Int) := by omega
      have y1 : IntKind.u8.wrap x.op = x.op := wrapB (by omega)
      have Z2 := Lib.hid z2
      clear hxe hA' z1 z2
      subst hA
      go_wp2_with (at_builtin; refine kn_pushB rfl _ _ rfl _ _ rfl rfl (hK.al [.int .u8 x.op] 5) (by omega) (by omega) ?_; intro v5 w6 hK3; have x3 := (hK3.below.cell (p := ⟨(ad.add (k * 2)).block, (ad.add (k * 2)).off + 1, none⟩) (by rw [block_of_add]; exact hlt0)).trans Z2.out)
      go_loopw [3, 5] (fun out aa wi => ∃ (a : Nat) (pre : List UInt8), aa = .int .i64 a ∧ pre ++ varB a = varB x.arg.toNat ∧ (a : Int) ≤ 1000000000000 ∧ Kn w [rowB out (progP n (xs.take k) ++ [toB x.op] ++ pre)] wi) (fun _ a _ => (intOf a).toNat)
      case atStart => exact ⟨x.arg.toNat, [], by rw [show ((x.arg.toNat : Nat) : Int) = x.arg by omega], rfl, by omega, by rw [List.append_nil]; exact hK3⟩
      case round =>
        rename_i out2 _
        obtain ⟨a, pre, rfl, hpre, ha, hKi⟩ := hrel
        have hpb := varB_bd hpre (by have h7 := hil; simp [insB] at h7; omega)
        have HPR := Lib.hid hpre
        clear hpre
        by_cases h128 : a < 128
        · have y3 : IntKind.u8.wrap (a : Int) = (a : Int) := wrapB (by omega)
          have i1 : ¬ (127 : Int) < (a : Int) := by omega
          have i2 : ¬ (128 : Int) ≤ (a : Int) := by omega
          have HV := Lib.hid (varB_lt h128)
          clear h128
          go_wp2_with (at_builtin; refine kn_pushB rfl _ _ rfl _ _ rfl rfl (hKi.al [.int .u8 (a : Int)] 5) (by omega) (by simp; omega) ?_; intro v7 w7 hK7)
          go_roundw
          case rel => exact ⟨k + 1, by omega, by go_num, by
            have h1 : progP n (xs.take k) ++ [toB x.op] ++ pre ++ [UInt8.ofNat (a : Int).toNat] = progP n (xs.take (k + 1)) := by
              have h2 := HPR.out
              rw [HV.out] at h2
              rw [HP.out, Int.toNat_natCast]
              unfold insB
              rw [← h2]; simp
            rw [h1] at hK7; exact hK7⟩
          case measure => simp [intOf]; omega
        · have y3 : IntKind.u8.wrap ((a : Int) % 128) = (a : Int) % 128 := wrapB (by omega)
          have y4 : IntKind.u8.wrap ((a : Int) % 128 + 128) = (a : Int) % 128 + 128 := wrapB (by omega)
          have y5 : IntKind.u8.wrap (128 + (a : Int) % 128) = 128 + (a : Int) % 128 := wrapB (by omega)
          have i1 : (127 : Int) < (a : Int) := by omega
          have i2 : (128 : Int) ≤ (a : Int) := by omega
          have HV := Lib.hid (varB_ge h128)
          clear h128
          go_wp2_with (at_builtin; refine kn_pushB rfl _ _ rfl _ _ rfl rfl (hKi.al [.int .u8 (128 + (a : Int) % 128)] 5) (by omega) (by simp; omega) ?_; intro v7 w7 hK7)
          go_roundw
          case rel => exact ⟨a / 128, pre ++ [UInt8.ofNat (128 + a % 128)], rfl, by rw [← HPR.out, HV.out]; simp, by omega, by
            have h1 : (128 + (a : Int) % 128).toNat = 128 + a % 128 := by omega
            rw [h1] at hK7; rw [← List.append_assoc]; exact hK7⟩
          case measure => simp [intOf]; omega
    · have HF : Hid (progP n (xs.take k) = progB xs) := by
        simp only [Hid, progP, progB]; rw [List.take_of_length_le (by have := HL.out; omega), HL.out]
      rw [HF.out] at hK
      have ho := hK.ownB
      obtain ⟨A5, c5, rfl, -⟩ := ho.reads
      have hpl2 : (progB xs).length ≤ 1000000 := by rw [← HF.out]; omega
      have KS := Lib.hid (l27Ended_any w.heap.size A5 _ c5 _ wo ho hpl2 hK.size)
      clear ho
      go_wp2_with fail
      refine KS.out.mono ?_; rintro e w7 ⟨rfl, hw⟩
      have HB := Lib.hid (hK.below.trans hw)
      clear hw
      go_wp2_with fail
      go_ret
      exact ⟨rfl, HB.out⟩
end Go.Proofs.Ytkfbfainhmkkdaa

namespace Go.Proofs.Ytkfbfainhmkkdaa
open Go.RowKit Go.Sort
section
variable {o : Oper} {a : Act} {K : Act → World → Prop} {Q : Exit → Act → World → Prop} {w w0 : World} {m : List Ent}
/-- append as one operation of a region that draws -/
theorem appGo {t e : TypeId} {z : Value} {size bytes : Nat} (T : TP t e z size bytes) (s x : Operand) (ho : o.op = .call { callee := .builtin .append, args := #[s, x], argTypes := #[t, t] })
    (base : Nat) (v : Value) (n : Nat) (xs : List Value) (hs : a.eval s = v) (hown : w.ownsRow base e size v n xs) (ad : Addr) (m c : Nat) (news : List Value) (hx : a.eval x = .slice (some ad) m c)
    (hl : news.length = m * size) (hnews : ∀ j u, news[j]? = some u → w.cell? (ad.add j) = some u) (h1 : ∀ u ∈ news, u.oneCell' = true)
    (h63 : n + m ≤ 1000000000000000) (hb : (n + m) * bytes ≤ 140737488355328) (hbase : base ≤ w.heap.size)
    (h : ∀ v' w', w'.ownsRow base e size v' (n + m) (xs ++ news) → w.grownBy w' v.ownBlock → (v'.ownBlock = v.ownBlock ∨ v'.ownBlock = some w.heap.size) → K (a.put o.dst v') w') : Oper.wp Try.prog o a w K Q := by
  obtain ⟨i0, hi, hz0, hz1, hz2⟩ := info_parts T.info
  obtain ⟨v', w', hrun, h2, h3, _, h5⟩ := run_append_own_at (P := Try.prog) w base t o.type e i0 z size bytes T.under hi hz0 hz1 hz2 T.zc T.pos v n xs hown ad m c news hl hnews h1 (by simp only [maxLen]; omega) hb hbase
  unfold Oper.wp execOp
  simp only [ho, resolve, invoke, builtin, Sem.run_bind, Sem.run_pure, Result.andThen_ok, List.map_toArray, List.map_cons, List.map_nil, hs, hx, hrun]
  exact h v' w' h2 h3 h5
theorem kn_pushBo (s x : Operand) (ho : o.op = .call { callee := .builtin .append, args := #[s, x], argTypes := #[22, 22] })
    (v : Value) (bs : List UInt8) (hs : a.eval s = v) {g c : Nat} {T' : TypeId} {z : Int} (hx : a.eval x = .slice (some ⟨g, 0, none⟩) 1 c)
    (hK : Kn w0 (.blk g [.int .u8 z] T' :: rowB v bs :: m) w) (hz : 0 ≤ z ∧ z < 256) (hl : bs.length ≤ 10000000)
    (h : ∀ v' w', Kn w0 (rowB v' (bs ++ [UInt8.ofNat z.toNat]) :: m) w' → K (a.put o.dst v') w') : Oper.wp Try.prog o a w K Q := by
  have hK2 := hK.sw1
  have h0 := hK.blkAt
  refine appGo tpB s x ho 0 v bs.length (bs.map byteV) hs hK2.at0 ⟨g, 0, none⟩ 1 c [.int .u8 z] hx rfl (fun j u hu => ?_) (by simp [Value.oneCell']) (by omega) (by omega) (Nat.zero_le _) (fun v' w' ho' hg hv => ?_)
  · rw [add_zero_block]; rw [h0.1 j]; exact hu
  · refine h v' w' ?_
    have hK' := hK2.drop1.grow hg ho' hv
    unfold rowB
    rw [List.length_append, List.map_append, List.map_cons, List.map_nil, ← ofNat_byte hz.1 hz.2]
    exact hK'
end
/-- what a loop of l27Digits knows -/
structure DgB (w0 : World) (m : List Ent) (g o : Nat) (base : Int) (A : Option Addr) (n c : Nat) (ds : List Int) : Prop where
  cells : ∀ (v : Value) (bs : List UInt8) (W : World), Kn w0 (rowB v bs :: m) W → W.cell? ⟨g, o, none⟩ = some (.int .i64 base) ∧ W.cell? ⟨g, o + 1, none⟩ = some (.slice A n c) ∧ RI W A n ds
set_option maxRecDepth 100000 in
set_option maxHeartbeats 6400000 in
theorem l27Digits_any {w0 : World} {m : List Ent} (v : Value) (pre : List UInt8) (g o : Nat) (base : Int) (A : Option Addr) (n c : Nat) (ds : List Int) (w : World) (hK : Kn w0 (rowB v pre :: m) w) (HC : DgB w0 m g o base A n c ds) (hpl : pre.length ≤ 1000) (hb : 2 ≤ base) (hb2 : base ≤ 16) (hn1 : 1 ≤ n) (hn : n ≤ 16) (hd : ∀ d ∈ ds, 0 ≤ d ∧ d < base) :
    Calls Try.prog 94 #[v, .pointer (some ⟨g, o, none⟩)] w fun e w' => ∃ v', e = .returned v' ∧ Kn w0 (rowB v' (pre ++ regB base ds) :: m) w' := by
  have HL := Lib.hid (HC.cells _ _ _ hK).2.2.1
  have x1 : IntKind.i64.wrap (base - 1) = base - 1 := wrapI (by omega)
  have x2 : IntKind.i64.wrap (16 * (base - 1)) = 16 * (base - 1) := wrapI (by omega)
  have x3 : IntKind.i64.wrap (16 * (base - 1) + (n : Int)) = 16 * (base - 1) + (n : Int) := wrapI (by omega)
  obtain ⟨h0, hh0⟩ : ∃ h0, h0 = 16 * (base - 1) + (n : Int) - 1 := ⟨_, rfl⟩
  have x4 : IntKind.i64.wrap (16 * (base - 1) + (n : Int) - 1) = h0 := by rw [hh0]; exact wrapI (by omega)
  have x5 : IntKind.u8.wrap h0 = h0 := wrapB (by omega)
  have hh1 : 0 ≤ h0 ∧ h0 < 256 := by omega
  have HH := Lib.hid hh0
  have HD := Lib.hid hd
  clear hd hh0
  have HG := Lib.hid (show w.cell? ⟨g, o, none⟩ = some (.int .i64 base) ∧ w.cell? ⟨g, o + 1, none⟩ = some (.slice A n c) from ⟨(HC.cells _ _ _ hK).1, (HC.cells _ _ _ hK).2.1⟩)
  have HG0 := Lib.hid (show w.drew.cell? ⟨g, o, none⟩ = some (.int .i64 base) ∧ w.drew.cell? ⟨g, o + 1, none⟩ = some (.slice A n c) from ⟨(HC.cells _ _ _ hK.drew).1, (HC.cells _ _ _ hK.drew).2.1⟩)
  have hKa := (hK.al [.int .u8 h0] 5).drew
  have HG2 := Lib.hid (show (w.alloc (.cells #[.int .u8 h0] 5)).drew.cell? ⟨g, o, none⟩ = some (.int .i64 base) ∧ (w.alloc (.cells #[.int .u8 h0] 5)).drew.cell? ⟨g, o + 1, none⟩ = some (.slice A n c) from ⟨(HC.cells _ _ _ hKa.drop).1, (HC.cells _ _ _ hKa.drop).2.1⟩)
  have HG5 := HG2
  go_enter Try.func94, Try.ntmps94
  go_wp2_with fail
  go_region_held3 (fun W => W.cell? ⟨g, o, none⟩ = some (.int .i64 base) ∧ W.cell? ⟨g, o + 1, none⟩ = some (.slice A n c)) (first | with_reducible exact HG.out | with_reducible exact HG0.out | with_reducible exact HG2.out | with_reducible exact HG5.out | exact HG.out | exact HG0.out | exact HG2.out | exact HG5.out) (first
    | (rw [if_pos (by kernel_rfl)]; refine kn_pushBo _ _ rfl _ _ rfl rfl hKa (by omega) (by omega) ?_; intro v5 w5 hK5; clear HG5; have HG5 := Lib.hid (show w5.cell? ⟨g, o, none⟩ = some (.int .i64 base) ∧ w5.cell? ⟨g, o + 1, none⟩ = some (.slice A n c) from ⟨(HC.cells _ _ _ hK5).1, (HC.cells _ _ _ hK5).2.1⟩)))
  all_goals
    have K6 : Kn w0 (rowB v5 (pre ++ [toB h0] ++ (List.range 0).map (fun j => toB (pairAt ds j))) :: m) w5 := by
      rw [List.range_zero, List.map_nil, List.append_nil]; exact hK5
    clear HG HG0 HG2 HG5 hK hKa hK5 x1 x2 x3 x4 x5
    go_wp2_with fail
    go_loopw [0, 5] (fun out kk wr => ∃ j : Nat, j ≤ (n + 1) / 2 ∧ kk = .int .i64 ((j * 2 : Nat) : Int) ∧ Kn w0 (rowB out (pre ++ [toB h0] ++ (List.range j).map (fun j => toB (pairAt ds j))) :: m) wr) (fun _ kk _ => n + 1 - (intOf kk).toNat)
    case atStart => exact ⟨0, Nat.zero_le _, rfl, K6⟩
    case round =>
      obtain ⟨j, hj, rfl, hK⟩ := hrel
      clear K6
      have hll : (pre ++ [toB h0] ++ (List.range j).map (fun j => toB (pairAt ds j))).length ≤ 10000 := by simp; omega
      obtain ⟨c0, c1, hri⟩ := HC.cells _ _ _ hK
      by_cases hjn : j * 2 < n
      · obtain ⟨ad, hA, hlt, hkl, hc1⟩ := hri.at_ hjn
        have hd1 := HD.out _ (List.getElem_mem hkl)
        have hg0 : ds.getD (j * 2) 0 = ds[j * 2] := by simp [List.getD, List.getElem?_eq_getElem hkl]
        obtain ⟨d, hdd⟩ : ∃ d, ds[j * 2] = d := ⟨_, rfl⟩
        rw [hdd] at hc1 hd1 hg0
        have hi1 : ((j * 2 : Nat) : Int) < (n : Int) := by omega
        have hi0 : (0 : Int) ≤ ((j * 2 : Nat) : Int) := by omega
        have w1 : IntKind.i64.wrap (16 * d) = 16 * d := wrapI (by omega)
        have HP := Lib.hid (show (List.range (j + 1)).map (fun j => toB (pairAt ds j)) = (List.range j).map (fun j => toB (pairAt ds j)) ++ [toB (pairAt ds j)] by rw [List.range_succ, List.map_append]; rfl)
        clear hdd
        by_cases hj2 : j * 2 + 1 < n
        · obtain ⟨ad2, hA2, hlt2, hkl2, hc2⟩ := hri.at_ hj2
          have hd2 := HD.out _ (List.getElem_mem hkl2)
          have hg1 : ds.getD (j * 2 + 1) 0 = ds[j * 2 + 1] := by simp [List.getD, List.getElem?_eq_getElem hkl2]
          obtain ⟨d2, hdd2⟩ : ∃ d2, ds[j * 2 + 1] = d2 := ⟨_, rfl⟩
          rw [hdd2] at hc2 hd2 hg1
          clear hdd2
          obtain rfl : ad = ad2 := by rw [hA] at hA2; injection hA2
          have hc2'' : wr.cell? ⟨ad.block, ad.off + (j * 2 + 1), none⟩ = some (.int .i64 d2) := by rw [← addr_pos ad (j * 2 + 1) (by omega)]; exact hc2
          have hi3 : ((j * 2 : Nat) : Int) + 1 < (n : Int) := by omega
          have w2 : IntKind.i64.wrap (16 * d + d2) = 16 * d + d2 := wrapI (by omega)
          have y3 : IntKind.u8.wrap (16 * d + d2) = 16 * d + d2 := wrapB (by omega)
          have HV : Hid (pairAt ds j = 16 * d + d2) := by simp only [Hid, pairAt]; rw [hg0, hg1]
          subst hA
          clear hg0 hg1 hA2
          go_wp2_with (at_builtin; refine kn_pushB rfl _ _ rfl _ _ rfl rfl (hK.al [.int .u8 (16 * d + d2)] 5) (by omega) (by omega) ?_; intro v7 w7 hK7)
          go_roundw
          case rel => exact ⟨j + 1, by omega, by go_num, by rw [HP.out, HV.out, ← List.append_assoc]; exact hK7⟩
          case measure => simp [intOf]; omega
        · have hg1 : ds.getD (j * 2 + 1) 0 = 0 := by simp [List.getD, List.getElem?_eq_none (show ds.length ≤ j * 2 + 1 by have := HL.out; omega)]
          have hi3 : ¬ ((j * 2 : Nat) : Int) + 1 < (n : Int) := by omega
          have y3 : IntKind.u8.wrap (16 * d) = 16 * d := wrapB (by omega)
          have HV : Hid (pairAt ds j = 16 * d) := by simp only [Hid, pairAt]; rw [hg0, hg1, Int.add_zero]
          subst hA
          clear hg0 hg1
          go_wp2_with (at_builtin; refine kn_pushB rfl _ _ rfl _ _ rfl rfl (hK.al [.int .u8 (16 * d)] 5) (by omega) (by omega) ?_; intro v7 w7 hK7)
          go_roundw
          case rel => exact ⟨j + 1, by omega, by go_num, by rw [HP.out, HV.out, ← List.append_assoc]; exact hK7⟩
          case measure => simp [intOf]; omega
      · have HJ : Hid (j = (n + 1) / 2) := by simp only [Hid]; omega
        have HF : Hid (pre ++ [toB h0] ++ (List.range j).map (fun j => toB (pairAt ds j)) = pre ++ regB base ds) := by
          simp only [Hid, regB]
          rw [HJ.out, HL.out, HH.out, List.append_assoc, show 16 * (base - 1) + (n : Int) - 1 = 16 * (base - 1) + ((n : Int) - 1) by omega]
          rfl
        have hi3 : ¬ ((j * 2 : Nat) : Int) < (n : Int) := by omega
        go_wp2_with fail
        go_ret
        exact ⟨_, rfl, by rw [← HF.out]; exact hK⟩
end Go.Proofs.Ytkfbfainhmkkdaa

namespace Go.Proofs.Ytkfbfainhmkkdaa
open Go.RowKit Go.Sort
/-- the machine of bytes -/
def unpM : List UInt8 → Option Tri
  | b0 :: p :: r0 => if vmach ⟨tkReg r0, tkReg (tkRest r0), tkReg (tkRest (tkRest r0)), p.toNat⟩ && decide (packM ⟨tkReg r0, tkReg (tkRest r0), tkReg (tkRest (tkRest r0)), p.toNat⟩ = (b0 :: p :: r0)) then some ⟨tkReg r0, tkReg (tkRest r0), tkReg (tkRest (tkRest r0)), p.toNat⟩ else none
  | _ => none
def unpMach (bs : List UInt8) : Tri := (unpM bs).getD zTri
def unpMCode (bs : List UInt8) : Int := if (unpM bs).isSome then 0 else 8
theorem unpM_none {bs : List UInt8} (h : unpM bs = none) : unpMach bs = zTri ∧ unpMCode bs = 8 := by simp [unpMach, unpMCode, h]
theorem unpM_some {bs : List UInt8} {r : Tri} (h : unpM bs = some r) : unpMach bs = r ∧ unpMCode bs = 0 := by simp [unpMach, unpMCode, h]
theorem tkRest_len (bs : List UInt8) : (tkRest bs).length ≤ bs.length := by
  cases bs with
  | nil => simp [tkRest]
  | cons b tl =>
    simp only [tkRest]
    split
    · rw [List.length_drop, List.length_cons]; omega
    · simp
theorem strB_cons2 {s : ByteArray} (h : 2 ≤ s.size) : ∃ h0 : 1 < s.size, strB s = s[0] :: s[1] :: (strB s).drop 2 := by
  refine ⟨by omega, ?_⟩
  have h1 := strB_cons (s := s) (by omega)
  have h2 : 1 < (strB s).length := by rw [strB_len]; omega
  have h3 := List.drop_eq_getElem_cons (l := strB s) (i := 1) h2
  rw [h3] at h1
  rw [strB_get s (show 1 < s.size by omega)]
  exact h1
theorem takeB (s : ByteArray) (bs : List UInt8) (hb : strB s = bs) (hl : bs.length ≤ 1048576) (R : Reg) (hR : tkReg bs = R) (rest : List UInt8) (hr : tkRest bs = rest) (ok : Bool) (ho : tkOk bs = ok) (w : World) :
    Calls Try.prog 98 #[.string s] w fun e w' => ∃ A c r, e = .returned (.tuple #[.agg #[.int .i64 R.base, .slice A R.digits.length c], .string r, .bool ok]) ∧ strB r = rest ∧ OwnI w' w.heap.size (.slice A R.digits.length c) R.digits ∧ Below w.heap.size w w' := by
  subst hb; subst hR; subst hr; subst ho
  exact takeRegister_any s w (by rw [← strB_len]; omega)
theorem eq3B (a b c : Bool) (w : World) : (Op.equalIn 10000 117 (.agg #[.bool a, .bool b, .bool c]) (.agg #[.bool true, .bool true, .bool true])).run Try.prog w = .ok (a && b && c) w := by
  cases a <;> cases b <;> cases c <;> kernel_rfl
set_option maxRecDepth 100000 in
set_option maxHeartbeats 3200000 in
theorem UnpackMachine_any (s : ByteArray) (w : World) (hs : s.size ≤ 1048576) :
    Calls Try.prog 37 #[.string s] w fun e w' => ∃ A1 c1 A2 c2 A3 c3, e = .returned (.tuple #[.agg #[.int .i64 (unpMach (strB s)).a.base, .slice A1 (unpMach (strB s)).a.digits.length c1, .int .i64 (unpMach (strB s)).b.base, .slice A2 (unpMach (strB s)).b.digits.length c2, .int .i64 (unpMach (strB s)).s.base, .slice A3 (unpMach (strB s)).s.digits.length c3, .int .i64 (unpMach (strB s)).carry], .int .i64 (unpMCode (strB s))]) ∧
      Kn w [rowI A3 c3 (unpMach (strB s)).s.digits, rowI A2 c2 (unpMach (strB s)).b.digits, rowI A1 c1 (unpMach (strB s)).a.digits] w' := by
  by_cases h0 : 2 ≤ s.size
  · obtain ⟨h1, hc⟩ := strB_cons2 h0
    obtain ⟨b0, hb0⟩ : ∃ b, s[0] = b := ⟨_, rfl⟩
    obtain ⟨p, hp⟩ : ∃ b, s[1] = b := ⟨_, rfl⟩
    obtain ⟨r0, hr0⟩ : ∃ l, (strB s).drop 2 = l := ⟨_, rfl⟩
    rw [hb0, hp, hr0] at hc
    have hl0 : r0.length ≤ 1048576 := by rw [← hr0, List.length_drop, strB_len]; omega
    have hx := strB_drop s 2
    rw [hr0] at hx
    obtain ⟨x0, hx0⟩ : ∃ x, s.extract 2 s.size = x := ⟨_, rfl⟩
    rw [hx0] at hx
    obtain ⟨t, ht⟩ : ∃ t : Tri, t = ⟨tkReg r0, tkReg (tkRest r0), tkReg (tkRest (tkRest r0)), p.toNat⟩ := ⟨_, rfl⟩
    have HU := Lib.hid (show unpM (strB s) = if vmach t && decide (packM t = b0 :: p :: r0) then some t else none by rw [hc, ht]; rfl)
    have hta : tkReg r0 = t.a := by rw [ht]
    have htb : tkReg (tkRest r0) = t.b := by rw [ht]
    have hts : tkReg (tkRest (tkRest r0)) = t.s := by rw [ht]
    have htc : (p.toNat : Int) = t.carry := by rw [ht]
    have n1 := tkReg_len r0; rw [hta] at n1
    have n2 := tkReg_len (tkRest r0); rw [htb] at n2
    have n3 := tkReg_len (tkRest (tkRest r0)); rw [hts] at n3
    obtain ⟨ok1, hok1⟩ : ∃ b, tkOk r0 = b := ⟨_, rfl⟩
    obtain ⟨ok2, hok2⟩ : ∃ b, tkOk (tkRest r0) = b := ⟨_, rfl⟩
    obtain ⟨ok3, hok3⟩ : ∃ b, tkOk (tkRest (tkRest r0)) = b := ⟨_, rfl⟩
    have HOK : Hid (vmach t = true → ok1 = true ∧ ok2 = true ∧ ok3 = true) := fun hv => by
      obtain ⟨q1, q2, q3, -⟩ := vmach_five hv
      have z : ∀ bs, (tkReg bs).ok = true → tkOk bs = true := fun bs h => by
        rcases h2 : tkOk bs with _ | _
        · rw [tk_not h2] at h; cases h
        · rfl
      exact ⟨hok1 ▸ z _ (hta ▸ q1), hok2 ▸ z _ (htb ▸ q2), hok3 ▸ z _ (hts ▸ q3)⟩
    have K1 := Lib.hid (fun W => takeB x0 r0 hx hl0 t.a hta _ rfl ok1 hok1 W)
    have K2 := Lib.hid (fun x (hx : strB x = tkRest r0) W => takeB x _ hx (Nat.le_trans (tkRest_len _) hl0) t.b htb _ rfl ok2 hok2 W)
    have K3 := Lib.hid (fun x (hx : strB x = tkRest (tkRest r0)) W => takeB x _ hx (Nat.le_trans (tkRest_len _) (Nat.le_trans (tkRest_len _) hl0)) t.s hts _ rfl ok3 hok3 W)
    have HC := Lib.hid hc
    have HX := Lib.hid hx0
    have hi1 : (1 : Int) < (s.size : Int) := by omega
    have hi2 : (2 : Int) ≤ (s.size : Int) := by omega
    have hi3 : ¬ (s.size : Int) < 2 := by omega
    have hp2 : p.toNat < 256 := p.toNat_lt
    have HPC := Lib.hid htc
    clear hc hb0 hr0 hx ht hta htb hts hok1 hok2 hok3 hx0 htc
    go_enter Try.func37, Try.ntmps37
    go_upto_region 3 with fail
    go_cut [4, 5, 6] (fun mm rr oo wx => ∃ g1 g2, mm = .pointer (some ⟨g1, 0, none⟩) ∧ rr = .string x0 ∧ oo = .pointer (some ⟨g2, 0, none⟩) ∧
      Kn w [.blk g1 [.int .i64 0, .slice none 0 0, .int .i64 0, .slice none 0 0, .int .i64 0, .slice none 0 0, .int .i64 t.carry] 28, .blk g2 [.bool false, .bool false, .bool false] 117, .blk w.heap.size [.int .i64 0, .slice none 0 0, .int .i64 0, .slice none 0 0, .int .i64 0, .slice none 0 0, .int .i64 0] 28] wx)
    case first =>
      have hA0 := (Kn.nil w).al [.int .i64 0, .slice none 0 0, .int .i64 0, .slice none 0 0, .int .i64 0, .slice none 0 0, .int .i64 0] 28
      go_region
      all_goals
        go_wp2_with fail
        go_meet
        have hB := (((hA0.al [.int .i64 0, .slice none 0 0, .int .i64 0, .slice none 0 0, .int .i64 0, .slice none 0 0, .int .i64 t.carry] 28).al [.bool false, .bool false, .bool false] 117).sw1).drew
        have hC := ((hA0.al [.bool false, .bool false, .bool false] 117).al [.int .i64 0, .slice none 0 0, .int .i64 0, .slice none 0 0, .int .i64 0, .slice none 0 0, .int .i64 t.carry] 28).drew
        simp at hB hC
        rw [HPC.out, HX.out]
        first
          | exact ⟨_, _, rfl, rfl, rfl, hB⟩
          | exact ⟨_, _, rfl, rfl, rfl, hC⟩
    case rest =>
      obtain ⟨g1, g2, rfl, rfl, rfl, hK⟩ := hcut
      have hap := hK.apart
      simp [Ent.fp] at hap
      obtain ⟨⟨ne1, ne2⟩, ne3⟩ := hap
      obtain ⟨a1, a2, a3, b1, b2, b3, d1, d2, d3, -⟩ := hK.cells
      go_wp2_with fail
      refine (K1.out _).mono ?_; rintro e w3 ⟨A1, c1, y1, rfl, hy1, ho, hw⟩
      have hK1 := hK.addI hw ho
      clear hw ho a1 a2 a3 b1 b2 b3 d1 d2 d3 hK
      obtain ⟨a1, a2, a3, b1, b2, b3, d1, d2, d3, -⟩ := hK1.cells
      go_wp2_with fail
      refine Calls.kn (m := [.blk g2 [.bool ok1, .bool false, .bool false] 117, .blk g1 [.int .i64 t.a.base, .slice A1 t.a.digits.length c1, .int .i64 0, .slice none 0 0, .int .i64 0, .slice none 0 0, .int .i64 t.carry] 28, rowI A1 c1 t.a.digits, .blk w.heap.size [.int .i64 0, .slice none 0 0, .int .i64 0, .slice none 0 0, .int .i64 0, .slice none 0 0, .int .i64 0] 28]) (((hK1.sw1.st 0 _).st 1 _).sw2.st 0 _) ?_; intro w4 hK2
      clear a1 a2 a3 b1 b2 b3 d1 d2 d3 hK1
      refine (K2.out _ hy1 _).mono ?_; rintro e w5 ⟨A2, c2, y2, rfl, hy2, ho, hw⟩
      have hK3 := hK2.addI hw ho
      clear hw ho hK2
      obtain ⟨b1, b2, b3, a1, a2, a3, d1, d2, d3, -⟩ := hK3.cells
      go_wp2_with fail
      refine Calls.kn (m := [.blk g2 [.bool ok1, .bool ok2, .bool false] 117, .blk g1 [.int .i64 t.a.base, .slice A1 t.a.digits.length c1, .int .i64 t.b.base, .slice A2 t.b.digits.length c2, .int .i64 0, .slice none 0 0, .int .i64 t.carry] 28, rowI A2 c2 t.b.digits, rowI A1 c1 t.a.digits, .blk w.heap.size [.int .i64 0, .slice none 0 0, .int .i64 0, .slice none 0 0, .int .i64 0, .slice none 0 0, .int .i64 0] 28]) (((hK3.sw2.st 2 _).st 3 _).sw2.st 1 _) ?_; intro w6 hK4
      clear a1 a2 a3 b1 b2 b3 d1 d2 d3 hK3
      refine (K3.out _ hy2 _).mono ?_; rintro e w7 ⟨A3, c3, y3, rfl, hy3, ho, hw⟩
      have hK5 := hK4.addI hw ho
      clear hw ho hK4 hy1 hy2 hy3
      obtain ⟨b1, b2, b3, a1, a2, a3, d1, d2, d3, -⟩ := hK5.cells
      go_wp2_with (refine wpList.kn (m := [.blk g2 [.bool ok1, .bool ok2, .bool ok3] 117, .blk g1 [.int .i64 t.a.base, .slice A1 t.a.digits.length c1, .int .i64 t.b.base, .slice A2 t.b.digits.length c2, .int .i64 t.s.base, .slice A3 t.s.digits.length c3, .int .i64 t.carry] 28, rowI A3 c3 t.s.digits, rowI A2 c2 t.b.digits, rowI A1 c1 t.a.digits, .blk w.heap.size [.int .i64 0, .slice none 0 0, .int .i64 0, .slice none 0 0, .int .i64 0, .slice none 0 0, .int .i64 0] 28]) (((hK5.sw2.st 4 _).st 5 _).sw2.st 2 _) ?_; intro w8 hK6; clear a1 a2 a3 b1 b2 b3 d1 d2 d3; obtain ⟨b1, b2, b3, a1, a2, a3, d1, d2, d3, -⟩ := hK6.cells)
      clear a1 a2 a3 b1 b2 b3 d1 d2 d3 hK5 K1 K2 K3
      have r3 := hK6.drop.drop.ownI.ri
      have r2 := hK6.drop.drop.drop.ownI.ri
      have r1 := hK6.drop.drop.drop.drop.ownI.ri
      rcases hv : vmach t with _ | _
      · have HU := Lib.hid (unpM_none (bs := strB s) (by rw [HU.out, hv]; rfl))
        have KP := Lib.hid (PackMachine_false t A1 A2 A3 c1 c2 c3 w8 r1 r2 r3 ⟨by unfold SmallReg; omega, by unfold SmallReg; omega, by unfold SmallReg; omega⟩ hv)
        clear r1 r2 r3 hv HOK
        refine KP.out.mono ?_; rintro e w9 ⟨rfl, hw⟩
        have hK7 := hK6.keep hw
        clear hw hK6 KP
        obtain ⟨b1, b2, b3, a1, a2, a3, d1, d2, d3, -⟩ := hK7.cells
        have HE3 := fun W => eq3B ok1 ok2 ok3 W
        cases ok1 <;> cases ok2 <;> cases ok3
        all_goals
          go_wp2_with fail
          refine bodyPost_ret (v := .tuple #[.agg #[.int .i64 0, .slice none 0 0, .int .i64 0, .slice none 0 0, .int .i64 0, .slice none 0 0, .int .i64 0], .int .i64 8]) (by simp [results, Try.results37, go_sem, d1, d2, d3]) rfl ⟨none, 0, none, 0, none, 0, by rw [HU.out.1, HU.out.2]; rfl, ?_⟩
          rw [HU.out.1]
          exact (((((((((hK7.sw5.st 0 (.int .i64 0)).st 1 (.slice none 0 0)).st 2 (.int .i64 0)).st 3 (.slice none 0 0)).st 4 (.int .i64 0)).st 5 (.slice none 0 0)).st 6 (.int .i64 0)).bare.nilRow _ _).nilRow _ _).nilRow _ _
      · obtain ⟨rfl, rfl, rfl⟩ := HOK.out hv
        have KP := Lib.hid (PackMachine_true t A1 A2 A3 c1 c2 c3 w8 r1 r2 r3 hv)
        have HV := Lib.hid hv
        clear r1 r2 r3 hv HOK
        refine KP.out.mono ?_; rintro e w9 ⟨rfl, hw⟩
        have hK7 := hK6.keep hw
        clear hw hK6 KP
        obtain ⟨b1, b2, b3, a1, a2, a3, d1, d2, d3, -⟩ := hK7.cells
        have HE3 := fun W => eq3B true true true W
        rcases hq : (packM t == s.toList) with _ | _
        · have HU := Lib.hid (unpM_none (bs := strB s) (by rw [HU.out, HV.out]; rw [strB_toList, HC.out, beq_eq_false_iff_ne] at hq; simp [hq]))
          go_wp2_with fail
          refine bodyPost_ret (v := .tuple #[.agg #[.int .i64 0, .slice none 0 0, .int .i64 0, .slice none 0 0, .int .i64 0, .slice none 0 0, .int .i64 0], .int .i64 8]) (by simp [results, Try.results37, go_sem, d1, d2, d3]) rfl ⟨none, 0, none, 0, none, 0, by rw [HU.out.1, HU.out.2]; rfl, ?_⟩
          rw [HU.out.1]
          exact (((((((((hK7.sw5.st 0 (.int .i64 0)).st 1 (.slice none 0 0)).st 2 (.int .i64 0)).st 3 (.slice none 0 0)).st 4 (.int .i64 0)).st 5 (.slice none 0 0)).st 6 (.int .i64 0)).bare.nilRow _ _).nilRow _ _).nilRow _ _
        · have HU := Lib.hid (unpM_some (bs := strB s) (r := t) (by rw [HU.out, HV.out]; rw [strB_toList, HC.out, beq_iff_eq] at hq; simp [hq]))
          go_wp2_with fail
          have hK8 := (((((((hK7.sw5.st 0 (.int .i64 t.a.base)).st 1 (.slice A1 t.a.digits.length c1)).st 2 (.int .i64 t.b.base)).st 3 (.slice A2 t.b.digits.length c2)).st 4 (.int .i64 t.s.base)).st 5 (.slice A3 t.s.digits.length c3)).st 6 (.int .i64 t.carry))
          refine bodyPost_ret (v := .tuple #[.agg #[.int .i64 t.a.base, .slice A1 t.a.digits.length c1, .int .i64 t.b.base, .slice A2 t.b.digits.length c2, .int .i64 t.s.base, .slice A3 t.s.digits.length c3, .int .i64 t.carry], .int .i64 0]) (by simp [results, Try.results37, go_sem, d1, d2, d3]) rfl ⟨A1, c1, A2, c2, A3, c3, by rw [HU.out.1, HU.out.2], ?_⟩
          rw [HU.out.1]
          exact hK8.drop.drop.drop
  · have HU := Lib.hid (unpM_none (bs := strB s) (by
      have hl := strB_len s
      cases h : strB s with
      | nil => rfl
      | cons a l =>
        cases l with
        | nil => rfl
        | cons b l => rw [h] at hl; simp at hl; omega))
    have hi3 : (s.size : Int) < 2 := by omega
    go_enter Try.func37, Try.ntmps37
    go_wp2_with fail
    have hK := (Kn.nil w).al [.int .i64 0, .slice none 0 0, .int .i64 0, .slice none 0 0, .int .i64 0, .slice none 0 0, .int .i64 0] 28
    have d1 : True := trivial
    have d2 : True := trivial
    have d3 : True := trivial
    refine bodyPost_ret (v := .tuple #[.agg #[.int .i64 0, .slice none 0 0, .int .i64 0, .slice none 0 0, .int .i64 0, .slice none 0 0, .int .i64 0], .int .i64 8]) (by simp [results, Try.results37, go_sem, d1, d2, d3]) rfl ⟨none, 0, none, 0, none, 0, by rw [HU.out.1, HU.out.2]; rfl, ?_⟩
    rw [HU.out.1]
    exact ((hK.bare.nilRow _ _).nilRow _ _).nilRow _ _
end Go.Proofs.Ytkfbfainhmkkdaa

namespace Go.Proofs.Ytkfbfainhmkkdaa
open Go.RowKit Go.Sort
/-- a number of at most k bytes, seven bits in each; and what is behind it -/
def decV : Nat → List UInt8 → Option (Nat × List UInt8)
  | 0, _ => none
  | _ + 1, [] => none
  | k + 1, b :: tl => if b.toNat < 128 then some (b.toNat, tl) else (decV k tl).map fun p => (b.toNat % 128 + 128 * p.1, p.2)
theorem decV_var : ∀ (k n : Nat) (more : List UInt8), n < 128 ^ (k + 1) → decV (k + 1) (varB n ++ more) = some (n, more) := by
  intro k
  induction k with
  | zero =>
    intro n more h
    have h1 : n < 128 := by simpa using h
    rw [varB_lt h1, List.cons_append, List.nil_append]
    simp only [decV]
    have : (UInt8.ofNat n).toNat = n := by rw [UInt8.toNat_ofNat']; omega
    rw [this, if_pos h1]
  | succ k ih =>
    intro n more h
    by_cases h1 : n < 128
    · rw [varB_lt h1, List.cons_append, List.nil_append]
      simp only [decV]
      have : (UInt8.ofNat n).toNat = n := by rw [UInt8.toNat_ofNat']; omega
      rw [this, if_pos h1]
    · rw [varB_ge h1, List.cons_append]
      have h2 : (UInt8.ofNat (128 + n % 128)).toNat = 128 + n % 128 := by rw [UInt8.toNat_ofNat']; omega
      rw [decV, h2, if_neg (by omega), ih (n / 128) more (by rw [Nat.pow_succ] at h; omega)]
      simp; omega
theorem decV_nil (k : Nat) : decV k [] = none := by cases k <;> rfl
def decI (f : Nat) : List UInt8 → Option (Ins × List UInt8)
  | [] => none
  | b :: tl => (decV f tl).map fun p => (⟨b.toNat, p.1⟩, p.2)
theorem decI_ins (f : Nat) (hf : 6 ≤ f) {x : Ins} (h : instrOk x.op x.arg = true) (more : List UInt8) : decI f (insB x ++ more) = some (x, more) := by
  have hb := instrOk_bd h
  unfold insB
  rw [List.cons_append]
  simp only [decI]
  obtain ⟨g, rfl⟩ : ∃ g, f = g + 1 := ⟨f - 1, by omega⟩
  rw [decV_var g _ more (Nat.lt_of_lt_of_le (show x.arg.toNat < 128 ^ 6 by omega) (Nat.pow_le_pow_right (by omega) hf))]
  have h1 : ((toB x.op).toNat : Int) = x.op := by unfold toB; rw [UInt8.toNat_ofNat']; omega
  have h2 : ((x.arg.toNat : Nat) : Int) = x.arg := by omega
  simp only [Option.map_some, h1, h2]
def decL (f : Nat) : Nat → List UInt8 → Option (List Ins × List UInt8)
  | 0, bs => some ([], bs)
  | k + 1, bs => (decI f bs).bind fun p => (decL f k p.2).map fun q => (p.1 :: q.1, q.2)
theorem decL_prog (f : Nat) (hf : 6 ≤ f) : ∀ (xs : List Ins), (∀ x ∈ xs, instrOk x.op x.arg = true) → ∀ more, decL f xs.length (xs.flatMap insB ++ more) = some (xs, more)
  | [], _, more => by simp [decL]
  | x :: xs, h, more => by
    rw [List.flatMap_cons, List.append_assoc, List.length_cons]
    simp only [decL]
    rw [decI_ins f hf (h x (by simp))]
    simp only [Option.bind_some]
    rw [decL_prog f hf xs (fun y hy => h y (by simp [hy])) more]; rfl
/-- the program of bytes -/
def unpP : List UInt8 → Option (List Ins)
  | b :: cnt :: r => (decL 7 cnt.toNat r).bind fun p => if vprog p.1 && decide (packP p.1 = b :: cnt :: r) then some p.1 else none
  | _ => none
theorem unpP_iff (bs : List UInt8) (xs : List Ins) : unpP bs = some xs ↔ vprog xs = true ∧ packP xs = bs := by
  constructor
  · intro h
    match bs with
    | [] => cases h
    | [_] => cases h
    | b :: cnt :: r =>
      simp only [unpP] at h
      obtain ⟨p, -, h2⟩ := Option.bind_eq_some_iff.1 h
      split at h2
      · rename_i h3
        injection h2 with h2
        simp only [Bool.and_eq_true, decide_eq_true_eq] at h3
        rw [h2] at h3; exact h3
      · cases h2
  · rintro ⟨h1, rfl⟩
    obtain ⟨h120, hall⟩ := vprog_each h1
    have hd := decL_prog 7 (by omega) xs hall [UInt8.ofNat (sumB (progB xs) / 256).toNat, UInt8.ofNat (sumB (progB xs) % 256).toNat]
    have hp : packP xs = 80 :: UInt8.ofNat xs.length :: (xs.flatMap insB ++ [UInt8.ofNat (sumB (progB xs) / 256).toNat, UInt8.ofNat (sumB (progB xs) % 256).toNat]) := rfl
    have hc : (UInt8.ofNat xs.length).toNat = xs.length := by rw [UInt8.toNat_ofNat']; omega
    rw [hp]
    simp only [unpP]
    rw [hc, hd]
    simp only [Option.bind_some]
    rw [← hp, h1]; simp
def tiX (bs : List UInt8) : Ins := ((decI 7 bs).map (·.1)).getD ⟨0, 0⟩
def tiR (bs : List UInt8) : List UInt8 := ((decI 7 bs).map (·.2)).getD []
def tiOk (bs : List UInt8) : Bool := (decI 7 bs).isSome
theorem ti_none {bs : List UInt8} (h : decI 7 bs = none) : tiX bs = ⟨0, 0⟩ ∧ tiR bs = [] ∧ tiOk bs = false := by simp [tiX, tiR, tiOk, h]
theorem ti_some {bs : List UInt8} {x : Ins} {r : List UInt8} (h : decI 7 bs = some (x, r)) : tiX bs = x ∧ tiR bs = r ∧ tiOk bs = true := by simp [tiX, tiR, tiOk, h]
set_option maxRecDepth 100000 in
set_option maxHeartbeats 3200000 in
theorem takeInstr_any (s : ByteArray) (w : World) (hs : s.size ≤ 1048576) :
    Calls Try.prog 100 #[.string s] w fun e w' => ∃ r, e = .returned (.tuple #[.agg #[.int .i64 (tiX (strB s)).op, .int .i64 (tiX (strB s)).arg], .string r, .bool (tiOk (strB s))]) ∧ strB r = tiR (strB s) ∧ Below w.heap.size w w' := by
  have HSL := Lib.hid (strB_len s)
  by_cases h0 : 0 < s.size
  · have hE := str_nonempty h0
    have hc := strB_cons h0
    obtain ⟨b, hb⟩ : ∃ b, s[0] = b := ⟨_, rfl⟩
    rw [hb] at hc
    have hb2 : b.toNat < 256 := b.toNat_lt
    have hi : (0 : Int) < (s.size : Int) := by omega
    have HD : Hid (decI 7 (strB s) = (decV 7 ((strB s).drop 1)).map fun p => (⟨b.toNat, p.1⟩, p.2)) := by simp only [Hid]; rw [hc]; rfl
    clear hc
    go_enter Try.func100, Try.ntmps100
    have hK0 := (Kn.nil w).al [.int .i64 0, .int .i64 0] 46
    have hK1 := hK0.al [.int .i64 b.toNat, .int .i64 0] 46
    have hap := hK1.apart
    simp [Ent.fp] at hap hK1
    go_wp2_with fail
    go_loopw [6, 7] (fun uu ii wr => ∃ (i acc : Nat), 1 ≤ i ∧ i ≤ 8 ∧ ii = .int .i64 i ∧ uu = .int .i64 ((128 ^ (i - 1) : Nat) : Int) ∧ acc < 128 ^ (i - 1) ∧ i ≤ s.size ∧
      decV 7 ((strB s).drop 1) = (decV (8 - i) ((strB s).drop i)).map (fun p => (acc + 128 ^ (i - 1) * p.1, p.2)) ∧
      Kn w [.blk (w.heap.size + 1) [.int .i64 b.toNat, .int .i64 (acc : Int)] 46, .blk w.heap.size [.int .i64 0, .int .i64 0] 46] wr) (fun _ i _ => 8 - (intOf i).toNat)
    case atStart => exact ⟨1, 0, Nat.le_refl _, by omega, rfl, rfl, by decide, by omega, by simp, hK1⟩
    case round =>
      obtain ⟨i, acc, hi1, hi8, rfl, rfl, hacc, his, hdv, hK⟩ := hrel
      have HV := Lib.hid hdv
      clear hdv hK0 hK1
      obtain ⟨a1, a2, a3, d1, d2, d3, -⟩ := hK.cells
      by_cases hlt : i < s.size
      · by_cases hlt8 : i < 8
        · obtain ⟨q, hq⟩ : ∃ q : UInt8, s[i] = q := ⟨_, rfl⟩
          obtain ⟨z, hz⟩ : ∃ z : Nat, q.toNat = z := ⟨_, rfl⟩
          have hz2 : z < 256 := by rw [← hz]; exact q.toNat_lt
          have hdr : (strB s).drop i = q :: (strB s).drop (i + 1) := by
            rw [List.drop_eq_getElem_cons (by rw [HSL.out]; exact hlt), ← strB_get s hlt, hq]
          obtain ⟨U, hU⟩ : ∃ U : Nat, 128 ^ (i - 1) = U := ⟨_, rfl⟩
          have hU2 : U ≤ 4398046511104 := by
            rw [← hU]; exact Nat.le_trans (Nat.pow_le_pow_right (by omega) (show i - 1 ≤ 6 by omega)) (by decide)
          have hU3 : 128 ^ (i + 1 - 1) = U * 128 := by rw [← hU, show i + 1 - 1 = (i - 1) + 1 by omega, Nat.pow_succ]
          rw [hU] at hacc HV
          rw [hU]
          have HU3 := Lib.hid hU3
          have hm : z % 128 * U ≤ 127 * U := Nat.mul_le_mul_right _ (by omega)
          obtain ⟨M, hM⟩ : ∃ M : Nat, z % 128 * U = M := ⟨_, rfl⟩
          have hMi : ((z : Int) % 128) * (U : Int) = (M : Int) := by rw [← hM]; simp
          rw [hM] at hm
          have x1 : IntKind.u8.wrap ((z : Int) % 128) = (z : Int) % 128 := wrapB (by omega)
          have x2 : IntKind.i64.wrap ((z : Int) % 128) = (z : Int) % 128 := wrapI (by omega)
          have x3 : IntKind.i64.wrap (M : Int) = (M : Int) := wrapI (by omega)
          have x4 : IntKind.i64.wrap ((acc : Int) + (M : Int)) = (acc : Int) + (M : Int) := wrapI (by omega)
          have x5 : IntKind.i64.wrap ((U : Int) * 128) = (U : Int) * 128 := wrapI (by omega)
          have i0 : (0 : Int) ≤ (i : Int) := by omega
          have i1 : (i : Int) < (s.size : Int) := by omega
          have i2 : (i : Int) < 8 := by omega
          have hdc : decV (8 - i) ((strB s).drop i) = if z < 128 then some (z, (strB s).drop (i + 1)) else (decV (8 - (i + 1)) ((strB s).drop (i + 1))).map fun p => (z % 128 + 128 * p.1, p.2) := by
            rw [hdr, show 8 - i = (8 - (i + 1)) + 1 by omega, decV, hz]
          have HC := Lib.hid hdc
          have HM := Lib.hid hM
          have HU0 := Lib.hid hU
          clear hdc hdr hM hU hU3
          go_wp2_with fail
          go_region
          have hK2 := (hK.st 1 (.int .i64 ((acc : Int) + (M : Int)))).drew
          by_cases hz128 : z < 128
          · have i5 : (z : Int) < 128 := by omega
            have i6 : (i : Int) + 1 ≤ (s.size : Int) := by omega
            have HU : Hid (tiX (strB s) = ⟨b.toNat, ((acc + M : Nat) : Int)⟩ ∧ tiR (strB s) = (strB s).drop (i + 1) ∧ tiOk (strB s) = true) := by
              refine ti_some ?_
              rw [HD.out, HV.out, HC.out, if_pos hz128]
              have h1 : U * z = M := by rw [← HM.out, Nat.mod_eq_of_lt hz128, Nat.mul_comm]
              simp [h1]
            clear hz128
            go_wp2_with (refine wpList.kn hK2 ?_; clear hK2; intro w2 hK3; clear a1 a2 a3 d1 d2 d3; obtain ⟨a1, a2, a3, d1, d2, d3, -⟩ := hK3.cells)
            go_region
            all_goals
              go_wp2_with fail
              have hK4 := ((hK3.sw1.st 0 (.int .i64 (b.toNat : Int))).st 1 (.int .i64 ((acc : Int) + (M : Int)))).drew
              refine bodyPost_ret (v := .tuple #[.agg #[.int .i64 (b.toNat : Int), .int .i64 ((acc : Int) + (M : Int))], .string (s.extract (i + 1) s.size), .bool true]) (by simp [results, Try.results100, go_sem, d1, d2, d3]) rfl ⟨_, by rw [HU.out.1, HU.out.2.2, Int.natCast_add], by rw [HU.out.2.1]; exact strB_drop s _, hK4.below⟩
          · have i5 : ¬ (z : Int) < 128 := by omega
            have HN : Hid (decV 7 ((strB s).drop 1) = (decV (8 - (i + 1)) ((strB s).drop (i + 1))).map (fun p => ((acc + M) + U * 128 * p.1, p.2))) := by
              simp only [Hid]
              rw [HV.out, HC.out, if_neg hz128, Option.map_map]
              congr 1
              funext p
              simp only [Function.comp]
              have h1 : U * (z % 128 + 128 * p.1) = M + U * 128 * p.1 := by rw [Nat.mul_add, ← HM.out, Nat.mul_comm U (z % 128), Nat.mul_assoc]
              rw [h1, Nat.add_assoc]
            clear hz128
            go_wp2_with fail
            go_roundw
            case rel => exact ⟨i + 1, acc + M, by omega, by omega, by go_num, by rw [HU3.out]; simp, by rw [HU3.out]; omega, by omega, by rw [HU3.out]; exact HN.out, hK2⟩
            case measure => simp [intOf]; omega
        · have HU : Hid (tiX (strB s) = ⟨0, 0⟩ ∧ tiR (strB s) = [] ∧ tiOk (strB s) = false) := by
            refine ti_none ?_
            rw [HD.out, HV.out, show 8 - i = 0 by omega]; rfl
          have i1 : (i : Int) < (s.size : Int) := by omega
          have i2 : ¬ (i : Int) < 8 := by omega
          go_wp2_with fail
          refine bodyPost_ret (v := .tuple #[.agg #[.int .i64 0, .int .i64 0], .string ⟨#[]⟩, .bool false]) (by simp [results, Try.results100, go_sem, d1, d2, d3]) rfl ⟨⟨#[]⟩, by rw [HU.out.1, HU.out.2.2], by rw [HU.out.2.1]; rfl, ?_⟩
          exact ((hK.sw1.st 0 _).st 1 _).below
      · have HU : Hid (tiX (strB s) = ⟨0, 0⟩ ∧ tiR (strB s) = [] ∧ tiOk (strB s) = false) := by
          refine ti_none ?_
          rw [HD.out, HV.out, List.drop_of_length_le (by rw [HSL.out]; omega), decV_nil]; rfl
        have i1 : ¬ (i : Int) < (s.size : Int) := by omega
        go_wp2_with fail
        refine bodyPost_ret (v := .tuple #[.agg #[.int .i64 0, .int .i64 0], .string ⟨#[]⟩, .bool false]) (by simp [results, Try.results100, go_sem, d1, d2, d3]) rfl ⟨⟨#[]⟩, by rw [HU.out.1, HU.out.2.2], by rw [HU.out.2.1]; rfl, ?_⟩
        exact ((hK.sw1.st 0 _).st 1 _).below
  · obtain rfl := size_zero (show s.size = 0 by omega)
    have HU := Lib.hid (ti_none (bs := strB ⟨#[]⟩) rfl)
    go_enter Try.func100, Try.ntmps100
    go_wp2_with fail
    have hK := (Kn.nil w).al [.int .i64 0, .int .i64 0] 46
    have d1 : True := trivial
    have d2 : True := trivial
    have d3 : True := trivial
    refine bodyPost_ret (v := .tuple #[.agg #[.int .i64 0, .int .i64 0], .string ⟨#[]⟩, .bool false]) (by simp [results, Try.results100, go_sem, d1, d2, d3]) rfl ⟨⟨#[]⟩, by rw [HU.out.1, HU.out.2.2], by rw [HU.out.2.1]; rfl, ?_⟩
    exact hK.below
end Go.Proofs.Ytkfbfainhmkkdaa

namespace Go.Proofs.Ytkfbfainhmkkdaa
open Go.RowKit Go.Sort
theorem toB_nat (p : UInt8) : toB (p.toNat : Int) = p := toB_byte p _ rfl
theorem unpM_spec (bs : List UInt8) (p : UInt8) (l : List UInt8) (hb : bodyOk 77 bs = true) (hl : bodyB 77 bs = p :: l) :
    unpM bs = if tkFine l && tkFine (tkRest l) && tkFine (tkRest (tkRest l)) && (tkRest (tkRest (tkRest l))).isEmpty && vmach ⟨tkReg l, tkReg (tkRest l), tkReg (tkRest (tkRest l)), p.toNat⟩ then some ⟨tkReg l, tkReg (tkRest l), tkReg (tkRest (tkRest l)), p.toNat⟩ else none := by
  have hbs := (body_iff 77 bs).1 hb
  rw [hl] at hbs
  obtain ⟨more, hmore⟩ : ∃ more, more = [UInt8.ofNat (sumB (77 :: p :: l) / 256).toNat, UInt8.ofNat (sumB (77 :: p :: l) % 256).toNat] := ⟨_, rfl⟩
  have hbs2 : bs = 77 :: p :: (l ++ more) := by rw [hbs, hmore]; rfl
  by_cases h : (tkFine l && tkFine (tkRest l) && tkFine (tkRest (tkRest l)) && (tkRest (tkRest (tkRest l))).isEmpty && vmach ⟨tkReg l, tkReg (tkRest l), tkReg (tkRest (tkRest l)), p.toNat⟩) = true
  · rw [if_pos h]
    simp only [Bool.and_eq_true] at h
    obtain ⟨⟨⟨⟨h1, h2⟩, h3⟩, h4⟩, h5⟩ := h
    have e1 := tk_bytes h1
    have e2 := tk_bytes h2
    have e3 := tk_bytes h3
    rw [List.isEmpty_iff.1 h4, List.append_nil] at e3
    obtain ⟨-, m1, m2⟩ := tk_more l more (tkFine_ok h1)
    obtain ⟨-, m3, m4⟩ := tk_more (tkRest l) more (tkFine_ok h2)
    obtain ⟨-, m5, -⟩ := tk_more (tkRest (tkRest l)) more (tkFine_ok h3)
    have hp : packM ⟨tkReg l, tkReg (tkRest l), tkReg (tkRest (tkRest l)), p.toNat⟩ = bs := by
      unfold packM
      simp only []
      rw [← e3, List.append_assoc, ← e2, ← e1, toB_nat]; exact hbs.symm
    rw [hbs2]
    simp only [unpM]
    rw [m1, m2, m3, m4, m5, ← hbs2, hp, h5]; simp
  · rw [if_neg h, hbs2]
    simp only [unpM]
    rw [if_neg]
    intro h2
    simp only [Bool.and_eq_true, decide_eq_true_eq] at h2
    obtain ⟨h3, h4⟩ := h2
    apply h
    obtain ⟨t, ht⟩ : ∃ t : Tri, (⟨tkReg (l ++ more), tkReg (tkRest (l ++ more)), tkReg (tkRest (tkRest (l ++ more))), p.toNat⟩ : Tri) = t := ⟨_, rfl⟩
    have hc : t.carry = p.toNat := by rw [← ht]
    rw [ht] at h3 h4
    rw [← hbs2] at h4
    obtain ⟨k1, k2, k3, -⟩ := vmach_five h3
    have hl2 : l = regB t.a.base t.a.digits ++ (regB t.b.base t.b.digits ++ (regB t.s.base t.s.digits ++ [])) := by
      rw [hbs] at h4
      have h5 := sealB_inj h4
      injection h5 with _ h5
      injection h5 with _ h5
      rw [List.append_nil, ← List.append_assoc]; exact h5.symm
    obtain ⟨-, q2, q3, q4⟩ := tk_regB t.a.base t.a.digits (regB t.b.base t.b.digits ++ (regB t.s.base t.s.digits ++ [])) k1
    obtain ⟨-, r2, r3, r4⟩ := tk_regB t.b.base t.b.digits (regB t.s.base t.s.digits ++ []) k2
    obtain ⟨-, s2, s3, s4⟩ := tk_regB t.s.base t.s.digits [] k3
    rw [hl2, q2, q3, q4, r2, r3, r4, s2, s3, s4, ← hc]
    simp only [Bool.and_eq_true]
    simp
    exact h3
theorem unpM_not (bs : List UInt8) (h : bodyOk 77 bs = false ∨ bodyB 77 bs = []) : unpM bs = none := by
  match bs with
  | [] => rfl
  | [_] => rfl
  | b0 :: p :: r0 =>
    simp only [unpM]
    rw [if_neg]
    intro h2
    simp only [Bool.and_eq_true, decide_eq_true_eq] at h2
    obtain ⟨-, h4⟩ := h2
    rw [← h4] at h
    unfold packM at h
    obtain ⟨k1, k2⟩ := body_of 77 (toB (⟨tkReg r0, tkReg (tkRest r0), tkReg (tkRest (tkRest r0)), p.toNat⟩ : Tri).carry :: (regB (tkReg r0).base (tkReg r0).digits ++ regB (tkReg (tkRest r0)).base (tkReg (tkRest r0)).digits ++ regB (tkReg (tkRest (tkRest r0))).base (tkReg (tkRest (tkRest r0))).digits))
    simp only [] at h k1 k2
    rcases h with h | h
    · rw [k1] at h; cases h
    · rw [k2] at h; cases h
theorem takeS (s : ByteArray) (bs : List UInt8) (hb : strB s = bs) (hl : bs.length ≤ 1048576) (R : Reg) (hR : tkReg bs = R) (rest : List UInt8) (hr : tkRest bs = rest) (ok : Bool) (ho : tkFine bs = ok) (w : World) :
    Calls Try.prog 103 #[.string s] w fun e w' => ∃ A c r, e = .returned (.tuple #[.agg #[.int .i64 R.base, .slice A R.digits.length c], .string r, .bool ok]) ∧ strB r = rest ∧ OwnI w' w.heap.size (.slice A R.digits.length c) R.digits ∧ Below w.heap.size w w' := by
  subst hb; subst hR; subst hr; subst ho
  exact l27Register_any s w (by rw [← strB_len]; omega)
set_option maxRecDepth 100000 in
set_option maxHeartbeats 3200000 in
theorem specUnpackMachine_any (s : ByteArray) (w : World) (hs : s.size ≤ 1048576) :
    Calls Try.prog 43 #[.string s] w fun e w' => ∃ A1 c1 A2 c2 A3 c3, e = .returned (.tuple #[.agg #[.int .i64 (unpMach (strB s)).a.base, .slice A1 (unpMach (strB s)).a.digits.length c1, .int .i64 (unpMach (strB s)).b.base, .slice A2 (unpMach (strB s)).b.digits.length c2, .int .i64 (unpMach (strB s)).s.base, .slice A3 (unpMach (strB s)).s.digits.length c3, .int .i64 (unpMach (strB s)).carry], .int .i64 (unpMCode (strB s))]) ∧
      Kn w [rowI A3 c3 (unpMach (strB s)).s.digits, rowI A2 c2 (unpMach (strB s)).b.digits, rowI A1 c1 (unpMach (strB s)).a.digits] w' := by
  have HS := Lib.hid (unpM_spec (strB s))
  have HN := Lib.hid (unpM_not (strB s))
  have hbl : (bodyB 77 (strB s)).length ≤ 1048576 := by
    unfold bodyB; have := strB_len s
    split
    · rw [List.length_take, List.length_drop]; omega
    · simp
  have KB := fun W => l27Body_any s 77 W hs
  obtain ⟨ok, hok⟩ : ∃ b, bodyOk 77 (strB s) = b := ⟨_, rfl⟩
  obtain ⟨body, hbd⟩ : ∃ b, bodyB 77 (strB s) = b := ⟨_, rfl⟩
  rw [hok, hbd] at HS HN KB
  rw [hbd] at hbl
  have KB := Lib.hid KB
  clear hok hbd
  go_enter Try.func43, Try.ntmps43
  go_wp2_with fail
  refine Calls.kn ((Kn.nil w).al [.int .i64 0, .slice none 0 0, .int .i64 0, .slice none 0 0, .int .i64 0, .slice none 0 0, .int .i64 0] 28) ?_; intro w1 hK1
  refine (KB.out w1).mono ?_; rintro e w2 ⟨r, rfl, hr, hw⟩
  have hK2 := hK1.keep hw
  obtain ⟨d1, d2, d3, -⟩ := hK2.cells
  clear hw hK1
  cases ok with
  | false =>
    have HU := Lib.hid (unpM_none (HN.out (.inl rfl)))
    go_wp2_with fail
    refine bodyPost_ret (v := .tuple #[.agg #[.int .i64 0, .slice none 0 0, .int .i64 0, .slice none 0 0, .int .i64 0, .slice none 0 0, .int .i64 0], .int .i64 8]) (by simp [results, Try.results43, go_sem, d1, d2, d3]) rfl ⟨none, 0, none, 0, none, 0, by rw [HU.out.1, HU.out.2]; rfl, ?_⟩
    rw [HU.out.1]
    exact (((((((((hK2.st 0 (.int .i64 0)).st 1 (.slice none 0 0)).st 2 (.int .i64 0)).st 3 (.slice none 0 0)).st 4 (.int .i64 0)).st 5 (.slice none 0 0)).st 6 (.int .i64 0)).bare.nilRow _ _).nilRow _ _).nilRow _ _
  | true =>
    cases hbc : body with
    | nil =>
      have HU := Lib.hid (unpM_none (HN.out (.inr hbc)))
      have hem : r.toList.isEmpty = true := by rw [strB_toList, hr, hbc]; rfl
      clear hbc
      go_wp2_with fail
      refine bodyPost_ret (v := .tuple #[.agg #[.int .i64 0, .slice none 0 0, .int .i64 0, .slice none 0 0, .int .i64 0, .slice none 0 0, .int .i64 0], .int .i64 8]) (by simp [results, Try.results43, go_sem, d1, d2, d3]) rfl ⟨none, 0, none, 0, none, 0, by rw [HU.out.1, HU.out.2]; rfl, ?_⟩
      rw [HU.out.1]
      exact (((((((((hK2.st 0 (.int .i64 0)).st 1 (.slice none 0 0)).st 2 (.int .i64 0)).st 3 (.slice none 0 0)).st 4 (.int .i64 0)).st 5 (.slice none 0 0)).st 6 (.int .i64 0)).bare.nilRow _ _).nilRow _ _).nilRow _ _
    | cons p l =>
      have hem : r.toList.isEmpty = false := by rw [strB_toList, hr, hbc]; rfl
      have HS := Lib.hid (HS.out p l rfl hbc)
      rw [hbc] at hr hbl
      have hrs : 0 < r.size := by rw [← strB_len, hr]; simp
      have hr1 : r[0] = p := by have h := strB_cons hrs; rw [hr] at h; injection h with h _; exact h.symm
      obtain ⟨x0, hx0⟩ : ∃ x, r.extract 1 r.size = x := ⟨_, rfl⟩
      have hx : strB x0 = l := by rw [← hx0, strB_tail, hr]; rfl
      have hl0 : l.length ≤ 1048576 := by simp at hbl; omega
      obtain ⟨t, ht⟩ : ∃ t : Tri, (⟨tkReg l, tkReg (tkRest l), tkReg (tkRest (tkRest l)), p.toNat⟩ : Tri) = t := ⟨_, rfl⟩
      have hta : tkReg l = t.a := by rw [← ht]
      have htb : tkReg (tkRest l) = t.b := by rw [← ht]
      have hts : tkReg (tkRest (tkRest l)) = t.s := by rw [← ht]
      have htc : (p.toNat : Int) = t.carry := by rw [← ht]
      have n1 := tkReg_len l; rw [hta] at n1
      have n2 := tkReg_len (tkRest l); rw [htb] at n2
      have n3 := tkReg_len (tkRest (tkRest l)); rw [hts] at n3
      have HS := HS.out
      rw [ht] at HS
      obtain ⟨ok1, hok1⟩ : ∃ b, tkFine l = b := ⟨_, rfl⟩
      obtain ⟨ok2, hok2⟩ : ∃ b, tkFine (tkRest l) = b := ⟨_, rfl⟩
      obtain ⟨ok3, hok3⟩ : ∃ b, tkFine (tkRest (tkRest l)) = b := ⟨_, rfl⟩
      obtain ⟨third, hth⟩ : ∃ b, tkRest (tkRest (tkRest l)) = b := ⟨_, rfl⟩
      rw [hok1, hok2, hok3, hth] at HS
      have HS := Lib.hid HS
      have K1 := Lib.hid (fun W => takeS x0 l hx hl0 t.a hta _ rfl ok1 hok1 W)
      have K2 := Lib.hid (fun x (hx : strB x = tkRest l) W => takeS x _ hx (Nat.le_trans (tkRest_len _) hl0) t.b htb _ rfl ok2 hok2 W)
      have K3 := Lib.hid (fun x (hx : strB x = tkRest (tkRest l)) W => takeS x _ hx (Nat.le_trans (tkRest_len _) (Nat.le_trans (tkRest_len _) hl0)) t.s hts third hth ok3 hok3 W)
      have HX := Lib.hid hx0
      have hi1 : (1 : Int) ≤ (r.size : Int) := by omega
      have hi0 : (0 : Int) < (r.size : Int) := by omega
      have HTC := Lib.hid htc
      have hp2 : p.toNat < 256 := p.toNat_lt
      clear hbc hr hx ht hta htb hts hok1 hok2 hok3 hth hx0 htc hbl
      go_wp2_with fail
      rw [HX.out]
      refine (K1.out _).mono ?_; rintro e w3 ⟨A1, c1, y1, rfl, hy1, ho, hw⟩
      have hK3 := hK2.addI hw ho
      clear hw ho d1 d2 d3 hK2
      obtain ⟨d1, d2, d3, -⟩ := hK3.cells
      go_wp2_with (first | (refine wpList.kn (hK3.al [.int .i64 0, .slice none 0 0] 26) ?_; intro w4 hK4; obtain ⟨a1, a2, a3, -⟩ := hK4.cells) | (refine wpList.kn ((hK4.st 0 _).st 1 _) ?_; intro w5 hK5; clear hK4 hK3 a1 a2 a3))
      refine (K2.out _ hy1 _).mono ?_; rintro e w6 ⟨A2, c2, y2, rfl, hy2, ho, hw⟩
      have hK6 := hK5.addI hw ho
      clear hw ho d1 d2 d3 hK5
      go_wp2_with (first | (refine wpList.kn (hK6.al [.int .i64 0, .slice none 0 0] 26) ?_; intro w7 hK7; obtain ⟨a1, a2, a3, -⟩ := hK7.cells) | (refine wpList.kn ((hK7.st 0 _).st 1 _) ?_; intro w8 hK8; clear hK7 hK6 a1 a2 a3))
      refine (K3.out _ hy2 _).mono ?_; rintro e w9 ⟨A3, c3, y3, rfl, hy3, ho, hw⟩
      have hK9 := hK8.addI hw ho
      clear hw ho hK8
      go_upto_region 7 with (first | (refine wpList.kn (hK9.al [.int .i64 0, .slice none 0 0] 26) ?_; intro w10 hK10; obtain ⟨a1, a2, a3, -⟩ := hK10.cells) | (refine wpList.kn ((hK10.st 0 _).st 1 _) ?_; intro w11 hK11; clear hK10 hK9 a1 a2 a3))
      obtain ⟨p1, p2, p3, q1, q2, q3, s1, s2, s3, d1, d2, d3, -⟩ := hK11.cells
      go_cut [15] (fun mm wx => ∃ g, mm = .pointer (some ⟨g, 0, none⟩) ∧ Kn w [.blk g [.int .i64 t.a.base, .slice A1 t.a.digits.length c1, .int .i64 t.b.base, .slice A2 t.b.digits.length c2, .int .i64 t.s.base, .slice A3 t.s.digits.length c3, .int .i64 t.carry] 28, rowI A3 c3 t.s.digits, rowI A2 c2 t.b.digits, rowI A1 c1 t.a.digits, .blk w.heap.size [.int .i64 0, .slice none 0 0, .int .i64 0, .slice none 0 0, .int .i64 0, .slice none 0 0, .int .i64 0] 28] wx)
      case first =>
        have hA := ((hK11.al [.int .i64 t.a.base, .slice A1 t.a.digits.length c1, .int .i64 t.b.base, .slice A2 t.b.digits.length c2, .int .i64 t.s.base, .slice A3 t.s.digits.length c3, .int .i64 t.carry] 28).drop1.drop2.drop3).drew
        go_region
        all_goals
          go_wp2_with fail
          go_meet
          rw [HTC.out]
          exact ⟨_, rfl, hA⟩
      case rest =>
        obtain ⟨g, rfl, hK12⟩ := hcut
        clear p1 p2 p3 q1 q2 q3 s1 s2 s3 d1 d2 d3 hK11 K1 K2 K3
        obtain ⟨a1, a2, a3, d1, d2, d3, -⟩ := hK12.cells
        have hem3 : y3.toList.isEmpty = third.isEmpty := by rw [strB_toList, hy3]
        cases ok1 with
        | false =>
          have HU := Lib.hid (unpM_none (HS.out))
          go_wp2_with fail
          refine bodyPost_ret (v := .tuple #[.agg #[.int .i64 0, .slice none 0 0, .int .i64 0, .slice none 0 0, .int .i64 0, .slice none 0 0, .int .i64 0], .int .i64 8]) (by simp [results, Try.results43, go_sem, d1, d2, d3]) rfl ⟨none, 0, none, 0, none, 0, by rw [HU.out.1, HU.out.2]; rfl, ?_⟩
          rw [HU.out.1]
          exact (((((((((hK12.sw4.st 0 (.int .i64 0)).st 1 (.slice none 0 0)).st 2 (.int .i64 0)).st 3 (.slice none 0 0)).st 4 (.int .i64 0)).st 5 (.slice none 0 0)).st 6 (.int .i64 0)).bare.nilRow _ _).nilRow _ _).nilRow _ _
        | true =>
        cases ok2 with
        | false =>
          have HU := Lib.hid (unpM_none (HS.out))
          go_wp2_with fail
          refine bodyPost_ret (v := .tuple #[.agg #[.int .i64 0, .slice none 0 0, .int .i64 0, .slice none 0 0, .int .i64 0, .slice none 0 0, .int .i64 0], .int .i64 8]) (by simp [results, Try.results43, go_sem, d1, d2, d3]) rfl ⟨none, 0, none, 0, none, 0, by rw [HU.out.1, HU.out.2]; rfl, ?_⟩
          rw [HU.out.1]
          exact (((((((((hK12.sw4.st 0 (.int .i64 0)).st 1 (.slice none 0 0)).st 2 (.int .i64 0)).st 3 (.slice none 0 0)).st 4 (.int .i64 0)).st 5 (.slice none 0 0)).st 6 (.int .i64 0)).bare.nilRow _ _).nilRow _ _).nilRow _ _
        | true =>
        cases ok3 with
        | false =>
          have HU := Lib.hid (unpM_none (HS.out))
          go_wp2_with fail
          refine bodyPost_ret (v := .tuple #[.agg #[.int .i64 0, .slice none 0 0, .int .i64 0, .slice none 0 0, .int .i64 0, .slice none 0 0, .int .i64 0], .int .i64 8]) (by simp [results, Try.results43, go_sem, d1, d2, d3]) rfl ⟨none, 0, none, 0, none, 0, by rw [HU.out.1, HU.out.2]; rfl, ?_⟩
          rw [HU.out.1]
          exact (((((((((hK12.sw4.st 0 (.int .i64 0)).st 1 (.slice none 0 0)).st 2 (.int .i64 0)).st 3 (.slice none 0 0)).st 4 (.int .i64 0)).st 5 (.slice none 0 0)).st 6 (.int .i64 0)).bare.nilRow _ _).nilRow _ _).nilRow _ _
        | true =>
        rcases he : third.isEmpty with _ | _
        · have HU := Lib.hid (unpM_none (bs := strB s) (by rw [HS.out, he]; rfl))
          rw [he] at hem3
          clear he
          go_wp2_with fail
          refine bodyPost_ret (v := .tuple #[.agg #[.int .i64 0, .slice none 0 0, .int .i64 0, .slice none 0 0, .int .i64 0, .slice none 0 0, .int .i64 0], .int .i64 8]) (by simp [results, Try.results43, go_sem, d1, d2, d3]) rfl ⟨none, 0, none, 0, none, 0, by rw [HU.out.1, HU.out.2]; rfl, ?_⟩
          rw [HU.out.1]
          exact (((((((((hK12.sw4.st 0 (.int .i64 0)).st 1 (.slice none 0 0)).st 2 (.int .i64 0)).st 3 (.slice none 0 0)).st 4 (.int .i64 0)).st 5 (.slice none 0 0)).st 6 (.int .i64 0)).bare.nilRow _ _).nilRow _ _).nilRow _ _
        · rw [he] at hem3
          have r3 := hK12.drop.ownI.ri
          have r2 := hK12.drop.drop.ownI.ri
          have r1 := hK12.drop.drop.drop.ownI.ri
          have KO := l10Ok_any ⟨g, 0, none⟩ t wc (TriC.tri (TriC.of_block hK12.at0 r1 r2 r3)) ⟨by unfold SmallReg; omega, by unfold SmallReg; omega, by unfold SmallReg; omega⟩
          rcases hv : vmach t with _ | _
          · have HU := Lib.hid (unpM_none (bs := strB s) (by rw [HS.out, he, hv]; rfl))
            rw [hv] at KO
            have KO := Lib.hid KO
            clear he hv r1 r2 r3
            go_wp2_with fail
            refine KO.out.mono ?_; rintro e w13 ⟨rfl, m, rfl⟩
            have hK13 := hK12.drewN m
            go_wp2_with fail
            refine bodyPost_ret (v := .tuple #[.agg #[.int .i64 0, .slice none 0 0, .int .i64 0, .slice none 0 0, .int .i64 0, .slice none 0 0, .int .i64 0], .int .i64 8]) (by simp [results, Try.results43, go_sem, d1, d2, d3]) rfl ⟨none, 0, none, 0, none, 0, by rw [HU.out.1, HU.out.2]; rfl, ?_⟩
            rw [HU.out.1]
            exact (((((((((hK13.sw4.st 0 (.int .i64 0)).st 1 (.slice none 0 0)).st 2 (.int .i64 0)).st 3 (.slice none 0 0)).st 4 (.int .i64 0)).st 5 (.slice none 0 0)).st 6 (.int .i64 0)).bare.nilRow _ _).nilRow _ _).nilRow _ _
          · have HU := Lib.hid (unpM_some (bs := strB s) (r := t) (by rw [HS.out, he, hv]; rfl))
            rw [hv] at KO
            have KO := Lib.hid KO
            clear he hv r1 r2 r3
            go_wp2_with fail
            refine KO.out.mono ?_; rintro e w13 ⟨rfl, m, rfl⟩
            have hK13 := (hK12.drewN m).sw4
            go_wp2_with fail
            have hK14 := (((((((hK13.st 0 (.int .i64 t.a.base)).st 1 (.slice A1 t.a.digits.length c1)).st 2 (.int .i64 t.b.base)).st 3 (.slice A2 t.b.digits.length c2)).st 4 (.int .i64 t.s.base)).st 5 (.slice A3 t.s.digits.length c3)).st 6 (.int .i64 t.carry))
            refine bodyPost_ret (v := .tuple #[.agg #[.int .i64 t.a.base, .slice A1 t.a.digits.length c1, .int .i64 t.b.base, .slice A2 t.b.digits.length c2, .int .i64 t.s.base, .slice A3 t.s.digits.length c3, .int .i64 t.carry], .int .i64 0]) (by simp [results, Try.results43, go_sem, d1, d2, d3]) rfl ⟨A1, c1, A2, c2, A3, c3, by rw [HU.out.1, HU.out.2], ?_⟩
            rw [HU.out.1]
            exact hK14.drop.drop
end Go.Proofs.Ytkfbfainhmkkdaa

namespace Go.Proofs.Ytkfbfainhmkkdaa
open Go.RowKit Go.Sort
set_option maxRecDepth 100000 in
set_option maxHeartbeats 400000 in
theorem l27Number_any (s : ByteArray) (w : World) (hs : s.size ≤ 1048576) :
    Calls Try.prog 104 #[.string s] w fun e w' => ∃ n u : Nat, e = .returned (.tuple #[.int .i64 n, .int .i64 u]) ∧ ((decV 6 (strB s) = none ∧ u = 0) ∨ (1 ≤ u ∧ u ≤ s.size ∧ decV 6 (strB s) = some (n, (strB s).drop u))) ∧ w = w' := by
  have HSL := Lib.hid (strB_len s)
  go_enter Try.func104, Try.ntmps104
  go_wp2_with fail
  go_loopw [4, 5] (fun nn ii wr => ∃ (i acc : Nat), i ≤ 6 ∧ ii = .int .i64 i ∧ nn = .int .i64 (acc : Int) ∧ acc < 128 ^ i ∧ i ≤ s.size ∧
    decV 6 (strB s) = (decV (6 - i) ((strB s).drop i)).map (fun p => (acc + 128 ^ i * p.1, p.2)) ∧ w = wr) (fun _ i _ => 6 - (intOf i).toNat)
  case atStart => exact ⟨0, 0, by omega, rfl, rfl, by decide, by omega, by simp, rfl⟩
  case round =>
    obtain ⟨i, acc, hi6, rfl, rfl, hacc, his, hdv, rfl⟩ := hrel
    have HV := Lib.hid hdv
    clear hdv
    by_cases hlt : i < s.size
    · by_cases hlt6 : i < 6
      · obtain ⟨q, hq⟩ : ∃ q : UInt8, s[i] = q := ⟨_, rfl⟩
        obtain ⟨z, hz⟩ : ∃ z : Nat, q.toNat = z := ⟨_, rfl⟩
        have hz2 : z < 256 := by rw [← hz]; exact q.toNat_lt
        have hdr : (strB s).drop i = q :: (strB s).drop (i + 1) := by
          rw [List.drop_eq_getElem_cons (by rw [HSL.out]; exact hlt), ← strB_get s hlt, hq]
        have i0 : (0 : Int) ≤ (i : Int) := by omega
        have i1 : (i : Int) < (s.size : Int) := by omega
        have i2 : (i : Int) < 6 := by omega
        obtain ⟨U, hU⟩ : ∃ U : Nat, 128 ^ i = U := ⟨_, rfl⟩
        have hU2 : U ≤ 34359738368 := by
          rw [← hU]; exact Nat.le_trans (Nat.pow_le_pow_right (by omega) (show i ≤ 5 by omega)) (by decide)
        have hU3 : 128 ^ (i + 1) = U * 128 := by rw [← hU, Nat.pow_succ]
        have hP : (2 : Int) ^ (7 * i) = (U : Int) := by rw [← hU, Int.pow_mul]; simp
        rw [hU] at hacc HV
        have HU3 := Lib.hid hU3
        have hm : z % 128 * U ≤ 127 * U := Nat.mul_le_mul_right _ (by omega)
        obtain ⟨M, hM⟩ : ∃ M : Nat, z % 128 * U = M := ⟨_, rfl⟩
        have hMi : ((z : Int) % 128) * (U : Int) = (M : Int) := by rw [← hM]; simp
        rw [hM] at hm
        have HPI := Lib.hid (show (z : Int) % 128 * 2 ^ (7 * i) = (M : Int) by rw [hP, hMi])
        have HU0 := Lib.hid hU
        clear hU hU3 hP hMi
        have x3 : wrap64 ((z : Int) % 128 * 2 ^ (7 * i)) = (M : Int) := by rw [HPI.out]; exact wrap64_of (by clear HV HPI HU0 HU3 hdr; omega)
        have x4 : wrap64 ((acc : Int) + (M : Int)) = (acc : Int) + (M : Int) := wrap64_of (by clear x3 hdr; omega)
        have hdc : decV (6 - i) ((strB s).drop i) = if z < 128 then some (z, (strB s).drop (i + 1)) else (decV (6 - (i + 1)) ((strB s).drop (i + 1))).map fun p => (z % 128 + 128 * p.1, p.2) := by
          rw [hdr, show 6 - i = (6 - (i + 1)) + 1 by omega, decV, hz]
        have HC := Lib.hid hdc
        have HM := Lib.hid hM
        clear hdc hdr hM
        by_cases hz128 : z < 128
        · have i5 : (z : Int) < 128 := by omega
          have HU : Hid (decV 6 (strB s) = some (acc + M, (strB s).drop (i + 1))) := by
            simp only [Hid]
            rw [HV.out, HC.out, if_pos hz128]
            have h1 : U * z = M := by rw [← HM.out, Nat.mod_eq_of_lt hz128, Nat.mul_comm]
            simp [h1]
          clear hz128
          go_wp2_with fail
          go_ret2
          exact ⟨acc + M, i + 1, by simp, .inr ⟨by omega, by omega, HU.out⟩, rfl⟩
        · have i5 : ¬ (z : Int) < 128 := by omega
          have HN : Hid (decV 6 (strB s) = (decV (6 - (i + 1)) ((strB s).drop (i + 1))).map (fun p => ((acc + M) + U * 128 * p.1, p.2))) := by
            simp only [Hid]
            rw [HV.out, HC.out, if_neg hz128, Option.map_map]
            congr 1
            funext p
            simp only [Function.comp]
            have h1 : U * (z % 128 + 128 * p.1) = M + U * 128 * p.1 := by rw [Nat.mul_add, ← HM.out, Nat.mul_comm U (z % 128), Nat.mul_assoc]
            rw [h1, Nat.add_assoc]
          clear hz128
          go_wp2_with fail
          go_roundw
          case rel => exact ⟨i + 1, acc + M, by omega, by go_num, by simp, by rw [HU3.out]; omega, by omega, by rw [HU3.out]; exact HN.out, by first | rfl | trivial⟩
          case measure => simp [intOf]; omega
      · have HU : Hid (decV 6 (strB s) = none) := by simp only [Hid]; rw [HV.out, show 6 - i = 0 by omega]; rfl
        have i1 : (i : Int) < (s.size : Int) := by omega
        have i2 : ¬ (i : Int) < 6 := by omega
        go_wp2_with fail
        go_ret2
        exact ⟨0, 0, rfl, .inl ⟨HU.out, rfl⟩, rfl⟩
    · have HU : Hid (decV 6 (strB s) = none) := by simp only [Hid]; rw [HV.out, List.drop_of_length_le (by rw [HSL.out]; omega), decV_nil]; rfl
      have i1 : ¬ (i : Int) < (s.size : Int) := by omega
      go_wp2_with fail
      go_ret2
      exact ⟨0, 0, rfl, .inl ⟨HU.out, rfl⟩, rfl⟩
end Go.Proofs.Ytkfbfainhmkkdaa

namespace Go.Proofs.Ytkfbfainhmkkdaa
open Go.RowKit Go.Sort
theorem decL_snoc (f : Nat) : ∀ (k : Nat) (bs : List UInt8), decL f (k + 1) bs = (decL f k bs).bind fun p => (decI f p.2).map fun q => (p.1 ++ [q.1], q.2)
  | 0, bs => by
    simp only [decL, Option.bind_some, Option.map_some]
    cases decI f bs <;> rfl
  | k + 1, bs => by
    rw [decL]
    cases h : decI f bs with
    | none => simp [decL, h]
    | some p =>
      simp only [Option.bind_some]
      rw [decL_snoc f k p.2]
      simp only [decL, h, Option.bind_some]
      cases h2 : decL f k p.2 with
      | none => rfl
      | some q =>
        simp only [Option.bind_some, Option.map_some]
        cases h3 : decI f q.2 with
        | none => rfl
        | some r => rfl
theorem decL_none (f k : Nat) (bs : List UInt8) (h : decL f k bs = none) : ∀ j, decL f (k + j) bs = none
  | 0 => h
  | j + 1 => by rw [← Nat.add_assoc, decL_snoc, decL_none f k bs h j]; rfl
theorem decL_stop {f k n : Nat} {bs : List UInt8} (h : decL f (k + 1) bs = none) (hk : k < n) : decL f n bs = none := by
  have := decL_none f (k + 1) bs h (n - (k + 1))
  rwa [show k + 1 + (n - (k + 1)) = n by omega] at this
theorem decV_le : ∀ (k : Nat) (bs : List UInt8) (p : Nat × List UInt8), decV k bs = some p → p.2.length ≤ bs.length
  | 0, _, _, h => by cases h
  | _ + 1, [], _, h => by cases h
  | k + 1, b :: tl, p, h => by
    rw [decV] at h
    split at h
    · injection h with h; rw [← h]; simp
    · obtain ⟨q, hq, rfl⟩ := Option.map_eq_some_iff.1 h
      have := decV_le k tl q hq
      rw [List.length_cons]; exact Nat.le_succ_of_le this
theorem decI_le {f : Nat} {bs rs : List UInt8} {x : Ins} (h : decI f bs = some (x, rs)) : rs.length ≤ bs.length := by
  cases bs with
  | nil => cases h
  | cons b tl =>
    simp only [decI] at h
    obtain ⟨q, hq, h2⟩ := Option.map_eq_some_iff.1 h
    have h3 := decV_le f tl q hq
    injection h2 with _ h2
    rw [← h2, List.length_cons]; exact Nat.le_succ_of_le h3
def unpProg (bs : List UInt8) : List Ins := (unpP bs).getD []
def unpPCode (bs : List UInt8) : Int := if (unpP bs).isSome then 0 else 8
theorem unpP_none {bs : List UInt8} (h : unpP bs = none) : unpProg bs = [] ∧ unpPCode bs = 8 := by simp [unpProg, unpPCode, h]
theorem unpP_some {bs : List UInt8} {r : List Ins} (h : unpP bs = some r) : unpProg bs = r ∧ unpPCode bs = 0 := by simp [unpProg, unpPCode, h]
set_option maxRecDepth 100000 in
set_option maxHeartbeats 400000 in
theorem UnpackProgram_any (s : ByteArray) (w : World) (hs : s.size ≤ 1048576) :
    Calls Try.prog 38 #[.string s] w fun e w' => ∃ A c, e = .returned (.tuple #[.slice A (unpProg (strB s)).length c, .int .i64 (unpPCode (strB s))]) ∧ Kn w [rowIns (.slice A (unpProg (strB s)).length c) (unpProg (strB s))] w' := by
  by_cases h0 : 2 ≤ s.size
  · obtain ⟨h1, hc⟩ := strB_cons2 h0
    obtain ⟨b0, hb0⟩ : ∃ b, s[0] = b := ⟨_, rfl⟩
    obtain ⟨p, hp⟩ : ∃ b, s[1] = b := ⟨_, rfl⟩
    obtain ⟨r0, hr0⟩ : ∃ l, (strB s).drop 2 = l := ⟨_, rfl⟩
    rw [hb0, hp, hr0] at hc
    have hl0 : r0.length ≤ 1048576 := by rw [← hr0, List.length_drop, strB_len]; omega
    have hx := strB_drop s 2
    rw [hr0] at hx
    obtain ⟨x0, hx0⟩ : ∃ x, s.extract 2 s.size = x := ⟨_, rfl⟩
    rw [hx0] at hx
    obtain ⟨cnt, hcnt⟩ : ∃ c, p.toNat = c := ⟨_, rfl⟩
    have HUP := Lib.hid (show unpP (strB s) = (decL 7 cnt r0).bind fun q => if vprog q.1 && decide (packP q.1 = b0 :: p :: r0) then some q.1 else none by rw [hc, ← hcnt]; rfl)
    have hc2 : cnt < 256 := by rw [← hcnt]; exact p.toNat_lt
    have HC := Lib.hid hc
    have HX := Lib.hid hx0
    have hi1 : (1 : Int) < (s.size : Int) := by omega
    have hi2 : (2 : Int) ≤ (s.size : Int) := by omega
    have hi3 : ¬ (s.size : Int) < 2 := by omega
    have HXB := Lib.hid hx
    clear hc hb0 hr0 hx hx0
    go_enter Try.func38, Try.ntmps38
    go_upto_region 3 with fail
    go_cut [4, 5] (fun vv rr wx => rr = .string x0 ∧ Kn w [rowIns vv []] wx)
    case first =>
      have hK0 := (((Kn.nil w).al [] 46).litRow (n := 0) (size := 2) rfl (by decide)).drew
      go_region
      all_goals
        go_wp2_with fail
        go_meet
        rw [HX.out]
        exact ⟨rfl, hK0⟩
    case rest =>
    rename_i v4
    obtain ⟨rfl, hK0⟩ := hcut
    go_wp2_with fail
    go_loopw [4, 5, 19] (fun vv rr kk wr => ∃ (k : Nat) (xs : List Ins) (r : ByteArray), k ≤ cnt ∧ kk = .int .u8 (k : Int) ∧ rr = .string r ∧ decL 7 k r0 = some (xs, strB r) ∧ xs.length = k ∧ r.size ≤ 1048576 ∧ Kn w [rowIns vv xs] wr) (fun _ _ k _ => cnt - (intOf k).toNat)
    case atStart => exact ⟨0, [], x0, Nat.zero_le _, rfl, rfl, by rw [HXB.out]; rfl, rfl, by rw [← strB_len, HXB.out]; exact hl0, hK0⟩
    case round =>
      rename_i vv _ _
      obtain ⟨k, xs, r, hk, rfl, rfl, hd, hxl, hrs, hK⟩ := hrel
      have HD := Lib.hid hd
      have HSN := Lib.hid (show decL 7 (k + 1) r0 = (decI 7 (strB r)).map fun q => (xs ++ [q.1], q.2) by rw [decL_snoc, hd]; rfl)
      have HXL := Lib.hid hxl
      have hxb : xs.length ≤ 256 := by omega
      clear hd hK0 hxl
      by_cases hkn : k < cnt
      · have y1 : IntKind.u8.wrap ((k : Int) + 1) = (k : Int) + 1 := wrapB (by omega)
        have i1 : (k : Int) < (p.toNat : Int) := by omega
        have KT := Lib.hid (fun W => takeInstr_any r W hrs)
        rcases hdi : decI 7 (strB r) with _ | ⟨x, rs⟩
        · have HTI := Lib.hid (ti_none hdi)
          have HU := Lib.hid (unpP_none (bs := strB s) (by rw [HUP.out, decL_stop (by rw [HSN.out, hdi]; rfl) hkn]; rfl))
          have KT := KT.out wr
          rw [HTI.out.1, HTI.out.2.1, HTI.out.2.2] at KT
          have KT := Lib.hid KT
          clear hdi
          go_wp2_with fail
          refine KT.out.mono ?_; rintro e w2 ⟨r2, rfl, hr2, hw⟩
          have hK2 := hK.keep hw
          clear hw
          go_wp2_with fail
          refine bodyPost_ret (v := .tuple #[.slice none 0 0, .int .i64 8]) (by simp [results, Try.results38, go_sem]) rfl ⟨none, 0, by rw [HU.out.1, HU.out.2]; rfl, ?_⟩
          rw [HU.out.1]
          exact (hK2.al_ _).bare.nilIns
        · have HTI := Lib.hid (ti_some hdi)
          have HS2 : Hid (decL 7 (k + 1) r0 = some (xs ++ [x], rs)) := by simp only [Hid]; rw [HSN.out, hdi]; rfl
          have hrl : rs.length ≤ (strB r).length := decI_le hdi
          have KT := KT.out wr
          rw [HTI.out.1, HTI.out.2.1, HTI.out.2.2] at KT
          have KT := Lib.hid KT
          clear hdi
          go_wp2_with fail
          refine KT.out.mono ?_; rintro e w2 ⟨r2, rfl, hr2, hw⟩
          have hK2 := hK.keep hw
          clear hw
          have HR2 := Lib.hid hr2
          have hr2s : r2.size ≤ 1048576 := by rw [← strB_len, hr2]; rw [strB_len] at hrl; omega
          clear hr2
          have hKx := hK2.al [.int .i64 x.op, .int .i64 x.arg] 46
          go_wp2_with (first | (refine wpList.kn hKx ?_; clear hKx; intro w3 hK3; obtain ⟨a1, a2, a3, -⟩ := hK3.cells) | (at_builtin; refine kn_app tpIns rfl _ _ rfl _ xs.length (cellsIns xs) rfl rfl ((hK3.sw1).al [.int .i64 x.op, .int .i64 x.arg] 46) rfl (by simp [Value.oneCell']) (by omega) (by omega) ?_; intro v5 w6 hK4))
          go_roundw
          case rel => exact ⟨k + 1, xs ++ [x], r2, by omega, by go_num, rfl, by rw [HR2.out]; exact HS2.out, by rw [List.length_append, HXL.out]; rfl, hr2s, by
            have h := hK4.drop1
            unfold rowIns
            rw [cellsIns_snoc, List.length_append]; exact h⟩
          case measure => simp [intOf]; omega
      · have i1 : ¬ (k : Int) < (p.toNat : Int) := by omega
        have HD2 : Hid (decL 7 cnt r0 = some (xs, strB r)) := by simp only [Hid]; rw [← HD.out]; congr 1; omega
        obtain ⟨A, c, rfl⟩ := row_form hK.at0
        obtain ⟨-, hrl⟩ := hK.rlIns
        rcases hv : vprog xs with _ | _
        · have HU := Lib.hid (unpP_none (bs := strB s) (by rw [HUP.out, HD2.out]; simp [hv]))
          have KP := Lib.hid (PackProgram_false A xs.length c xs wr hrl (by omega) hv)
          clear hrl hv
          go_wp2_with fail
          refine KP.out.mono ?_; rintro e w2 ⟨rfl, hw⟩
          have hK2 := hK.keep hw
          clear hw
          go_wp2_with fail
          refine bodyPost_ret (v := .tuple #[.slice none 0 0, .int .i64 8]) (by simp [results, Try.results38, go_sem]) rfl ⟨none, 0, by rw [HU.out.1, HU.out.2]; rfl, ?_⟩
          rw [HU.out.1]
          exact hK2.bare.nilIns
        · have KP := Lib.hid (PackProgram_true A xs.length c xs wr hrl hv)
          have HV := Lib.hid hv
          clear hrl hv
          rcases hq : (packP xs == s.toList) with _ | _
          · have HU := Lib.hid (unpP_none (bs := strB s) (by rw [HUP.out, HD2.out]; rw [strB_toList, HC.out, beq_eq_false_iff_ne] at hq; simp [hq]))
            go_wp2_with fail
            refine KP.out.mono ?_; rintro e w2 ⟨rfl, hw⟩
            have hK2 := hK.keep hw
            clear hw
            go_wp2_with fail
            refine bodyPost_ret (v := .tuple #[.slice none 0 0, .int .i64 8]) (by simp [results, Try.results38, go_sem]) rfl ⟨none, 0, by rw [HU.out.1, HU.out.2]; rfl, ?_⟩
            rw [HU.out.1]
            exact hK2.bare.nilIns
          · have HU := Lib.hid (unpP_some (bs := strB s) (r := xs) (by rw [HUP.out, HD2.out]; rw [strB_toList, HC.out, beq_iff_eq] at hq; simp [hq, HV.out]))
            go_wp2_with fail
            refine KP.out.mono ?_; rintro e w2 ⟨rfl, hw⟩
            have hK2 := hK.keep hw
            clear hw
            go_wp2_with fail
            refine bodyPost_ret (v := .tuple #[.slice A xs.length c, .int .i64 0]) (by simp [results, Try.results38, go_sem]) rfl ⟨A, c, by rw [HU.out.1, HU.out.2], ?_⟩
            rw [HU.out.1]
            exact hK2
  · have HU := Lib.hid (unpP_none (bs := strB s) (by
      have hl := strB_len s
      cases h : strB s with
      | nil => rfl
      | cons a l =>
        cases l with
        | nil => rfl
        | cons b l => rw [h] at hl; simp at hl; omega))
    have hi3 : (s.size : Int) < 2 := by omega
    go_enter Try.func38, Try.ntmps38
    go_wp2_with fail
    refine bodyPost_ret (v := .tuple #[.slice none 0 0, .int .i64 8]) (by simp [results, Try.results38, go_sem]) rfl ⟨none, 0, by rw [HU.out.1, HU.out.2]; rfl, ?_⟩
    rw [HU.out.1]
    exact (Kn.nil w).bare.nilIns
end Go.Proofs.Ytkfbfainhmkkdaa

namespace Go.Proofs.Ytkfbfainhmkkdaa
open Go.RowKit Go.Sort
theorem unpP_spec (bs : List UInt8) (cnt : UInt8) (l : List UInt8) (hb : bodyOk 80 bs = true) (hl : bodyB 80 bs = cnt :: l) :
    unpP bs = (decL 6 cnt.toNat l).bind fun q => if q.2.isEmpty && vprog q.1 && decide (packP q.1 = bs) then some q.1 else none := by
  have hbs := (body_iff 80 bs).1 hb
  rw [hl] at hbs
  cases h : (decL 6 cnt.toNat l).bind fun q => if q.2.isEmpty && vprog q.1 && decide (packP q.1 = bs) then some q.1 else none with
  | some xs =>
    obtain ⟨q, -, h2⟩ := Option.bind_eq_some_iff.1 h
    split at h2
    · rename_i h3
      injection h2 with h2
      simp only [Bool.and_eq_true, decide_eq_true_eq] at h3
      rw [h2] at h3
      exact (unpP_iff bs xs).2 ⟨h3.1.2, h3.2⟩
    · cases h2
  | none =>
    cases h2 : unpP bs with
    | none => rfl
    | some xs =>
      obtain ⟨h3, h4⟩ := (unpP_iff bs xs).1 h2
      obtain ⟨h120, hall⟩ := vprog_each h3
      have h5 : cnt :: l = UInt8.ofNat xs.length :: xs.flatMap insB := by
        have h6 : sealB (80 :: cnt :: l) = sealB (progB xs) := by rw [← hbs, ← h4]; rfl
        have h7 := sealB_inj h6
        unfold progB at h7
        injection h7
      injection h5 with h5 h6
      have hc : cnt.toNat = xs.length := by rw [h5, UInt8.toNat_ofNat']; omega
      have hd := decL_prog 6 (Nat.le_refl _) xs hall []
      rw [List.append_nil] at hd
      rw [hc, h6, hd] at h
      simp [h3, h4] at h
theorem unpP_not (bs : List UInt8) (h : bodyOk 80 bs = false ∨ bodyB 80 bs = []) : unpP bs = none := by
  cases h2 : unpP bs with
  | none => rfl
  | some xs =>
    obtain ⟨h3, h4⟩ := (unpP_iff bs xs).1 h2
    obtain ⟨k1, k2⟩ := body_of 80 (UInt8.ofNat xs.length :: xs.flatMap insB)
    have h5 : sealB (80 :: UInt8.ofNat xs.length :: xs.flatMap insB) = bs := h4
    rw [h5] at k1 k2
    rcases h with h | h
    · rw [k1] at h; cases h
    · rw [k2] at h; cases h
set_option maxRecDepth 100000 in
set_option maxHeartbeats 1000000 in
theorem specUnpackProgram_any (s : ByteArray) (w : World) (hs : s.size ≤ 1048576) :
    Calls Try.prog 45 #[.string s] w fun e w' => ∃ A c, e = .returned (.tuple #[.slice A (unpProg (strB s)).length c, .int .i64 (unpPCode (strB s))]) ∧ Kn w [rowIns (.slice A (unpProg (strB s)).length c) (unpProg (strB s))] w' := by
  have HS := Lib.hid (unpP_spec (strB s))
  have HN := Lib.hid (unpP_not (strB s))
  have hbl : (bodyB 80 (strB s)).length ≤ 1048576 := by
    unfold bodyB; have := strB_len s
    split
    · rw [List.length_take, List.length_drop]; omega
    · simp
  have KB := fun W => l27Body_any s 80 W hs
  obtain ⟨ok, hok⟩ : ∃ b, bodyOk 80 (strB s) = b := ⟨_, rfl⟩
  obtain ⟨body, hbd⟩ : ∃ b, bodyB 80 (strB s) = b := ⟨_, rfl⟩
  rw [hok, hbd] at HS HN KB
  rw [hbd] at hbl
  have KB := Lib.hid KB
  clear hok hbd
  go_enter Try.func45, Try.ntmps45
  go_wp2_with fail
  refine (KB.out w).mono ?_; rintro e w2 ⟨r, rfl, hr, hw⟩
  have hK2 := (Kn.nil w).keep hw
  clear hw
  cases ok with
  | false =>
    have HU := Lib.hid (unpP_none (HN.out (.inl rfl)))
    go_wp2_with fail
    refine bodyPost_ret (v := .tuple #[.slice none 0 0, .int .i64 8]) (by simp [results, Try.results45, go_sem]) rfl ⟨none, 0, by rw [HU.out.1, HU.out.2]; rfl, ?_⟩
    rw [HU.out.1]
    exact hK2.bare.nilIns
  | true =>
    cases hbc : body with
    | nil =>
      have HU := Lib.hid (unpP_none (HN.out (.inr hbc)))
      have hem : r.toList.isEmpty = true := by rw [strB_toList, hr, hbc]; rfl
      clear hbc
      go_wp2_with fail
      refine bodyPost_ret (v := .tuple #[.slice none 0 0, .int .i64 8]) (by simp [results, Try.results45, go_sem]) rfl ⟨none, 0, by rw [HU.out.1, HU.out.2]; rfl, ?_⟩
      rw [HU.out.1]
      exact hK2.bare.nilIns
    | cons p l =>
      have hem : r.toList.isEmpty = false := by rw [strB_toList, hr, hbc]; rfl
      have HS := Lib.hid (HS.out p l rfl hbc)
      rw [hbc] at hr hbl
      have hrs : 0 < r.size := by rw [← strB_len, hr]; simp
      have hr1 : r[0] = p := by have h := strB_cons hrs; rw [hr] at h; injection h with h _; exact h.symm
      obtain ⟨x0, hx0⟩ : ∃ x, r.extract 1 r.size = x := ⟨_, rfl⟩
      have hx : strB x0 = l := by rw [← hx0, strB_tail, hr]; rfl
      have hl0 : l.length ≤ 1048576 := by simp at hbl; omega
      have HX := Lib.hid hx0
      have HXB := Lib.hid hx
      obtain ⟨cnt, hcnt⟩ : ∃ c, p.toNat = c := ⟨_, rfl⟩
      have hc2 : cnt < 256 := by rw [← hcnt]; exact p.toNat_lt
      have HS := HS.out
      rw [hcnt] at HS
      have HUP := Lib.hid HS
      have hi1 : (1 : Int) ≤ (r.size : Int) := by omega
      have hi0 : (0 : Int) < (r.size : Int) := by omega
      clear hbc hr hx hx0 hbl HS
      have hK3 := (hK2.al [] 46).litRow (n := 0) (size := 2) rfl (by decide)
      go_wp2_with fail
      go_loopw [6, 7, 8] (fun vv rr kk wr => ∃ (k : Nat) (xs : List Ins) (r2 : ByteArray), k ≤ cnt ∧ kk = .int .i64 ((cnt - k : Nat) : Int) ∧ rr = .string r2 ∧ decL 6 k l = some (xs, strB r2) ∧ xs.length = k ∧ r2.size ≤ 1048576 ∧ Kn w [rowIns vv xs] wr) (fun _ _ k _ => (intOf k).toNat)
      case atStart =>
        rw [HX.out]
        exact ⟨0, [], x0, Nat.zero_le _, rfl, rfl, by rw [HXB.out]; rfl, rfl, by rw [← strB_len, HXB.out]; exact hl0, hK3⟩
      case round =>
        rename_i vv _ _
        obtain ⟨k, xs, r2, hk, rfl, rfl, hd, hxl, hrs2, hK⟩ := hrel
        have HD := Lib.hid hd
        have HSN := Lib.hid (show decL 6 (k + 1) l = (decI 6 (strB r2)).map fun q => (xs ++ [q.1], q.2) by rw [decL_snoc, hd]; rfl)
        have HXL := Lib.hid hxl
        have hxb : xs.length ≤ 256 := by omega
        clear hd hK3 hxl
        by_cases hkn : k < cnt
        · have i1 : (0 : Int) < ((cnt - k : Nat) : Int) := by omega
          by_cases hr0 : 0 < r2.size
          · have hem2 : r2.toList.isEmpty = false := by rw [strB_toList, strB_cons hr0]; rfl
            have hcb := strB_cons hr0
            obtain ⟨b, hb⟩ : ∃ b, r2[0] = b := ⟨_, rfl⟩
            rw [hb] at hcb
            have hb2 : b.toNat < 256 := b.toNat_lt
            obtain ⟨x1, hx1⟩ : ∃ x, r2.extract 1 r2.size = x := ⟨_, rfl⟩
            have hx1b : strB x1 = (strB r2).drop 1 := by rw [← hx1, strB_tail]
            have hx1s : x1.size = r2.size - 1 := by rw [← hx1, extract_size]
            have KN := Lib.hid (fun W => l27Number_any x1 W (by omega))
            have j1 : (1 : Int) ≤ (r2.size : Int) := by omega
            have j0 : (0 : Int) < (r2.size : Int) := by omega
            have HX1 := Lib.hid hx1
            have HDI : Hid (decI 6 (strB r2) = (decV 6 (strB x1)).map fun q => (⟨b.toNat, q.1⟩, q.2)) := by
              simp only [Hid]; rw [hx1b, hcb]; rfl
            have HX1B := Lib.hid hx1b
            clear hcb hx1 hx1b
            go_wp2_with fail
            rw [HX1.out]
            refine (KN.out wr).mono ?_; rintro e w3 ⟨n, u, rfl, hor, rfl⟩
            rcases hor with ⟨hd1, rfl⟩ | ⟨u1, u2, hd1⟩
            · have HU := Lib.hid (unpP_none (bs := strB s) (by rw [HUP.out, decL_stop (by rw [HSN.out, HDI.out, hd1]; rfl) hkn]; rfl))
              clear hd1
              go_wp2_with fail
              refine bodyPost_ret (v := .tuple #[.slice none 0 0, .int .i64 8]) (by simp [results, Try.results45, go_sem]) rfl ⟨none, 0, by rw [HU.out.1, HU.out.2]; rfl, ?_⟩
              rw [HU.out.1]
              exact hK.bare.nilIns
            · have HS2 : Hid (decL 6 (k + 1) l = some (xs ++ [⟨b.toNat, n⟩], (strB x1).drop u)) := by simp only [Hid]; rw [HSN.out, HDI.out, hd1]; rfl
              have hun : u ≠ 0 := by omega
              have hub : ((u : Int) == 0) = false := by rw [beq_eq_false_iff_ne]; omega
              have j3 : (1 : Int) + (u : Int) ≤ (r2.size : Int) := by omega
              have j4 : IntKind.i64.wrap (1 + (u : Int)) = 1 + (u : Int) := wrapI (by omega)
              clear hd1
              go_wp2_with (at_builtin; refine kn_app tpIns rfl _ _ rfl _ xs.length (cellsIns xs) rfl rfl (hK.al [.int .i64 (b.toNat : Int), .int .i64 (n : Int)] 46) rfl (by simp [Value.oneCell']) (by omega) (by omega) ?_; intro v5 w6 hK4)
              go_roundw
              case rel => exact ⟨k + 1, xs ++ [⟨b.toNat, n⟩], r2.extract (1 + u) r2.size, by omega, by congr 1; omega, rfl, by rw [strB_drop, HS2.out, HX1B.out, List.drop_drop], by rw [List.length_append, HXL.out]; rfl, by rw [extract_size]; omega, by
                unfold rowIns
                rw [cellsIns_snoc, List.length_append]; exact hK4⟩
              case measure => simp [intOf]; omega
          · have hz := size_zero (show r2.size = 0 by omega)
            have HU := Lib.hid (unpP_none (bs := strB s) (by rw [HUP.out, decL_stop (by rw [HSN.out, strB_nil (show r2.size = 0 by omega)]; rfl) hkn]; rfl))
            subst hz
            go_wp2_with fail
            refine bodyPost_ret (v := .tuple #[.slice none 0 0, .int .i64 8]) (by simp [results, Try.results45, go_sem]) rfl ⟨none, 0, by rw [HU.out.1, HU.out.2]; rfl, ?_⟩
            rw [HU.out.1]
            exact hK.bare.nilIns
        · have i1 : ¬ (0 : Int) < ((cnt - k : Nat) : Int) := by omega
          have HD2 : Hid (decL 6 cnt l = some (xs, strB r2)) := by simp only [Hid]; rw [← HD.out]; congr 1; omega
          have HEM := Lib.hid (show r2.toList.isEmpty = (strB r2).isEmpty by rw [strB_toList])
          obtain ⟨A, c, rfl⟩ := row_form hK.at0
          obtain ⟨-, hrl⟩ := hK.rlIns
          rcases he : r2.toList.isEmpty with _ | _
          · have HU := Lib.hid (unpP_none (bs := strB s) (by rw [HUP.out, HD2.out]; have h1 := HEM.out; rw [he] at h1; have h2 : strB r2 ≠ [] := (by intro h; rw [h] at h1; cases h1); simp [h2]))
            go_wp2_with fail
            refine bodyPost_ret (v := .tuple #[.slice none 0 0, .int .i64 8]) (by simp [results, Try.results45, go_sem]) rfl ⟨none, 0, by rw [HU.out.1, HU.out.2]; rfl, ?_⟩
            rw [HU.out.1]
            exact hK.bare.nilIns
          · rcases hv : vprog xs with _ | _
            · have HU := Lib.hid (unpP_none (bs := strB s) (by rw [HUP.out, HD2.out]; simp [hv]))
              have KO := Lib.hid (calls_val (l11Ok_any A xs.length c xs wr hrl (by omega)) (congrArg Value.bool hv))
              clear hrl hv
              go_wp2_with fail
              refine KO.out.mono ?_; rintro e w3 ⟨rfl, q, rfl⟩
              have hK5 := hK.drewN q
              go_wp2_with fail
              refine bodyPost_ret (v := .tuple #[.slice none 0 0, .int .i64 8]) (by simp [results, Try.results45, go_sem]) rfl ⟨none, 0, by rw [HU.out.1, HU.out.2]; rfl, ?_⟩
              rw [HU.out.1]
              exact hK5.bare.nilIns
            · have KO := Lib.hid (calls_val (l11Ok_any A xs.length c xs wr hrl (by omega)) (congrArg Value.bool hv))
              have HV := Lib.hid hv
              clear hv
              rcases hq : (packP xs == s.toList) with _ | _
              · have HU := Lib.hid (unpP_none (bs := strB s) (by rw [HUP.out, HD2.out]; rw [strB_toList, beq_eq_false_iff_ne] at hq; simp; exact fun _ _ => hq))
                go_wp2_with fail
                refine KO.out.mono ?_; rintro e w3 ⟨rfl, q, rfl⟩
                have hK5 := hK.drewN q
                go_wp2_with fail
                refine (l27Program_any A xs.length c xs (wr.drewN q) hrl HV.out).mono ?_; rintro e w3 ⟨rfl, hw⟩
                have hK6 := hK5.keep hw
                clear hw
                go_wp2_with fail
                refine bodyPost_ret (v := .tuple #[.slice none 0 0, .int .i64 8]) (by simp [results, Try.results45, go_sem]) rfl ⟨none, 0, by rw [HU.out.1, HU.out.2]; rfl, ?_⟩
                rw [HU.out.1]
                exact hK6.bare.nilIns
              · have HU := Lib.hid (unpP_some (bs := strB s) (r := xs) (by rw [HUP.out, HD2.out]; have h1 := HEM.out; rw [he] at h1; rw [strB_toList, beq_iff_eq] at hq; simp [List.isEmpty_iff.1 h1.symm, hq, HV.out]))
                go_wp2_with fail
                refine KO.out.mono ?_; rintro e w3 ⟨rfl, q, rfl⟩
                have hK5 := hK.drewN q
                go_wp2_with fail
                refine (l27Program_any A xs.length c xs (wr.drewN q) hrl HV.out).mono ?_; rintro e w3 ⟨rfl, hw⟩
                have hK6 := hK5.keep hw
                clear hw
                go_wp2_with fail
                refine bodyPost_ret (v := .tuple #[.slice A xs.length c, .int .i64 0]) (by simp [results, Try.results45, go_sem]) rfl ⟨A, c, by rw [HU.out.1, HU.out.2], ?_⟩
                rw [HU.out.1]
                exact hK6
end Go.Proofs.Ytkfbfainhmkkdaa

namespace Go.Proofs.Ytkfbfainhmkkdaa
open Go.RowKit Go.Sort
/-- what bytes are -/
def kindB (bs : List UInt8) : ByteArray := if (unpR bs).isSome then ⟨#[114, 101, 103, 105, 115, 116, 101, 114]⟩ else if (unpM bs).isSome then ⟨#[109, 97, 99, 104, 105, 110, 101]⟩ else if (unpP bs).isSome then ⟨#[112, 114, 111, 103, 114, 97, 109]⟩ else ⟨#[]⟩
theorem code8 {α : Type} (o : Option α) : ((if o.isSome then (0 : Int) else 8) == 0) = o.isSome := by cases o <;> rfl
set_option maxRecDepth 100000 in
set_option maxHeartbeats 1000000 in
theorem KindOfBytes_any (s : ByteArray) (w : World) (hs : s.size ≤ 1048576) :
    Calls Try.prog 36 #[.string s] w fun e w' => e = .returned (.string (kindB (strB s))) ∧ Below w.heap.size w w' := by
  have K1 := Lib.hid (fun W => UnpackRegister_any s W hs)
  have K2 := Lib.hid (fun W => UnpackMachine_any s W hs)
  have K3 := Lib.hid (fun W => UnpackProgram_any s W hs)
  have HK := Lib.hid (show kindB (strB s) = _ from rfl)
  go_enter Try.func36, Try.ntmps36
  go_wp2_with fail
  refine (K1.out w).mono ?_; rintro e w1 ⟨A, c, rfl, ho, hw⟩
  have hK1 := (Kn.nil w).keep hw
  clear ho hw
  unfold unpCode
  rcases h1 : (unpR (strB s)).isSome with _ | _
  · have H1 := Lib.hid h1; clear h1
    go_wp2_with fail
    refine Calls.kn (hK1.al_ _) ?_; intro w2 hK2
    refine (K2.out w2).mono ?_; rintro e w3 ⟨A1, c1, A2, c2, A3, c3, rfl, hK⟩
    have hK3 := hK2.join hK
    clear hK
    unfold unpMCode
    rcases h2 : (unpM (strB s)).isSome with _ | _
    · have H2 := Lib.hid h2; clear h2
      go_wp2_with fail
      refine Calls.kn (hK3.bare.al_ _) ?_; intro w4 hK4
      refine (K3.out w4).mono ?_; rintro e w5 ⟨A4, c4, rfl, hK⟩
      have hK5 := (hK4.join hK).bare
      clear hK
      unfold unpPCode
      rcases h3 : (unpP (strB s)).isSome with _ | _
      all_goals
        have H3 := Lib.hid h3; clear h3
        go_wp2_with fail
        go_ret
        exact ⟨by unfold kindB; rw [H1.out, H2.out, H3.out]; rfl, hK5.below⟩
    · have H2 := Lib.hid h2; clear h2
      go_wp2_with fail
      go_ret
      exact ⟨by unfold kindB; rw [H1.out, H2.out]; rfl, (hK3.bare.al_ _).below⟩
  · have H1 := Lib.hid h1; clear h1
    go_wp2_with fail
    go_ret
    exact ⟨by unfold kindB; rw [H1.out]; rfl, (hK1.al_ _).below⟩
set_option maxRecDepth 100000 in
set_option maxHeartbeats 1000000 in
theorem specKindOfBytes_any (s : ByteArray) (w : World) (hs : s.size ≤ 1048576) :
    Calls Try.prog 50 #[.string s] w fun e w' => e = .returned (.string (kindB (strB s))) ∧ Below w.heap.size w w' := by
  have K1 := Lib.hid (fun W => specUnpackRegister_any s W hs)
  have K2 := Lib.hid (fun W => specUnpackMachine_any s W hs)
  have K3 := Lib.hid (fun W => specUnpackProgram_any s W hs)
  go_enter Try.func50, Try.ntmps50
  go_wp2_with fail
  refine (K1.out w).mono ?_; rintro e w1 ⟨A, c, rfl, ho, hw⟩
  have hK1 := (Kn.nil w).keep hw
  clear ho hw
  unfold unpCode
  rcases h1 : (unpR (strB s)).isSome with _ | _
  all_goals
    have H1 := Lib.hid h1; clear h1
    go_wp2_with fail
    refine Calls.kn (hK1.al_ _) ?_; intro w2 hK2
    refine (K2.out w2).mono ?_; rintro e w3 ⟨A1, c1, A2, c2, A3, c3, rfl, hK⟩
    have hK3 := hK2.join hK
    clear hK
    unfold unpMCode
    rcases h2 : (unpM (strB s)).isSome with _ | _
    all_goals
      have H2 := Lib.hid h2; clear h2
      go_wp2_with fail
      refine Calls.kn (hK3.bare.al_ _) ?_; intro w4 hK4
      refine (K3.out w4).mono ?_; rintro e w5 ⟨A4, c4, rfl, hK⟩
      have hK5 := (hK4.join hK).bare
      clear hK
      unfold unpPCode
      rcases h3 : (unpP (strB s)).isSome with _ | _
      all_goals
        have H3 := Lib.hid h3; clear h3
        go_wp2_with fail
        go_ret
        exact ⟨by unfold kindB; rw [H1.out, H2.out, H3.out]; rfl, hK5.below⟩
end Go.Proofs.Ytkfbfainhmkkdaa
