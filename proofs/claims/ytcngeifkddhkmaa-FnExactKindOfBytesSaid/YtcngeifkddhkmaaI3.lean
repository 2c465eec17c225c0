import Derived.Test.YtcngeifkddhkmaaI2
import Derived.Test.YtcngeifkddhkmaaY11
namespace Go.Proofs.Ytcngeifkddhkmaa
open Go.RowKit Go.Sort
/-- a row of bytes that is owned -/
def rowB (v : Value) (bs : List UInt8) : Ent := .row v 5 1 bs.length (bs.map byteV)
theorem kn_pushB {ops : Array Oper} {rest : List Oper} {o : Oper} {a : Act} {Q : Exit → Act → World → Prop} {w0 w : World} {m : List Ent} (hgd : o.guard = none) (s x : Operand) (ho : o.op = .call { callee := .builtin .append, args := #[s, x], argTypes := #[22, 22] })
    (v : Value) (bs : List UInt8) (hs : a.eval s = v) {g c : Nat} {T' : TypeId} {z : Int} (hx : a.eval x = .slice (some ⟨g, 0, none⟩) 1 c)
    (hK : Kn w0 (.blk g [.int .u8 z] T' :: rowB v bs :: m) w) (hz : 0 ≤ z ∧ z < 256) (hl : bs.length ≤ 10000000)
    (h : ∀ v' w', Kn w0 (rowB v' (bs ++ [UInt8.ofNat z.toNat]) :: m) w' → wpList Try.prog ops Q rest (a.put o.dst v') w') : wpList Try.prog ops Q (o :: rest) a w := by
  refine kn_app tpB hgd s x ho v bs.length (bs.map byteV) hs hx hK rfl (by simp [Value.oneCell']) (by omega) (by omega) (fun v' w' hK' => h v' w' ?_)
  unfold rowB
  rw [List.length_append, List.map_append, List.map_cons, List.map_nil, ← ofNat_byte hz.1 hz.2]
  exact hK'
theorem kn_litB {w0 w : World} {m : List Ent} {g : Nat} {zs : List Int} {bs : List UInt8} (h : Kn w0 (.blk g (zs.map (Value.int .u8)) 5 :: m) w) (hz : zs.map (Value.int .u8) = bs.map byteV) (hl : bs.length ≤ 1000000) : Kn w0 (rowB (.slice (some ⟨g, 0, none⟩) bs.length bs.length) bs :: m) w := by
  unfold rowB
  rw [hz] at h
  exact h.litRow (by simp) (by simp only [maxLen]; omega)
/-- seven bits in a byte, the lowest ones first -/
def varB (n : Nat) : List UInt8 := if h : n < 128 then [UInt8.ofNat n] else UInt8.ofNat (128 + n % 128) :: varB (n / 128)
theorem varB_lt {n : Nat} (h : n < 128) : varB n = [UInt8.ofNat n] := by rw [varB, dif_pos h]
theorem varB_ge {n : Nat} (h : ¬ n < 128) : varB n = UInt8.ofNat (128 + n % 128) :: varB (n / 128) := by rw [varB, dif_neg h]
theorem varB_len : ∀ (k n : Nat), n < 128 ^ (k + 1) → (varB n).length ≤ k + 1
  | 0, n, h => by rw [varB_lt (by simpa using h)]; simp
  | k + 1, n, h => by
    by_cases h1 : n < 128
    · rw [varB_lt h1]; simp
    · rw [varB_ge h1, List.length_cons]
      have := varB_len k (n / 128) (by rw [Nat.pow_succ] at h; omega)
      omega
def insB (x : Ins) : List UInt8 := toB x.op :: varB x.arg.toNat
def progB (xs : List Ins) : List UInt8 := 80 :: UInt8.ofNat xs.length :: xs.flatMap insB
def packP (xs : List Ins) : List UInt8 := sealB (progB xs)
theorem instrOk_bd {op arg : Int} (h : instrOk op arg = true) : 1 ≤ op ∧ op ≤ 10 ∧ 0 ≤ arg ∧ arg ≤ 1000000000000 := by
  rcases op_cases op with rfl | rfl | rfl | rfl | rfl | rfl | rfl | rfl | rfl | rfl | h1
  rotate_right 1
  · rw [instrOk_else h1] at h; cases h
  all_goals
    simp [instrOk, betB] at h
    omega
theorem vprog_each {xs : List Ins} (h : vprog xs = true) : xs.length ≤ 120 ∧ ∀ x ∈ xs, instrOk x.op x.arg = true := by
  unfold vprog at h
  simp only [Bool.and_eq_true, decide_eq_true_eq] at h
  refine ⟨h.2, fun x hx => ?_⟩
  obtain ⟨k, hk, rfl⟩ := List.getElem_of_mem hx
  rcases hi : instrOk xs[k].op xs[k].arg with _ | _
  · have h2 : progD xs = none := progD_none (k := k + 1) (by
      rw [progD_succ hk]
      cases progD (xs.take k) with
      | none => rfl
      | some d => simp [stepI, hi])
    rw [h2] at h; simp at h
  · rfl
theorem insB_len {x : Ins} (h : instrOk x.op x.arg = true) : (insB x).length ≤ 7 := by
  have h1 := instrOk_bd h
  have := varB_len 5 x.arg.toNat (by omega)
  simp [insB]; omega
theorem flat_len {xs : List Ins} (h : ∀ x ∈ xs, instrOk x.op x.arg = true) : (xs.flatMap insB).length ≤ 7 * xs.length := by
  induction xs with
  | nil => simp
  | cons x xs ih =>
    rw [List.flatMap_cons, List.length_append, List.length_cons]
    have h1 := insB_len (h x (by simp))
    have h2 := ih (fun y hy => h y (by simp [hy]))
    omega
def progP (n : Nat) (xs : List Ins) : List UInt8 := 80 :: UInt8.ofNat n :: xs.flatMap insB
theorem progP_succ {n k : Nat} {xs : List Ins} (h : k < xs.length) : progP n (xs.take (k + 1)) = progP n (xs.take k) ++ insB xs[k] := by
  unfold progP; rw [List.take_succ_eq_append_getElem h, List.flatMap_append]; simp
theorem varB_bd {a : Nat} {l pre : List UInt8} (h : pre ++ varB a = l) (hl : l.length ≤ 7) : pre.length ≤ 6 := by
  have h1 := congrArg List.length h
  rw [List.length_append] at h1
  have : 1 ≤ (varB a).length := by rw [varB]; split <;> simp
  omega
set_option maxRecDepth 100000 in
set_option maxHeartbeats 3200000 in
theorem PackProgram_true (A : Option Addr) (n c : Nat) (xs : List Ins) (w : World) (hr : RL InsM 2 w A n xs) (hv : vprog xs = true) :
    Calls Try.prog 132 #[.slice A n c] w fun e w' => e = .returned (.tuple #[.string ⟨(packP xs).toArray⟩, .int .i64 0]) ∧ Below w.heap.size w w' := by
  obtain ⟨h120, hall⟩ := vprog_each hv
  have hln := hr.1
  have HL := Lib.hid hr.1
  have KV := Lib.hid (fun W (hW : Below w.heap.size w W) => calls_val (ValidProgram_any A n c xs W (hr.below steady_InsM hW) (by omega)) (congrArg Value.bool hv))
  have hn : n ≤ 120 := by omega
  have y0 : IntKind.u8.wrap (n : Int) = (n : Int) := wrapB (by omega)
  clear hv
  go_enter Try.func132, Try.ntmps132
  go_wp2_with fail
  refine (KV.out _ (Below.refl _ _)).mono ?_; rintro e w1 ⟨rfl, hw⟩
  have hK1 := (Kn.nil w).keep hw
  have hK2 := kn_litB (zs := [80, (n : Int)]) (bs := progP n []) (hK1.al [.int .u8 80, .int .u8 n] 5) (by unfold progP; simp [byteV]; omega) (by simp [progP])
  clear hw hK1
  go_wp2_with fail
  go_loopw [4, 17] (fun out ii wr => ∃ k : Nat, k ≤ n ∧ ii = .int .i64 k ∧ Kn w [rowB out (progP n (xs.take k))] wr) (fun _ i _ => n - (intOf i).toNat)
  case atStart => exact ⟨0, Nat.zero_le _, rfl, by simpa [progP] using hK2⟩
  case round =>
    rename_i out _
    obtain ⟨k, hk, rfl, hK⟩ := hrel
    obtain ⟨wo, rfl⟩ : ∃ wo : World, wo = wr := ⟨_, rfl⟩
    have hpl : (progP n (xs.take k)).length ≤ 2 + 7 * 120 := by
      have := flat_len (xs := xs.take k) (fun x hx => hall x (List.mem_of_mem_take hx))
      rw [List.length_take] at this
      simp [progP] at this ⊢; omega
    by_cases hkn : k < n
    · obtain ⟨ad, hA, hlt, hkl, hx⟩ := (hr.below steady_InsM hK.below).at_ hkn
      obtain ⟨x1, x2⟩ := hx
      have HP := Lib.hid (progP_succ (n := n) hkl)
      have hib := instrOk_bd (hall _ (List.getElem_mem hkl))
      have hil := insB_len (hall _ (List.getElem_mem hkl))
      obtain ⟨x, hxe⟩ : ∃ x, xs[k] = x := ⟨_, rfl⟩
      rw [hxe] at x1 x2 HP hib hil
      have hi0 : (0 : Int) ≤ (k : Int) := by omega
      have hi1 : (k : Int) < (n : Int) := by omega
      have y1 : IntKind.u8.wrap x.op = x.op := wrapB (by omega)
      subst hA
      clear hxe
      have hKx := (hK.al [.int .i64 x.op, .int .i64 x.arg] 151).sw1
      go_wp2_with (first | (refine wpList.kn hKx ?_; clear hKx; intro w2 hK2; obtain ⟨a1, a2, a3, -⟩ := hK2.cells) | (at_builtin; refine kn_pushB rfl _ _ rfl _ _ rfl rfl (hK2.al [.int .u8 x.op] 5) (by omega) (by omega) ?_; intro v5 w6 hK3; clear a1 a2 a3 hK2; obtain ⟨a1, a2, a3, -⟩ := hK3.cells))
      go_loopw [4, 7] (fun out aa wi => ∃ (a : Nat) (pre : List UInt8), aa = .int .i64 a ∧ pre ++ varB a = varB x.arg.toNat ∧ (a : Int) ≤ 1000000000000 ∧ Kn w [rowB out (progP n (xs.take k) ++ [toB x.op] ++ pre)] wi) (fun _ a _ => (intOf a).toNat)
      case atStart => exact ⟨x.arg.toNat, [], by rw [show ((x.arg.toNat : Nat) : Int) = x.arg by omega], rfl, by omega, by rw [List.append_nil]; exact hK3.drop1⟩
      case round =>
        rename_i out2 _
        obtain ⟨a, pre, rfl, hpre, ha, hKi⟩ := hrel
        have hpb := varB_bd hpre (by have h7 := hil; simp [insB] at h7; omega)
        have HPR := Lib.hid hpre
        clear hpre
        by_cases h128 : a < 128
        · have y3 : IntKind.u8.wrap (a : Int) = (a : Int) := wrapB (by omega)
          have i1 : ¬ (127 : Int) < (a : Int) := by omega
          have i2 : ¬ (128 : Int) ≤ (a : Int) := by omega
          have HV := Lib.hid (varB_lt h128)
          clear h128
          go_wp2_with (at_builtin; refine kn_pushB rfl _ _ rfl _ _ rfl rfl (hKi.al [.int .u8 (a : Int)] 5) (by omega) (by simp; omega) ?_; intro v7 w7 hK7)
          go_roundw
          case rel => exact ⟨k + 1, by omega, by go_num, by
            have h1 : progP n (xs.take k) ++ [toB x.op] ++ pre ++ [UInt8.ofNat (a : Int).toNat] = progP n (xs.take (k + 1)) := by
              have h2 := HPR.out
              rw [HV.out] at h2
              rw [HP.out, Int.toNat_natCast]
              unfold insB
              rw [← h2]; simp
            rw [h1] at hK7; exact hK7⟩
          case measure => simp [intOf]; omega
        · have y3 : IntKind.u8.wrap ((a : Int) % 128) = (a : Int) % 128 := wrapB (by omega)
          have y4 : IntKind.u8.wrap ((a : Int) % 128 + 128) = (a : Int) % 128 + 128 := wrapB (by omega)
          have y5 : IntKind.u8.wrap (128 + (a : Int) % 128) = 128 + (a : Int) % 128 := wrapB (by omega)
          have i1 : (127 : Int) < (a : Int) := by omega
          have i2 : (128 : Int) ≤ (a : Int) := by omega
          have HV := Lib.hid (varB_ge h128)
          clear h128
          go_wp2_with (at_builtin; refine kn_pushB rfl _ _ rfl _ _ rfl rfl (hKi.al [.int .u8 ((a : Int) % 128 + 128)] 5) (by omega) (by simp; omega) ?_; intro v7 w7 hK7)
          go_roundw
          case rel => exact ⟨a / 128, pre ++ [UInt8.ofNat (128 + a % 128)], rfl, by rw [← HPR.out, HV.out]; simp, by omega, by
            have h1 : ((a : Int) % 128 + 128).toNat = 128 + a % 128 := by omega
            rw [h1] at hK7; rw [← List.append_assoc]; exact hK7⟩
          case measure => simp [intOf]; omega
    · have HF : Hid (progP n (xs.take k) = progB xs) := by
        simp only [Hid, progP, progB]; rw [List.take_of_length_le (by have := HL.out; omega), HL.out]
      rw [HF.out] at hK
      have ho := hK.ownB
      obtain ⟨A5, c5, rfl, -⟩ := ho.reads
      have hpl2 : (progB xs).length ≤ 1000000 := by rw [← HF.out]; omega
      have KS := Lib.hid (sealed_any w.heap.size A5 _ c5 _ wo ho hpl2 hK.size)
      clear ho
      go_wp2_with fail
      refine KS.out.mono ?_; rintro e w7 ⟨rfl, hw⟩
      have HB := Lib.hid (hK.below.trans hw)
      clear hw
      go_wp2_with fail
      refine bodyPost_ret (v := .tuple #[.string ⟨(packP xs).toArray⟩, .int .i64 0]) (by simp [results, Try.results132, go_sem, packP]) rfl ⟨rfl, HB.out⟩
theorem PackProgram_false (A : Option Addr) (n c : Nat) (xs : List Ins) (w : World) (hr : RL InsM 2 w A n xs) (hm : n ≤ 9223372036854775807) (hv : vprog xs = false) :
    Calls Try.prog 132 #[.slice A n c] w fun e w' => e = .returned (.tuple #[.string ⟨#[]⟩, .int .i64 1]) ∧ Below w.heap.size w w' := by
  have KV := Lib.hid (calls_val (ValidProgram_any A n c xs w hr hm) (congrArg Value.bool hv))
  clear hv hr
  go_enter Try.func132, Try.ntmps132
  go_wp2_with fail
  refine KV.out.mono ?_; rintro e w1 ⟨rfl, hw⟩
  go_wp2_with fail
  refine bodyPost_ret (v := .tuple #[.string ⟨#[]⟩, .int .i64 1]) (by simp [results, Try.results132, go_sem]) rfl ⟨rfl, hw⟩
set_option maxRecDepth 100000 in
set_option maxHeartbeats 3200000 in
theorem l27Program_any (A : Option Addr) (n c : Nat) (xs : List Ins) (w : World) (hr : RL InsM 2 w A n xs) (hv : vprog xs = true) :
    Calls Try.prog 127 #[.slice A n c] w fun e w' => e = .returned (.string ⟨(packP xs).toArray⟩) ∧ Below w.heap.size w w' := by
  obtain ⟨h120, hall⟩ := vprog_each hv
  have hln := hr.1
  have HL := Lib.hid hr.1
  have hn : n ≤ 120 := by omega
  have y0 : IntKind.u8.wrap (n : Int) = (n : Int) := wrapB (by omega)
  clear hv
  go_enter Try.func127, Try.ntmps127
  have hK2 := kn_litB (zs := [80, (n : Int)]) (bs := progP n []) ((Kn.nil w).al [.int .u8 80, .int .u8 n] 5) (by unfold progP; simp [byteV]; omega) (by simp [progP])
  go_wp2_with fail
  go_loopw [3, 4] (fun out ii wr => ∃ k : Nat, k ≤ n ∧ ii = .int .i64 k ∧ Kn w [rowB out (progP n (xs.take k))] wr) (fun _ i _ => n - (intOf i).toNat)
  case atStart => exact ⟨0, Nat.zero_le _, rfl, by simpa [progP] using hK2⟩
  case round =>
    rename_i out _
    obtain ⟨k, hk, rfl, hK⟩ := hrel
    obtain ⟨wo, rfl⟩ : ∃ wo : World, wo = wr := ⟨_, rfl⟩
    have hpl : (progP n (xs.take k)).length ≤ 2 + 7 * 120 := by
      have := flat_len (xs := xs.take k) (fun x hx => hall x (List.mem_of_mem_take hx))
      rw [List.length_take] at this
      simp [progP] at this ⊢; omega
    by_cases hkn : k < n
    · obtain ⟨ad, hA, hlt, hkl, hx⟩ := (hr.below steady_InsM hK.below).at_ hkn
      obtain ⟨ad', hA', hlt0, hkl', hx0⟩ := hr.at_ hkn
      obtain rfl : ad = ad' := by rw [hA] at hA'; injection hA'
      obtain ⟨x1, x2⟩ := hx
      obtain ⟨z1, z2⟩ := hx0
      have HP := Lib.hid (progP_succ (n := n) hkl)
      have hib := instrOk_bd (hall _ (List.getElem_mem hkl))
      have hil := insB_len (hall _ (List.getElem_mem hkl))
      obtain ⟨x, hxe⟩ : ∃ x, xs[k] = x := ⟨_, rfl⟩
      rw [hxe] at x1 x2 HP hib hil z1 z2
      have hi0 : (0 : Int) ≤ (k : Int) := by omega
      have hi1 : (k : Int) < (n : Int) := by omega
      have y1 : IntKind.u8.wrap x.op = x.op := wrapB (by omega)
      have Z2 := Lib.hid z2
      clear hxe hA' z1 z2
      subst hA
      go_wp2_with (at_builtin; refine kn_pushB rfl _ _ rfl _ _ rfl rfl (hK.al [.int .u8 x.op] 5) (by omega) (by omega) ?_; intro v5 w6 hK3; have x3 := (hK3.below.cell (p := ⟨(ad.add (k * 2)).block, (ad.add (k * 2)).off + 1, none⟩) (by rw [block_of_add]; exact hlt0)).trans Z2.out)
      go_loopw [3, 5] (fun out aa wi => ∃ (a : Nat) (pre : List UInt8), aa = .int .i64 a ∧ pre ++ varB a = varB x.arg.toNat ∧ (a : Int) ≤ 1000000000000 ∧ Kn w [rowB out (progP n (xs.take k) ++ [toB x.op] ++ pre)] wi) (fun _ a _ => (intOf a).toNat)
      case atStart => exact ⟨x.arg.toNat, [], by rw [show ((x.arg.toNat : Nat) : Int) = x.arg by omega], rfl, by omega, by rw [List.append_nil]; exact hK3⟩
      case round =>
        rename_i out2 _
        obtain ⟨a, pre, rfl, hpre, ha, hKi⟩ := hrel
        have hpb := varB_bd hpre (by have h7 := hil; simp [insB] at h7; omega)
        have HPR := Lib.hid hpre
        clear hpre
        by_cases h128 : a < 128
        · have y3 : IntKind.u8.wrap (a : Int) = (a : Int) := wrapB (by omega)
          have i1 : ¬ (127 : Int) < (a : Int) := by omega
          have i2 : ¬ (128 : Int) ≤ (a : Int) := by omega
          have HV := Lib.hid (varB_lt h128)
          clear h128
          go_wp2_with (at_builtin; refine kn_pushB rfl _ _ rfl _ _ rfl rfl (hKi.al [.int .u8 (a : Int)] 5) (by omega) (by simp; omega) ?_; intro v7 w7 hK7)
          go_roundw
          case rel => exact ⟨k + 1, by omega, by go_num, by
            have h1 : progP n (xs.take k) ++ [toB x.op] ++ pre ++ [UInt8.ofNat (a : Int).toNat] = progP n (xs.take (k + 1)) := by
              have h2 := HPR.out
              rw [HV.out] at h2
              rw [HP.out, Int.toNat_natCast]
              unfold insB
              rw [← h2]; simp
            rw [h1] at hK7; exact hK7⟩
          case measure => simp [intOf]; omega
        · have y3 : IntKind.u8.wrap ((a : Int) % 128) = (a : Int) % 128 := wrapB (by omega)
          have y4 : IntKind.u8.wrap ((a : Int) % 128 + 128) = (a : Int) % 128 + 128 := wrapB (by omega)
          have y5 : IntKind.u8.wrap (128 + (a : Int) % 128) = 128 + (a : Int) % 128 := wrapB (by omega)
          have i1 : (127 : Int) < (a : Int) := by omega
          have i2 : (128 : Int) ≤ (a : Int) := by omega
          have HV := Lib.hid (varB_ge h128)
          clear h128
          go_wp2_with (at_builtin; refine kn_pushB rfl _ _ rfl _ _ rfl rfl (hKi.al [.int .u8 (128 + (a : Int) % 128)] 5) (by omega) (by simp; omega) ?_; intro v7 w7 hK7)
          go_roundw
          case rel => exact ⟨a / 128, pre ++ [UInt8.ofNat (128 + a % 128)], rfl, by rw [← HPR.out, HV.out]; simp, by omega, by
            have h1 : (128 + (a : Int) % 128).toNat = 128 + a % 128 := by omega
            rw [h1] at hK7; rw [← List.append_assoc]; exact hK7⟩
          case measure => simp [intOf]; omega
    · have HF : Hid (progP n (xs.take k) = progB xs) := by
        simp only [Hid, progP, progB]; rw [List.take_of_length_le (by have := HL.out; omega), HL.out]
      rw [HF.out] at hK
      have ho := hK.ownB
      obtain ⟨A5, c5, rfl, -⟩ := ho.reads
      have hpl2 : (progB xs).length ≤ 1000000 := by rw [← HF.out]; omega
      have KS := Lib.hid (l27Ended_any w.heap.size A5 _ c5 _ wo ho hpl2 hK.size)
      clear ho
      go_wp2_with fail
      refine KS.out.mono ?_; rintro e w7 ⟨rfl, hw⟩
      have HB := Lib.hid (hK.below.trans hw)
      clear hw
      go_wp2_with fail
      go_ret
      exact ⟨rfl, HB.out⟩
end Go.Proofs.Ytcngeifkddhkmaa
