import Derived.Test.YtcngeifkddhkmaaI3
import Derived.Test.YtcngeifkddhkmaaY12
namespace Go.Proofs.Ytcngeifkddhkmaa
open Go.RowKit Go.Sort
/-- a number of at most k bytes, seven bits in each; and what is behind it -/
def decV : Nat → List UInt8 → Option (Nat × List UInt8)
  | 0, _ => none
  | _ + 1, [] => none
  | k + 1, b :: tl => if b.toNat < 128 then some (b.toNat, tl) else (decV k tl).map fun p => (b.toNat % 128 + 128 * p.1, p.2)
theorem decV_var : ∀ (k n : Nat) (more : List UInt8), n < 128 ^ (k + 1) → decV (k + 1) (varB n ++ more) = some (n, more) := by
  intro k
  induction k with
  | zero =>
    intro n more h
    have h1 : n < 128 := by simpa using h
    rw [varB_lt h1, List.cons_append, List.nil_append]
    simp only [decV]
    have : (UInt8.ofNat n).toNat = n := by rw [UInt8.toNat_ofNat']; omega
    rw [this, if_pos h1]
  | succ k ih =>
    intro n more h
    by_cases h1 : n < 128
    · rw [varB_lt h1, List.cons_append, List.nil_append]
      simp only [decV]
      have : (UInt8.ofNat n).toNat = n := by rw [UInt8.toNat_ofNat']; omega
      rw [this, if_pos h1]
    · rw [varB_ge h1, List.cons_append]
      have h2 : (UInt8.ofNat (128 + n % 128)).toNat = 128 + n % 128 := by rw [UInt8.toNat_ofNat']; omega
      rw [decV, h2, if_neg (by omega), ih (n / 128) more (by rw [Nat.pow_succ] at h; omega)]
      simp; omega
theorem decV_nil (k : Nat) : decV k [] = none := by cases k <;> rfl
def decI (f : Nat) : List UInt8 → Option (Ins × List UInt8)
  | [] => none
  | b :: tl => (decV f tl).map fun p => (⟨b.toNat, p.1⟩, p.2)
theorem decI_ins (f : Nat) (hf : 6 ≤ f) {x : Ins} (h : instrOk x.op x.arg = true) (more : List UInt8) : decI f (insB x ++ more) = some (x, more) := by
  have hb := instrOk_bd h
  unfold insB
  rw [List.cons_append]
  simp only [decI]
  obtain ⟨g, rfl⟩ : ∃ g, f = g + 1 := ⟨f - 1, by omega⟩
  rw [decV_var g _ more (Nat.lt_of_lt_of_le (show x.arg.toNat < 128 ^ 6 by omega) (Nat.pow_le_pow_right (by omega) hf))]
  have h1 : ((toB x.op).toNat : Int) = x.op := by unfold toB; rw [UInt8.toNat_ofNat']; omega
  have h2 : ((x.arg.toNat : Nat) : Int) = x.arg := by omega
  simp only [Option.map_some, h1, h2]
def decL (f : Nat) : Nat → List UInt8 → Option (List Ins × List UInt8)
  | 0, bs => some ([], bs)
  | k + 1, bs => (decI f bs).bind fun p => (decL f k p.2).map fun q => (p.1 :: q.1, q.2)
theorem decL_prog (f : Nat) (hf : 6 ≤ f) : ∀ (xs : List Ins), (∀ x ∈ xs, instrOk x.op x.arg = true) → ∀ more, decL f xs.length (xs.flatMap insB ++ more) = some (xs, more)
  | [], _, more => by simp [decL]
  | x :: xs, h, more => by
    rw [List.flatMap_cons, List.append_assoc, List.length_cons]
    simp only [decL]
    rw [decI_ins f hf (h x (by simp))]
    simp only [Option.bind_some]
    rw [decL_prog f hf xs (fun y hy => h y (by simp [hy])) more]; rfl
/-- the program of bytes -/
def unpP : List UInt8 → Option (List Ins)
  | b :: cnt :: r => (decL 7 cnt.toNat r).bind fun p => if vprog p.1 && decide (packP p.1 = b :: cnt :: r) then some p.1 else none
  | _ => none
theorem unpP_iff (bs : List UInt8) (xs : List Ins) : unpP bs = some xs ↔ vprog xs = true ∧ packP xs = bs := by
  constructor
  · intro h
    match bs with
    | [] => cases h
    | [_] => cases h
    | b :: cnt :: r =>
      simp only [unpP] at h
      obtain ⟨p, -, h2⟩ := Option.bind_eq_some_iff.1 h
      split at h2
      · rename_i h3
        injection h2 with h2
        simp only [Bool.and_eq_true, decide_eq_true_eq] at h3
        rw [h2] at h3; exact h3
      · cases h2
  · rintro ⟨h1, rfl⟩
    obtain ⟨h120, hall⟩ := vprog_each h1
    have hd := decL_prog 7 (by omega) xs hall [UInt8.ofNat (sumB (progB xs) / 256).toNat, UInt8.ofNat (sumB (progB xs) % 256).toNat]
    have hp : packP xs = 80 :: UInt8.ofNat xs.length :: (xs.flatMap insB ++ [UInt8.ofNat (sumB (progB xs) / 256).toNat, UInt8.ofNat (sumB (progB xs) % 256).toNat]) := rfl
    have hc : (UInt8.ofNat xs.length).toNat = xs.length := by rw [UInt8.toNat_ofNat']; omega
    rw [hp]
    simp only [unpP]
    rw [hc, hd]
    simp only [Option.bind_some]
    rw [← hp, h1]; simp
def tiX (bs : List UInt8) : Ins := ((decI 7 bs).map (·.1)).getD ⟨0, 0⟩
def tiR (bs : List UInt8) : List UInt8 := ((decI 7 bs).map (·.2)).getD []
def tiOk (bs : List UInt8) : Bool := (decI 7 bs).isSome
theorem ti_none {bs : List UInt8} (h : decI 7 bs = none) : tiX bs = ⟨0, 0⟩ ∧ tiR bs = [] ∧ tiOk bs = false := by simp [tiX, tiR, tiOk, h]
theorem ti_some {bs : List UInt8} {x : Ins} {r : List UInt8} (h : decI 7 bs = some (x, r)) : tiX bs = x ∧ tiR bs = r ∧ tiOk bs = true := by simp [tiX, tiR, tiOk, h]
set_option maxRecDepth 100000 in
set_option maxHeartbeats 3200000 in
theorem takeInstr_any (s : ByteArray) (w : World) (hs : s.size ≤ 1048576) :
    Calls Try.prog 131 #[.string s] w fun e w' => ∃ r, e = .returned (.tuple #[.agg #[.int .i64 (tiX (strB s)).op, .int .i64 (tiX (strB s)).arg], .string r, .bool (tiOk (strB s))]) ∧ strB r = tiR (strB s) ∧ Below w.heap.size w w' := by
  have HSL := Lib.hid (strB_len s)
  by_cases h0 : 0 < s.size
  · have hE := str_nonempty h0
    have hc := strB_cons h0
    obtain ⟨b, hb⟩ : ∃ b, s[0] = b := ⟨_, rfl⟩
    rw [hb] at hc
    have hb2 : b.toNat < 256 := b.toNat_lt
    have hi : (0 : Int) < (s.size : Int) := by omega
    have HD : Hid (decI 7 (strB s) = (decV 7 ((strB s).drop 1)).map fun p => (⟨b.toNat, p.1⟩, p.2)) := by simp only [Hid]; rw [hc]; rfl
    clear hc
    go_enter Try.func131, Try.ntmps131
    have hK0 := (Kn.nil w).al [.int .i64 0, .int .i64 0] 151
    have hK1 := hK0.al [.int .i64 b.toNat, .int .i64 0] 151
    have hap := hK1.apart
    simp [Ent.fp] at hap hK1
    go_wp2_with fail
    go_loopw [6, 7] (fun uu ii wr => ∃ (i acc : Nat), 1 ≤ i ∧ i ≤ 8 ∧ ii = .int .i64 i ∧ uu = .int .i64 ((128 ^ (i - 1) : Nat) : Int) ∧ acc < 128 ^ (i - 1) ∧ i ≤ s.size ∧
      decV 7 ((strB s).drop 1) = (decV (8 - i) ((strB s).drop i)).map (fun p => (acc + 128 ^ (i - 1) * p.1, p.2)) ∧
      Kn w [.blk (w.heap.size + 1) [.int .i64 b.toNat, .int .i64 (acc : Int)] 151, .blk w.heap.size [.int .i64 0, .int .i64 0] 151] wr) (fun _ i _ => 8 - (intOf i).toNat)
    case atStart => exact ⟨1, 0, Nat.le_refl _, by omega, rfl, rfl, by decide, by omega, by simp, hK1⟩
    case round =>
      obtain ⟨i, acc, hi1, hi8, rfl, rfl, hacc, his, hdv, hK⟩ := hrel
      have HV := Lib.hid hdv
      clear hdv hK0 hK1
      obtain ⟨a1, a2, a3, d1, d2, d3, -⟩ := hK.cells
      by_cases hlt : i < s.size
      · by_cases hlt8 : i < 8
        · obtain ⟨q, hq⟩ : ∃ q : UInt8, s[i] = q := ⟨_, rfl⟩
          obtain ⟨z, hz⟩ : ∃ z : Nat, q.toNat = z := ⟨_, rfl⟩
          have hz2 : z < 256 := by rw [← hz]; exact q.toNat_lt
          have hdr : (strB s).drop i = q :: (strB s).drop (i + 1) := by
            rw [List.drop_eq_getElem_cons (by rw [HSL.out]; exact hlt), ← strB_get s hlt, hq]
          obtain ⟨U, hU⟩ : ∃ U : Nat, 128 ^ (i - 1) = U := ⟨_, rfl⟩
          have hU2 : U ≤ 4398046511104 := by
            rw [← hU]; exact Nat.le_trans (Nat.pow_le_pow_right (by omega) (show i - 1 ≤ 6 by omega)) (by decide)
          have hU3 : 128 ^ (i + 1 - 1) = U * 128 := by rw [← hU, show i + 1 - 1 = (i - 1) + 1 by omega, Nat.pow_succ]
          rw [hU] at hacc HV
          rw [hU]
          have HU3 := Lib.hid hU3
          have hm : z % 128 * U ≤ 127 * U := Nat.mul_le_mul_right _ (by omega)
          obtain ⟨M, hM⟩ : ∃ M : Nat, z % 128 * U = M := ⟨_, rfl⟩
          have hMi : ((z : Int) % 128) * (U : Int) = (M : Int) := by rw [← hM]; simp
          rw [hM] at hm
          have x1 : IntKind.u8.wrap ((z : Int) % 128) = (z : Int) % 128 := wrapB (by omega)
          have x2 : IntKind.i64.wrap ((z : Int) % 128) = (z : Int) % 128 := wrapI (by omega)
          have x3 : IntKind.i64.wrap (M : Int) = (M : Int) := wrapI (by omega)
          have x4 : IntKind.i64.wrap ((acc : Int) + (M : Int)) = (acc : Int) + (M : Int) := wrapI (by omega)
          have x5 : IntKind.i64.wrap ((U : Int) * 128) = (U : Int) * 128 := wrapI (by omega)
          have i0 : (0 : Int) ≤ (i : Int) := by omega
          have i1 : (i : Int) < (s.size : Int) := by omega
          have i2 : (i : Int) < 8 := by omega
          have hdc : decV (8 - i) ((strB s).drop i) = if z < 128 then some (z, (strB s).drop (i + 1)) else (decV (8 - (i + 1)) ((strB s).drop (i + 1))).map fun p => (z % 128 + 128 * p.1, p.2) := by
            rw [hdr, show 8 - i = (8 - (i + 1)) + 1 by omega, decV, hz]
          have HC := Lib.hid hdc
          have HM := Lib.hid hM
          have HU0 := Lib.hid hU
          clear hdc hdr hM hU hU3
          go_wp2_with fail
          go_region
          have hK2 := (hK.st 1 (.int .i64 ((acc : Int) + (M : Int)))).drew
          by_cases hz128 : z < 128
          · have i5 : (z : Int) < 128 := by omega
            have i6 : (i : Int) + 1 ≤ (s.size : Int) := by omega
            have HU : Hid (tiX (strB s) = ⟨b.toNat, ((acc + M : Nat) : Int)⟩ ∧ tiR (strB s) = (strB s).drop (i + 1) ∧ tiOk (strB s) = true) := by
              refine ti_some ?_
              rw [HD.out, HV.out, HC.out, if_pos hz128]
              have h1 : U * z = M := by rw [← HM.out, Nat.mod_eq_of_lt hz128, Nat.mul_comm]
              simp [h1]
            clear hz128
            go_wp2_with (refine wpList.kn hK2 ?_; clear hK2; intro w2 hK3; clear a1 a2 a3 d1 d2 d3; obtain ⟨a1, a2, a3, d1, d2, d3, -⟩ := hK3.cells)
            go_region
            all_goals
              go_wp2_with fail
              have hK4 := ((hK3.sw1.st 0 (.int .i64 (b.toNat : Int))).st 1 (.int .i64 ((acc : Int) + (M : Int)))).drew
              refine bodyPost_ret (v := .tuple #[.agg #[.int .i64 (b.toNat : Int), .int .i64 ((acc : Int) + (M : Int))], .string (s.extract (i + 1) s.size), .bool true]) (by simp [results, Try.results131, go_sem, d1, d2, d3]) rfl ⟨_, by rw [HU.out.1, HU.out.2.2, Int.natCast_add], by rw [HU.out.2.1]; exact strB_drop s _, hK4.below⟩
          · have i5 : ¬ (z : Int) < 128 := by omega
            have HN : Hid (decV 7 ((strB s).drop 1) = (decV (8 - (i + 1)) ((strB s).drop (i + 1))).map (fun p => ((acc + M) + U * 128 * p.1, p.2))) := by
              simp only [Hid]
              rw [HV.out, HC.out, if_neg hz128, Option.map_map]
              congr 1
              funext p
              simp only [Function.comp]
              have h1 : U * (z % 128 + 128 * p.1) = M + U * 128 * p.1 := by rw [Nat.mul_add, ← HM.out, Nat.mul_comm U (z % 128), Nat.mul_assoc]
              rw [h1, Nat.add_assoc]
            clear hz128
            go_wp2_with fail
            go_roundw
            case rel => exact ⟨i + 1, acc + M, by omega, by omega, by go_num, by rw [HU3.out]; simp, by rw [HU3.out]; omega, by omega, by rw [HU3.out]; exact HN.out, hK2⟩
            case measure => simp [intOf]; omega
        · have HU : Hid (tiX (strB s) = ⟨0, 0⟩ ∧ tiR (strB s) = [] ∧ tiOk (strB s) = false) := by
            refine ti_none ?_
            rw [HD.out, HV.out, show 8 - i = 0 by omega]; rfl
          have i1 : (i : Int) < (s.size : Int) := by omega
          have i2 : ¬ (i : Int) < 8 := by omega
          go_wp2_with fail
          refine bodyPost_ret (v := .tuple #[.agg #[.int .i64 0, .int .i64 0], .string ⟨#[]⟩, .bool false]) (by simp [results, Try.results131, go_sem, d1, d2, d3]) rfl ⟨⟨#[]⟩, by rw [HU.out.1, HU.out.2.2], by rw [HU.out.2.1]; rfl, ?_⟩
          exact ((hK.sw1.st 0 _).st 1 _).below
      · have HU : Hid (tiX (strB s) = ⟨0, 0⟩ ∧ tiR (strB s) = [] ∧ tiOk (strB s) = false) := by
          refine ti_none ?_
          rw [HD.out, HV.out, List.drop_of_length_le (by rw [HSL.out]; omega), decV_nil]; rfl
        have i1 : ¬ (i : Int) < (s.size : Int) := by omega
        go_wp2_with fail
        refine bodyPost_ret (v := .tuple #[.agg #[.int .i64 0, .int .i64 0], .string ⟨#[]⟩, .bool false]) (by simp [results, Try.results131, go_sem, d1, d2, d3]) rfl ⟨⟨#[]⟩, by rw [HU.out.1, HU.out.2.2], by rw [HU.out.2.1]; rfl, ?_⟩
        exact ((hK.sw1.st 0 _).st 1 _).below
  · obtain rfl := size_zero (show s.size = 0 by omega)
    have HU := Lib.hid (ti_none (bs := strB ⟨#[]⟩) rfl)
    go_enter Try.func131, Try.ntmps131
    go_wp2_with fail
    have hK := (Kn.nil w).al [.int .i64 0, .int .i64 0] 151
    have d1 : True := trivial
    have d2 : True := trivial
    have d3 : True := trivial
    refine bodyPost_ret (v := .tuple #[.agg #[.int .i64 0, .int .i64 0], .string ⟨#[]⟩, .bool false]) (by simp [results, Try.results131, go_sem, d1, d2, d3]) rfl ⟨⟨#[]⟩, by rw [HU.out.1, HU.out.2.2], by rw [HU.out.2.1]; rfl, ?_⟩
    exact hK.below
end Go.Proofs.Ytcngeifkddhkmaa
