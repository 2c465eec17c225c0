import Derived.Test.YtcngeifkddhkmaaY6
import Derived.Test.YtcngeifkddhkmaaKn
namespace Go.Proofs.Ytcngeifkddhkmaa
open Go.RowKit Go.Sort
/-- are there enough bytes for a register; the register; what is behind it -/
def tkOk : List UInt8 → Bool
  | [] => false
  | b :: tl => decide ((wdt b + 1) / 2 ≤ tl.length)
def tkReg : List UInt8 → Reg
  | [] => ⟨0, []⟩
  | b :: tl => if (wdt b + 1) / 2 ≤ tl.length then ⟨bas b, digL tl (wdt b)⟩ else ⟨0, []⟩
def tkRest : List UInt8 → List UInt8
  | [] => []
  | b :: tl => if (wdt b + 1) / 2 ≤ tl.length then tl.drop ((wdt b + 1) / 2) else []
/-- an odd register's last half byte is 0 -/
def tkFine : List UInt8 → Bool
  | [] => false
  | b :: tl => decide ((wdt b + 1) / 2 ≤ tl.length) && fineL tl (wdt b)
theorem strB_cons {s : ByteArray} (h : 0 < s.size) : strB s = s[0] :: (strB s).drop 1 := by
  have h1 : 0 < (strB s).length := by rw [strB_len]; exact h
  have h2 := strB_get s h
  rw [h2]
  have h3 := List.drop_eq_getElem_cons (l := strB s) (i := 0) h1
  simpa using h3
theorem strB_nil {s : ByteArray} (h : s.size = 0) : strB s = [] := by
  apply List.eq_nil_of_length_eq_zero; rw [strB_len]; exact h
theorem takeRegister_any (s : ByteArray) (w : World) (hs : s.size ≤ 140737488355328) :
    Calls Try.prog 128 #[.string s] w fun e w' => ∃ A c r, e = .returned (.tuple #[.agg #[.int .i64 (tkReg (strB s)).base, .slice A (tkReg (strB s)).digits.length c], .string r, .bool (tkOk (strB s))]) ∧ strB r = tkRest (strB s) ∧ OwnI w' w.heap.size (.slice A (tkReg (strB s)).digits.length c) (tkReg (strB s)).digits ∧ Below w.heap.size w w' := by
  by_cases h0 : 0 < s.size
  · have hc := strB_cons h0
    obtain ⟨b, hb⟩ : ∃ b, s[0] = b := ⟨_, rfl⟩
    have hl : ((strB s).drop 1).length = s.size - 1 := by rw [List.length_drop, strB_len]
    obtain ⟨tl, htl⟩ : ∃ tl, (strB s).drop 1 = tl := ⟨_, rfl⟩
    rw [htl] at hl
    by_cases h : 1 + (wdt s[0] + 1) / 2 ≤ s.size
    · refine (takeRegister_ok s w hs h0 h).mono ?_
      rintro e w' ⟨A, c, r, rfl, hr, ho, hw⟩
      have hd : strB s = b :: tl := by rw [← hb, ← htl]; exact hc
      have hle : (wdt b + 1) / 2 ≤ tl.length := by rw [← hb]; omega
      have e1 : tkReg (strB s) = ⟨bas b, digL tl (wdt b)⟩ := by rw [hd]; simp only [tkReg]; rw [if_pos hle]
      have e2 : tkRest (strB s) = tl.drop ((wdt b + 1) / 2) := by rw [hd]; simp only [tkRest]; rw [if_pos hle]
      rw [hb, htl] at ho
      rw [hb] at hr
      refine ⟨A, c, r, ?_, ?_, ?_, hw⟩
      · rw [e1, hd]; simp only [digL_len, tkOk, hb, htl, decide_eq_true hle, Bool.true_and, List.drop_succ_cons, List.drop_zero]
      · rw [hr, e2, hd, Nat.add_comm, List.drop_succ_cons]
      · rw [e1]; simp only [digL_len]; exact ho
    · refine (takeRegister_short s w hs (.inr ⟨h0, by omega⟩)).mono ?_
      rintro e w' ⟨rfl, hw⟩
      have hd : strB s = b :: tl := by rw [← hb, ← htl]; exact hc
      have hle : ¬ (wdt b + 1) / 2 ≤ tl.length := by rw [← hb]; omega
      have e1 : tkReg (strB s) = ⟨0, []⟩ := by rw [hd]; simp only [tkReg]; rw [if_neg hle]
      have e2 : tkRest (strB s) = [] := by rw [hd]; simp only [tkRest]; rw [if_neg hle]
      refine ⟨none, 0, ⟨#[]⟩, ?_, ?_, ?_, hw⟩
      · rw [e1, hd]; simp only [tkOk, decide_eq_false hle, Bool.false_and]; rfl
      · rw [e2]; rfl
      · rw [e1]; exact OwnI.nil _ _
  · refine (takeRegister_short s w hs (.inl (by omega))).mono ?_
    rintro e w' ⟨rfl, hw⟩
    have hd : strB s = [] := strB_nil (by omega)
    rw [hd]
    exact ⟨none, 0, ⟨#[]⟩, rfl, rfl, OwnI.nil _ _, hw⟩
theorem l27Register_any (s : ByteArray) (w : World) (hs : s.size ≤ 140737488355328) :
    Calls Try.prog 124 #[.string s] w fun e w' => ∃ A c r, e = .returned (.tuple #[.agg #[.int .i64 (tkReg (strB s)).base, .slice A (tkReg (strB s)).digits.length c], .string r, .bool (tkFine (strB s))]) ∧ strB r = tkRest (strB s) ∧ OwnI w' w.heap.size (.slice A (tkReg (strB s)).digits.length c) (tkReg (strB s)).digits ∧ Below w.heap.size w w' := by
  by_cases h0 : 0 < s.size
  · have hc := strB_cons h0
    obtain ⟨b, hb⟩ : ∃ b, s[0] = b := ⟨_, rfl⟩
    have hl : ((strB s).drop 1).length = s.size - 1 := by rw [List.length_drop, strB_len]
    obtain ⟨tl, htl⟩ : ∃ tl, (strB s).drop 1 = tl := ⟨_, rfl⟩
    rw [htl] at hl
    by_cases h : 1 + (wdt s[0] + 1) / 2 ≤ s.size
    · refine (l27Register_ok s w hs h0 h).mono ?_
      rintro e w' ⟨A, c, r, rfl, hr, ho, hw⟩
      have hd : strB s = b :: tl := by rw [← hb, ← htl]; exact hc
      have hle : (wdt b + 1) / 2 ≤ tl.length := by rw [← hb]; omega
      have e1 : tkReg (strB s) = ⟨bas b, digL tl (wdt b)⟩ := by rw [hd]; simp only [tkReg]; rw [if_pos hle]
      have e2 : tkRest (strB s) = tl.drop ((wdt b + 1) / 2) := by rw [hd]; simp only [tkRest]; rw [if_pos hle]
      rw [hb, htl] at ho
      rw [hb] at hr
      refine ⟨A, c, r, ?_, ?_, ?_, hw⟩
      · rw [e1, hd]; simp only [digL_len, tkFine, hb, htl, decide_eq_true hle, Bool.true_and, List.drop_succ_cons, List.drop_zero]
      · rw [hr, e2, hd, Nat.add_comm, List.drop_succ_cons]
      · rw [e1]; simp only [digL_len]; exact ho
    · refine (l27Register_short s w hs (.inr ⟨h0, by omega⟩)).mono ?_
      rintro e w' ⟨rfl, hw⟩
      have hd : strB s = b :: tl := by rw [← hb, ← htl]; exact hc
      have hle : ¬ (wdt b + 1) / 2 ≤ tl.length := by rw [← hb]; omega
      have e1 : tkReg (strB s) = ⟨0, []⟩ := by rw [hd]; simp only [tkReg]; rw [if_neg hle]
      have e2 : tkRest (strB s) = [] := by rw [hd]; simp only [tkRest]; rw [if_neg hle]
      refine ⟨none, 0, ⟨#[]⟩, ?_, ?_, ?_, hw⟩
      · rw [e1, hd]; simp only [tkFine, decide_eq_false hle, Bool.false_and]; rfl
      · rw [e2]; rfl
      · rw [e1]; exact OwnI.nil _ _
  · refine (l27Register_short s w hs (.inl (by omega))).mono ?_
    rintro e w' ⟨rfl, hw⟩
    have hd : strB s = [] := strB_nil (by omega)
    rw [hd]
    exact ⟨none, 0, ⟨#[]⟩, rfl, rfl, OwnI.nil _ _, hw⟩
/-- what packed digits say -/
theorem toB_byte (b : UInt8) (z : Int) (h : z = b.toNat) : toB z = b := by
  subst h
  unfold toB
  simp
theorem digL_getD (tl : List UInt8) (n k : Nat) : (digL tl n).getD k 0 = if k < n then digK tl k else 0 := by
  unfold digL
  by_cases h : k < n
  · rw [if_pos h]; simp [List.getD, h]
  · rw [if_neg h]; simp [List.getD, List.getElem?_eq_none (show (List.map (digK tl) (List.range n)).length ≤ k by simp; omega)]
theorem regB_digL (b : UInt8) (tl : List UInt8) (hl : tl.length = (wdt b + 1) / 2) (hf : fineL tl (wdt b) = true) : regB (bas b) (digL tl (wdt b)) = b :: tl := by
  have hw : wdt b = b.toNat % 16 + 1 := rfl
  have hb : bas b = b.toNat / 16 + 1 := rfl
  unfold regB
  rw [digL_len]
  congr 1
  · refine toB_byte b _ ?_
    rw [hw, hb]; omega
  · refine List.ext_getElem (by simp [hl]) fun j h1 h2 => ?_
    simp only [List.getElem_map, List.getElem_range]
    refine toB_byte _ _ ?_
    have hj : j < (wdt b + 1) / 2 := by simpa using h1
    have hg : tl.getD j 0 = tl[j] := by simp [List.getD, List.getElem?_eq_getElem h2]
    unfold pairAt
    rw [digL_getD, digL_getD, if_pos (by omega)]
    have d0 : digK tl (j * 2) = ((tl[j].toNat / 16 : Nat) : Int) := by
      unfold digK; rw [if_pos (by omega), show j * 2 / 2 = j by omega, hg]
    have d1 : digK tl (j * 2 + 1) = ((tl[j].toNat % 16 : Nat) : Int) := by
      unfold digK; rw [if_neg (by omega), show (j * 2 + 1) / 2 = j by omega, hg]
    rw [d0, d1]
    by_cases hj2 : j * 2 + 1 < wdt b
    · rw [if_pos hj2]; omega
    · rw [if_neg hj2]
      have hodd : wdt b % 2 = 1 := by omega
      have hje : (wdt b + 1) / 2 - 1 = j := by omega
      unfold fineL at hf
      rw [hje, hg] at hf
      have : tl[j].toNat % 16 = 0 := by
        rcases Bool.or_eq_true _ _ ▸ hf with h | h
        · rw [beq_iff_eq] at h; omega
        · rw [beq_iff_eq] at h; exact h
      omega
/-- what a register's bytes read as, whatever lies behind them -/
theorem tk_regB (base : Int) (ds : List Int) (more : List UInt8) (h : vreg base ds = true) : tkOk (regB base ds ++ more) = true ∧ tkReg (regB base ds ++ more) = ⟨base, ds⟩ ∧ tkRest (regB base ds ++ more) = more ∧ tkFine (regB base ds ++ more) = true := by
  obtain ⟨⟨b1, b2⟩, ⟨n1, n2⟩, hd, -⟩ := vreg_iff.1 h
  obtain ⟨b, hb⟩ : ∃ b, b = toB (16 * (base - 1) + ((ds.length : Int) - 1)) := ⟨_, rfl⟩
  obtain ⟨tl, htl⟩ : ∃ tl, tl = (List.range ((ds.length + 1) / 2)).map (fun j => toB (pairAt ds j)) := ⟨_, rfl⟩
  have hreg : regB base ds = b :: tl := by unfold regB; rw [← hb, ← htl]
  have hbn : b.toNat = (16 * (base - 1) + ((ds.length : Int) - 1)).toNat := by
    rw [hb]; unfold toB; rw [UInt8.toNat_ofNat']; omega
  have hw : wdt b = ds.length := by unfold wdt; omega
  have hbs : (bas b : Int) = base := by unfold bas; omega
  have hlen : tl.length = (ds.length + 1) / 2 := by rw [htl]; simp
  have hle : (wdt b + 1) / 2 ≤ (tl ++ more).length := by rw [hw, List.length_append, hlen]; omega
  have hget : ∀ j, j < (ds.length + 1) / 2 → ((tl ++ more).getD j 0).toNat = (pairAt ds j).toNat ∧ 0 ≤ pairAt ds j ∧ pairAt ds j < 256 := by
    intro j hj
    have hp : 0 ≤ pairAt ds j ∧ pairAt ds j < 256 := by
      unfold pairAt
      have q : ∀ k, 0 ≤ ds.getD k 0 ∧ ds.getD k 0 < 16 := by
        intro k
        by_cases hk : k < ds.length
        · have := hd _ (List.getElem_mem hk)
          rw [show ds.getD k 0 = ds[k] by simp [List.getD, List.getElem?_eq_getElem hk]]; omega
        · rw [show ds.getD k 0 = 0 by simp [List.getD, List.getElem?_eq_none (show ds.length ≤ k by omega)]]; omega
      have := q (j * 2); have := q (j * 2 + 1); omega
    refine ⟨?_, hp⟩
    have hjl : j < tl.length := by omega
    rw [show (tl ++ more).getD j 0 = tl[j] by simp [List.getD, List.getElem?_append_left hjl, List.getElem?_eq_getElem hjl]]
    simp only [htl, List.getElem_map, List.getElem_range]
    unfold toB; rw [UInt8.toNat_ofNat']; omega
  have hdig : digL (tl ++ more) (wdt b) = ds := by
    rw [hw]
    refine List.ext_getElem (by simp [digL]) fun k h1 h2 => ?_
    simp only [digL, List.getElem_map, List.getElem_range]
    obtain ⟨g1, g2, g3⟩ := hget (k / 2) (by omega)
    have hdk := hd _ (List.getElem_mem h2)
    have hk0 : ds.getD k 0 = ds[k] := by simp [List.getD, List.getElem?_eq_getElem h2]
    unfold digK
    rw [g1]
    unfold pairAt at g2 g3 ⊢
    rcases Nat.mod_two_eq_zero_or_one k with hm | hm
    · rw [if_pos hm]
      rw [show k / 2 * 2 = k by omega, hk0] at g2 g3 ⊢
      have hn : 0 ≤ ds.getD (k + 1) 0 ∧ ds.getD (k + 1) 0 < 16 := by
        by_cases hk : k + 1 < ds.length
        · have := hd _ (List.getElem_mem hk)
          rw [show ds.getD (k + 1) 0 = ds[k + 1] by simp [List.getD, List.getElem?_eq_getElem hk]]; omega
        · rw [show ds.getD (k + 1) 0 = 0 by simp [List.getD, List.getElem?_eq_none (show ds.length ≤ k + 1 by omega)]]; omega
      omega
    · rw [if_neg (by omega)]
      rw [show k / 2 * 2 + 1 = k by omega, hk0] at g2 g3 ⊢
      omega
  have hfine : fineL (tl ++ more) (wdt b) = true := by
    unfold fineL
    rw [hw]
    rcases Nat.mod_two_eq_zero_or_one ds.length with hm | hm
    · simp [hm]
    · obtain ⟨g1, g2, g3⟩ := hget ((ds.length + 1) / 2 - 1) (by omega)
      rw [g1]
      have : ds.getD (((ds.length + 1) / 2 - 1) * 2 + 1) 0 = 0 := by simp [List.getD, List.getElem?_eq_none (show ds.length ≤ ((ds.length + 1) / 2 - 1) * 2 + 1 by omega)]
      have h2 : (pairAt ds ((ds.length + 1) / 2 - 1)).toNat % 16 = 0 := by
        unfold pairAt at g2 g3 ⊢
        rw [this] at g2 g3 ⊢
        omega
      rw [h2]; simp
  rw [hreg, List.cons_append]
  refine ⟨?_, ?_, ?_, ?_⟩
  · simp only [tkOk]; exact decide_eq_true hle
  · simp only [tkReg]; rw [if_pos hle, hbs, hdig]
  · simp only [tkRest]; rw [if_pos hle, hw, ← hlen]; simp
  · simp only [tkFine]; rw [decide_eq_true hle, hfine]; rfl
end Go.Proofs.Ytcngeifkddhkmaa
