import Derived.Test.YtcngeifkddhkmaaY8
namespace Go.Proofs.Ytcngeifkddhkmaa
open Go.RowKit Go.Sort
theorem strB_extract (s : ByteArray) (i j : Nat) : strB (s.extract i j) = ((strB s).drop i).take (j - i) := by
  have h : (s.extract i j).data = s.data.extract i j := by simp
  unfold strB
  rw [h, Array.toList_extract, List.extract_eq_take_drop]
/-- bytes of a kind with their checksum behind them; what lies between -/
def bodyOk (k : UInt8) (bs : List UInt8) : Bool := decide (3 ≤ bs.length) && (bs.getD 0 0 == k) && decide (sumB (bs.take (bs.length - 2)) = 256 * ((bs.getD (bs.length - 2) 0).toNat : Int) + ((bs.getD (bs.length - 1) 0).toNat : Int))
def bodyB (k : UInt8) (bs : List UInt8) : List UInt8 := if bodyOk k bs then (bs.drop 1).take (bs.length - 3) else []
theorem strB_getD (s : ByteArray) {k : Nat} (h : k < s.size) : (strB s).getD k 0 = s[k] := by
  rw [strB_get s h]; simp [List.getD, List.getElem?_eq_getElem (show k < (strB s).length by rw [strB_len]; exact h)]
set_option maxRecDepth 100000 in
set_option maxHeartbeats 1600000 in
theorem l27Body_any (s : ByteArray) (kd : UInt8) (w : World) (hs : s.size ≤ 1048576) :
    Calls Try.prog 123 #[.string s, .int .u8 (kd.toNat : Int)] w fun e w' => ∃ r, e = .returned (.tuple #[.string r, .bool (bodyOk kd (strB s))]) ∧ strB r = bodyB kd (strB s) ∧ Below w.heap.size w w' := by
  have HL := Lib.hid (strB_len s)
  by_cases h3 : 3 ≤ s.size
  · obtain ⟨q0, hq0⟩ : ∃ q : UInt8, s[0] = q := ⟨_, rfl⟩
    have g0 : (strB s).getD 0 0 = q0 := by rw [strB_getD s (by omega), hq0]
    have h30 : decide ((s.size : Int) < 3) = false := decide_eq_false (by omega)
    have i0 : (0 : Int) < (s.size : Int) := by omega
    rcases hk : (q0 == kd) with _ | _
    · have hkv : ((q0.toNat : Int) == (kd.toNat : Int)) = false := by
        rw [beq_eq_false_iff_ne] at hk ⊢
        intro h; exact hk (UInt8.toNat_inj.1 (by omega))
      have hkn : ¬ (q0.toNat : Int) = (kd.toNat : Int) := by rw [beq_eq_false_iff_ne] at hkv; exact hkv
      have hkm : ((q0.toNat : Int) != (kd.toNat : Int)) = true := by simp [bne, hkv]
      have HF : Hid (bodyOk kd (strB s) = false) := by simp only [Hid, bodyOk]; rw [g0, hk]; simp
      clear hk
      go_enter Try.func123, Try.ntmps123
      go_wp2_with fail
      go_quiet (fail)
      go_wp2_with fail
      refine bodyPost_ret (v := .tuple #[.string ⟨#[]⟩, .bool false]) (by simp [results, Try.results123, go_sem]) rfl ⟨⟨#[]⟩, by rw [HF.out], by rw [bodyB, HF.out]; rfl, below_drewN (Below.refl _ _) _⟩
    · obtain rfl : q0 = kd := eq_of_beq hk
      obtain ⟨a, ha⟩ : ∃ q : UInt8, s[s.size - 2] = q := ⟨_, rfl⟩
      obtain ⟨b, hb⟩ : ∃ q : UInt8, s[s.size - 1] = q := ⟨_, rfl⟩
      have ga : (strB s).getD (s.size - 2) 0 = a := by rw [strB_getD s (by omega), ha]
      have gb : (strB s).getD (s.size - 1) 0 = b := by rw [strB_getD s (by omega), hb]
      have a2 := a.toNat_lt
      have b2 := b.toNat_lt
      have x1 : IntKind.i64.wrap ((s.size : Int) - 2) = (s.size : Int) - 2 := wrapI (by omega)
      have x2 : IntKind.i64.wrap ((s.size : Int) - 1) = (s.size : Int) - 1 := wrapI (by omega)
      have n1 : ((s.size : Int) - 2).toNat = s.size - 2 := by omega
      have n2 : ((s.size : Int) - 1).toNat = s.size - 1 := by omega
      have i1 : (0 : Int) ≤ (s.size : Int) - 2 := by omega
      have i2 : (s.size : Int) - 2 < (s.size : Int) := by omega
      have i3 : (0 : Int) ≤ (s.size : Int) - 1 := by omega
      have i4 : (s.size : Int) - 1 < (s.size : Int) := by omega
      have i5 : (s.size : Int) - 2 ≤ (s.size : Int) := by omega
      have i6 : (1 : Int) ≤ (s.size : Int) - 2 := by omega
      obtain ⟨sm, hsm⟩ : ∃ sm, sumB ((strB s).take (s.size - 2)) = sm := ⟨_, rfl⟩
      have HE : Hid (bodyOk q0 (strB s) = decide (sm = 256 * (a.toNat : Int) + (b.toNat : Int))) := by
        simp only [Hid, bodyOk]; rw [HL.out, g0, ga, gb, hsm]; simp; omega
      have KS := fun W => l27Sum_any (s.extract 0 (s.size - 2)) W (by simp [ByteArray.size_extract]; omega)
      rw [strB_extract, List.drop_zero, Nat.sub_zero, hsm] at KS
      have KS := Lib.hid KS
      clear hk g0 ga gb hsm
      rcases hq : (sm == 256 * (a.toNat : Int) + (b.toNat : Int)) with _ | _
      · have hqn : (sm != 256 * (a.toNat : Int) + (b.toNat : Int)) = true := by simp [bne, hq]
        have HF : Hid (bodyOk q0 (strB s) = false) := by simp only [Hid]; rw [HE.out]; simpa using hq
        go_enter Try.func123, Try.ntmps123
        go_wp2_with fail
        go_quiet ((go_at_call 146; exact quiet_left (KS.out _)))
        go_wp2_with fail
        refine bodyPost_ret (v := .tuple #[.string ⟨#[]⟩, .bool false]) (by simp [results, Try.results123, go_sem]) rfl ⟨⟨#[]⟩, by rw [HF.out], by rw [bodyB, HF.out]; rfl, below_drewN (Below.refl _ _) _⟩
      · have hqn : (sm != 256 * (a.toNat : Int) + (b.toNat : Int)) = false := by simp [bne, hq]
        have HF : Hid (bodyOk q0 (strB s) = true) := by simp only [Hid]; rw [HE.out]; simpa using hq
        go_enter Try.func123, Try.ntmps123
        go_wp2_with fail
        go_quiet ((go_at_call 146; exact quiet_left (KS.out _)))
        go_wp2_with fail
        refine bodyPost_ret (v := .tuple #[.string (s.extract 1 (s.size - 2)), .bool true]) (by simp [results, Try.results123, go_sem]) rfl ⟨_, by rw [HF.out], ?_, below_drewN (Below.refl _ _) _⟩
        rw [strB_extract, bodyB, HF.out, HL.out]; simp only [if_true]; congr 1
  · have h30 : (s.size : Int) < 3 := by omega
    have HF : Hid (bodyOk kd (strB s) = false) := by simp only [Hid, bodyOk]; rw [HL.out, decide_eq_false h3]; rfl
    go_enter Try.func123, Try.ntmps123
    go_wp2_with fail
    go_quiet (fail)
    go_wp2_with fail
    refine bodyPost_ret (v := .tuple #[.string ⟨#[]⟩, .bool false]) (by simp [results, Try.results123, go_sem]) rfl ⟨⟨#[]⟩, by rw [HF.out], by rw [bodyB, HF.out]; rfl, below_drewN (Below.refl _ _) _⟩
/-- what a body is -/
theorem body_iff (k : UInt8) (bs : List UInt8) : bodyOk k bs = true ↔ bs = sealB (k :: bodyB k bs) := by
  constructor
  · intro h
    have hB : bodyB k bs = (bs.drop 1).take (bs.length - 3) := by rw [bodyB, h]; rfl
    unfold bodyOk at h
    simp only [Bool.and_eq_true, decide_eq_true_eq, beq_iff_eq] at h
    obtain ⟨⟨h3, h0⟩, hs⟩ := h
    obtain ⟨x, y, rfl⟩ : ∃ (l : List UInt8) (y : UInt8), bs = k :: l ++ [y] := by
      cases bs with
      | nil => simp at h3
      | cons b t =>
        have hbk : b = k := by simpa [List.getD] using h0
        subst hbk
        rcases List.eq_nil_or_concat t with rfl | ⟨l, y, rfl⟩
        · simp at h3
        · exact ⟨l, y, by simp⟩
    obtain ⟨l, z, rfl⟩ : ∃ (l : List UInt8) (z : UInt8), x = l ++ [z] := by
      rcases List.eq_nil_or_concat x with rfl | ⟨l, z, rfl⟩
      · simp at h3
      · exact ⟨l, z, by simp⟩
    have e1 : ((k :: (l ++ [z]) ++ [y]).take ((k :: (l ++ [z]) ++ [y]).length - 2)) = k :: l := by
      rw [show (k :: (l ++ [z]) ++ [y]).length - 2 = (k :: l).length by simp, show k :: (l ++ [z]) ++ [y] = (k :: l) ++ [z, y] by simp, List.take_left]
    have e2 : (k :: (l ++ [z]) ++ [y]).getD ((k :: (l ++ [z]) ++ [y]).length - 2) 0 = z := by
      rw [show (k :: (l ++ [z]) ++ [y]).length - 2 = (k :: l).length by simp, show k :: (l ++ [z]) ++ [y] = (k :: l) ++ [z, y] by simp]
      simp [List.getD, List.getElem?_append_right]
    have e3 : (k :: (l ++ [z]) ++ [y]).getD ((k :: (l ++ [z]) ++ [y]).length - 1) 0 = y := by
      rw [show (k :: (l ++ [z]) ++ [y]).length - 1 = (k :: (l ++ [z])).length by simp]
      simp [List.getD, List.getElem?_append_right]
    rw [e1, e2, e3] at hs
    have hb : bodyB k (k :: (l ++ [z]) ++ [y]) = l := by
      rw [hB]
      rw [show (k :: (l ++ [z]) ++ [y]).length - 3 = l.length by simp, show (k :: (l ++ [z]) ++ [y]).drop 1 = l ++ [z, y] by simp, List.take_left]
    rw [hb]
    unfold sealB
    have z2 := z.toNat_lt
    have y2 := y.toNat_lt
    rw [hs, show ((256 * (z.toNat : Int) + (y.toNat : Int)) / 256).toNat = z.toNat by omega, show ((256 * (z.toNat : Int) + (y.toNat : Int)) % 256).toNat = y.toNat by omega]
    simp
  · intro h
    obtain ⟨l, hl⟩ : ∃ l, bodyB k bs = l := ⟨_, rfl⟩
    rw [hl] at h
    rw [h]
    obtain ⟨s0, s1⟩ := sumB_bd (k :: l)
    unfold bodyOk sealB
    have e1 : ((k :: l) ++ [UInt8.ofNat (sumB (k :: l) / 256).toNat, UInt8.ofNat (sumB (k :: l) % 256).toNat]).length - 2 = (k :: l).length := by simp
    have e2 : ((k :: l) ++ [UInt8.ofNat (sumB (k :: l) / 256).toNat, UInt8.ofNat (sumB (k :: l) % 256).toNat]).length - 1 = (k :: l).length + 1 := by simp
    rw [e1, e2, List.take_left]
    have e3 : ∀ (p q : UInt8), (((k :: l) ++ [p, q]).getD (k :: l).length 0) = p ∧ (((k :: l) ++ [p, q]).getD ((k :: l).length + 1) 0) = q := by
      intro p q
      constructor <;> simp [List.getD, List.getElem?_append_right]
    rw [(e3 _ _).1, (e3 _ _).2, UInt8.toNat_ofNat', UInt8.toNat_ofNat']
    simp only [Bool.and_eq_true, decide_eq_true_eq, beq_iff_eq]
    refine ⟨⟨by simp, by simp [List.getD]⟩, by omega⟩
theorem body_of (k : UInt8) (l : List UInt8) : bodyOk k (sealB (k :: l)) = true ∧ bodyB k (sealB (k :: l)) = l := by
  have hb : (((sealB (k :: l)).drop 1).take ((sealB (k :: l)).length - 3)) = l := by
    unfold sealB
    rw [show ((k :: l) ++ [UInt8.ofNat (sumB (k :: l) / 256).toNat, UInt8.ofNat (sumB (k :: l) % 256).toNat]).length - 3 = l.length by simp]
    rw [List.cons_append, List.drop_succ_cons, List.drop_zero, List.take_left]
  have h1 : bodyOk k (sealB (k :: l)) = true := by
    obtain ⟨s0, s1⟩ := sumB_bd (k :: l)
    unfold bodyOk sealB
    have e1 : ((k :: l) ++ [UInt8.ofNat (sumB (k :: l) / 256).toNat, UInt8.ofNat (sumB (k :: l) % 256).toNat]).length - 2 = (k :: l).length := by simp
    have e2 : ((k :: l) ++ [UInt8.ofNat (sumB (k :: l) / 256).toNat, UInt8.ofNat (sumB (k :: l) % 256).toNat]).length - 1 = (k :: l).length + 1 := by simp
    rw [e1, e2, List.take_left]
    have e3 : ∀ (p q : UInt8), (((k :: l) ++ [p, q]).getD (k :: l).length 0) = p ∧ (((k :: l) ++ [p, q]).getD ((k :: l).length + 1) 0) = q := by
      intro p q
      constructor <;> simp [List.getD, List.getElem?_append_right]
    rw [(e3 _ _).1, (e3 _ _).2, UInt8.toNat_ofNat', UInt8.toNat_ofNat']
    simp only [Bool.and_eq_true, decide_eq_true_eq, beq_iff_eq]
    refine ⟨⟨by simp, by simp [List.getD]⟩, by omega⟩
  exact ⟨h1, by unfold bodyB; rw [h1]; exact hb⟩
end Go.Proofs.Ytcngeifkddhkmaa
