import Derived.Test.YtcngeifkddhkmaaDoorT5
namespace Go.Proofs.YtcngeifkddhkmaaDoor
open Go.RowKit Go.Sort
def zTri : Tri := ⟨⟨0, []⟩, ⟨0, []⟩, ⟨0, []⟩, 0⟩
def rdMach (bs : List UInt8) : Tri := (rdM bs).getD zTri
theorem rdm_none {bs : List UInt8} (h : rdM bs = none) : rdMach bs = zTri ∧ (rdM bs).isSome = false := by simp [rdMach, h]
theorem rdm_some {bs : List UInt8} {r : Tri} (h : rdM bs = some r) : rdMach bs = r ∧ (rdM bs).isSome = true := by simp [rdMach, h]
theorem rdReg_len (bs : List UInt8) : (rdReg bs).digits.length ≤ 16 := by
  cases h : rdR bs with
  | none => rw [(rdr_none h).1]; simp
  | some r => rw [(rdr_some h).1]; exact (ok_bd (rdR_sound h).1).2.2
theorem readB (s : ByteArray) (hs : s.size ≤ 1048576) (R : Reg) (hR : rdReg (strB s) = R) (ok : Bool) (hok : (rdR (strB s)).isSome = ok) (w : World) (ht : TB w) :
    Calls Tryd.prog 16 #[.string s] w fun e w' => ∃ A c, e = .returned (.tuple #[.agg #[.int .i64 R.base, .slice A R.digits.length c], .bool ok]) ∧ Kn w [rowI A c R.digits] w' := by
  subst hR; subst hok; exact ReadRegister_any s w hs ht
theorem readS (s : ByteArray) (hs : s.size ≤ 1048576) (R : Reg) (hR : rdReg (strB s) = R) (ok : Bool) (hok : (rdR (strB s)).isSome = ok) (w : World) :
    Calls Tryd.prog 144 #[.string s] w fun e w' => ∃ A c, e = .returned (.tuple #[.agg #[.int .i64 R.base, .slice A R.digits.length c], .bool ok]) ∧ Kn w [rowI A c R.digits] w' := by
  subst hR; subst hok; exact specReadRegister_any s w hs
theorem words_each (bs : List UInt8) : ∀ x ∈ wordsB bs, x.length ≤ bs.length := fun x hx => splitB_each 32 bs x (List.mem_filter.1 hx).1
theorem Kn.sw6 {w0 w : World} {m : List Ent} {a b c d e f g : Ent} (h : Kn w0 (a :: b :: c :: d :: e :: f :: g :: m) w) : Kn w0 (g :: a :: b :: c :: d :: e :: f :: m) w := h.perm (by
  have := (List.perm_middle (a := g) (l₁ := [a, b, c, d, e, f]) (l₂ := m)); simpa using this)
theorem eq4B (a b c d : Bool) (w : World) : (Op.equalIn 10000 166 (.agg #[.bool a, .bool b, .bool c, .bool d]) (.agg #[.bool true, .bool true, .bool true, .bool true])).run Tryd.prog w = .ok (a && b && c && d) w := by
  cases a <;> cases b <;> cases c <;> cases d <;> kernel_rfl
set_option maxRecDepth 100000 in
set_option maxHeartbeats 800000 in
theorem ReadMachine_any (s : ByteArray) (w : World) (hs : s.size ≤ 1048576) (htb0 : TB w) :
    Calls Tryd.prog 62 #[.string s] w fun e w' => ∃ A1 c1 A2 c2 A3 c3, e = .returned (.tuple #[.agg #[.int .i64 (rdMach (strB s)).a.base, .slice A1 (rdMach (strB s)).a.digits.length c1, .int .i64 (rdMach (strB s)).b.base, .slice A2 (rdMach (strB s)).b.digits.length c2, .int .i64 (rdMach (strB s)).s.base, .slice A3 (rdMach (strB s)).s.digits.length c3, .int .i64 (rdMach (strB s)).carry], .bool (rdM (strB s)).isSome]) ∧
      Kn w [rowI A3 c3 (rdMach (strB s)).s.digits, rowI A2 c2 (rdMach (strB s)).b.digits, rowI A1 c1 (rdMach (strB s)).a.digits] w' := by
  have HRD := Lib.hid (show rdM (strB s) = _ from rfl)
  have KS := Lib.hid (fun W => SplitWords_any s W hs)
  have hjoin : ∀ x ∈ wordsB (strB s), x.length ≤ 1048576 := by
    intro x hx
    have := words_each (strB s) x hx; rw [strB_len] at this; omega
  have HT := Lib.hid (fun W (hW : Below w.heap.size w W) => TB.below htb0 hW)
  clear htb0
  go_enter Tryd.func62, Tryd.ntmps62
  go_wp2_with fail
  refine Calls.kn ((Kn.nil w).al [.int .i64 0, .slice none 0 0, .int .i64 0, .slice none 0 0, .int .i64 0, .slice none 0 0, .int .i64 0] 91) ?_; intro w1 hK1
  refine (KS.out w1).mono ?_; rintro e w2 ⟨A, c, ss, rfl, hss, hK⟩
  have hK2 := hK1.join hK
  have HSS := Lib.hid hss
  have HJ := Lib.hid hjoin
  clear hK hK1 hss hjoin
  obtain ⟨d1, d2, d3, -⟩ := hK2.cells
  have HNO : Hid (ss.length ≠ 4 → rdM (strB s) = none) := by
    intro h
    unfold rdM
    rw [← HSS.out]
    match ss, h with
    | [], _ => rfl
    | [_], _ => rfl
    | [_, _], _ => rfl
    | [_, _, _], _ => rfl
    | [_, _, _, _], h => exact absurd rfl h
    | _ :: _ :: _ :: _ :: _ :: _, _ => rfl
  by_cases hl4 : ss.length = 4
  · have HYES : Hid (∃ x0 x1 x2 x3, ss = [x0, x1, x2, x3]) := by
      match ss, hl4 with
      | [x0, x1, x2, x3], _ => exact ⟨x0, x1, x2, x3, rfl⟩
    obtain ⟨x0, x1, x2, x3, rfl⟩ := HYES.out
    obtain ⟨-, g, rfl, -, hg0, hg1⟩ := hK2.rowS_at (k := 0) (by simp)
    have b0 : x0.size ≤ 1048576 := by rw [← strB_len]; exact HJ.out _ (by rw [← HSS.out]; simp)
    have b1 : x1.size ≤ 1048576 := by rw [← strB_len]; exact HJ.out _ (by rw [← HSS.out]; simp)
    have b2 : x2.size ≤ 1048576 := by rw [← strB_len]; exact HJ.out _ (by rw [← HSS.out]; simp)
    have b3 : x3.size ≤ 1048576 := by rw [← strB_len]; exact HJ.out _ (by rw [← HSS.out]; simp)
    obtain ⟨t, ht⟩ : ∃ t : Tri, (⟨rdReg (strB x0), rdReg (strB x1), rdReg (strB x2), rdN (strB x3)⟩ : Tri) = t := ⟨_, rfl⟩
    have hta : rdReg (strB x0) = t.a := by rw [← ht]
    have htb : rdReg (strB x1) = t.b := by rw [← ht]
    have hts : rdReg (strB x2) = t.s := by rw [← ht]
    have htc : rdN (strB x3) = t.carry := by rw [← ht]
    have n1 := rdReg_len (strB x0); rw [hta] at n1
    have n2 := rdReg_len (strB x1); rw [htb] at n2
    have n3 := rdReg_len (strB x2); rw [hts] at n3
    obtain ⟨ok1, hok1⟩ : ∃ b, (rdR (strB x0)).isSome = b := ⟨_, rfl⟩
    obtain ⟨ok2, hok2⟩ : ∃ b, (rdR (strB x1)).isSome = b := ⟨_, rfl⟩
    obtain ⟨ok3, hok3⟩ : ∃ b, (rdR (strB x2)).isSome = b := ⟨_, rfl⟩
    obtain ⟨ok4, hok4⟩ : ∃ b, (rdDec (strB x3)).isSome = b := ⟨_, rfl⟩
    have HRR : Hid (rdM (strB s) = if (ok1 && ok2 && ok3 && ok4) && decide (strB (mtext t) = strB s) then some t else none) := by
      simp only [Hid, rdM]
      rw [← HSS.out]
      simp only [List.map_cons, List.map_nil]
      rw [hok1, hok2, hok3, hok4, ht]
    have K1 := Lib.hid (fun W hW => readB x0 b0 t.a hta ok1 hok1 W hW)
    have K2 := Lib.hid (fun W hW => readB x1 b1 t.b htb ok2 hok2 W hW)
    have K3 := Lib.hid (fun W hW => readB x2 b2 t.s hts ok3 hok3 W hW)
    have K4 := (fun W hW => ReadDecimal_any x3 W (by omega) hW)
    rw [htc, hok4] at K4
    have K4 := Lib.hid K4
    clear hl4 ht hta htb hts htc hok1 hok2 hok3 hok4
    have s0 := hK2.rowS_get (k := 0) (by simp)
    have s1 := hK2.rowS_get (k := 1) (by simp)
    have s2 := hK2.rowS_get (k := 2) (by simp)
    have s3 := hK2.rowS_get (k := 3) (by simp)
    simp only [List.getElem_cons_zero, List.getElem_cons_succ] at s0 s1 s2 s3
    have hK4 := ((hK2.al [.int .i64 0, .slice none 0 0, .int .i64 0, .slice none 0 0, .int .i64 0, .slice none 0 0, .int .i64 0] 91).al [.bool false, .bool false, .bool false, .bool false] 166).sw1
    simp only [World.size_alloc] at hK4
    have hap := hK4.apart
    simp [Ent.fp] at hap
    go_wp2_with fail
    refine Calls.kn hK4 ?_; intro w3 hK5
    clear s0 s1 s2 s3 hK4
    refine (K1.out _ (HT.out _ hK5.below)).mono ?_; rintro e w4 ⟨A1, c1, rfl, hK⟩
    have hK6 := hK5.join hK
    clear hK hK5
    obtain ⟨a1, a2, a3, f1, f2, f3, -⟩ := hK6.cells
    have s1 := hK6.drop.drop.drop.rowS_get (k := 1) (by simp)
    simp only [List.getElem_cons_succ, List.getElem_cons_zero] at s1
    go_wp2_with fail
    refine Calls.kn (m := [.blk (w2.heap.size + 1) [.bool ok1, .bool false, .bool false, .bool false] 166, .blk w2.heap.size [.int .i64 t.a.base, .slice A1 t.a.digits.length c1, .int .i64 0, .slice none 0 0, .int .i64 0, .slice none 0 0, .int .i64 0] 91, rowI A1 c1 t.a.digits, rowS (.slice (some ⟨g, 0, none⟩) 4 c) [x0, x1, x2, x3], .blk w.heap.size [.int .i64 0, .slice none 0 0, .int .i64 0, .slice none 0 0, .int .i64 0, .slice none 0 0, .int .i64 0] 91]) (((hK6.sw1.st 0 _).st 1 _).sw2.st 0 _) ?_; intro w5 hK7
    clear a1 a2 a3 f1 f2 f3 s1 hK6
    refine (K2.out _ (HT.out _ hK7.below)).mono ?_; rintro e w6 ⟨A2, c2, rfl, hK⟩
    have hK8 := hK7.join hK
    clear hK hK7
    obtain ⟨f1, f2, f3, a1, a2, a3, -⟩ := hK8.cells
    have s2 := hK8.drop.drop.drop.drop.rowS_get (k := 2) (by simp)
    simp only [List.getElem_cons_succ, List.getElem_cons_zero] at s2
    go_wp2_with fail
    refine Calls.kn (m := [.blk (w2.heap.size + 1) [.bool ok1, .bool ok2, .bool false, .bool false] 166, .blk w2.heap.size [.int .i64 t.a.base, .slice A1 t.a.digits.length c1, .int .i64 t.b.base, .slice A2 t.b.digits.length c2, .int .i64 0, .slice none 0 0, .int .i64 0] 91, rowI A2 c2 t.b.digits, rowI A1 c1 t.a.digits, rowS (.slice (some ⟨g, 0, none⟩) 4 c) [x0, x1, x2, x3], .blk w.heap.size [.int .i64 0, .slice none 0 0, .int .i64 0, .slice none 0 0, .int .i64 0, .slice none 0 0, .int .i64 0] 91]) (((hK8.sw2.st 2 _).st 3 _).sw2.st 1 _) ?_; intro w7 hK9
    clear a1 a2 a3 f1 f2 f3 s2 hK8
    refine (K3.out _ (HT.out _ hK9.below)).mono ?_; rintro e w8 ⟨A3, c3, rfl, hK⟩
    have hK10 := hK9.join hK
    clear hK hK9
    obtain ⟨f1, f2, f3, a1, a2, a3, -⟩ := hK10.cells
    have s3 := hK10.drop.drop.drop.drop.drop.rowS_get (k := 3) (by simp)
    simp only [List.getElem_cons_succ, List.getElem_cons_zero] at s3
    go_wp2_with fail
    refine Calls.kn (m := [.blk (w2.heap.size + 1) [.bool ok1, .bool ok2, .bool ok3, .bool false] 166, .blk w2.heap.size [.int .i64 t.a.base, .slice A1 t.a.digits.length c1, .int .i64 t.b.base, .slice A2 t.b.digits.length c2, .int .i64 t.s.base, .slice A3 t.s.digits.length c3, .int .i64 0] 91, rowI A3 c3 t.s.digits, rowI A2 c2 t.b.digits, rowI A1 c1 t.a.digits, rowS (.slice (some ⟨g, 0, none⟩) 4 c) [x0, x1, x2, x3], .blk w.heap.size [.int .i64 0, .slice none 0 0, .int .i64 0, .slice none 0 0, .int .i64 0, .slice none 0 0, .int .i64 0] 91]) (((hK10.sw2.st 4 _).st 5 _).sw2.st 2 _) ?_; intro w9 hK11
    clear a1 a2 a3 f1 f2 f3 s3 hK10
    refine (K4.out _ (HT.out _ hK11.below)).mono ?_; rintro e w10 ⟨rfl, hw⟩
    have hK12 := hK11.keep hw
    clear hw hK11
    obtain ⟨f1, f2, f3, a1, a2, a3, d1, d2, d3, -⟩ := hK12.cells
    have hKG : Kn w [.blk (w2.heap.size + 1) [.bool ok1, .bool ok2, .bool ok3, .bool ok4] 166, .blk w2.heap.size [.int .i64 t.a.base, .slice A1 t.a.digits.length c1, .int .i64 t.b.base, .slice A2 t.b.digits.length c2, .int .i64 t.s.base, .slice A3 t.s.digits.length c3, .int .i64 t.carry] 91, rowI A3 c3 t.s.digits, rowI A2 c2 t.b.digits, rowI A1 c1 t.a.digits, rowS (.slice (some ⟨g, 0, none⟩) 4 c) [x0, x1, x2, x3], .blk w.heap.size [.int .i64 0, .slice none 0 0, .int .i64 0, .slice none 0 0, .int .i64 0, .slice none 0 0, .int .i64 0] 91] _ := ((hK12.sw1.st 6 (.int .i64 t.carry)).sw1.st 3 (.bool ok4))
    rcases hall : (ok1 && ok2 && ok3 && ok4) with _ | _
    · have HU := Lib.hid (rdm_none (bs := strB s) (by rw [HRR.out, hall]; rfl))
      have HE4 := fun W => eq4B ok1 ok2 ok3 ok4 W
      simp only [hall] at HE4
      clear hall
      go_wp2_with (refine wpList.kn hKG ?_; intro w11 hK13; clear d1 d2 d3 f1 f2 f3 a1 a2 a3; obtain ⟨f1, f2, f3, a1, a2, a3, d1, d2, d3, -⟩ := hK13.cells)
      refine bodyPost_ret (v := .tuple #[.agg #[.int .i64 0, .slice none 0 0, .int .i64 0, .slice none 0 0, .int .i64 0, .slice none 0 0, .int .i64 0], .bool false]) (by simp [results, Tryd.results62, go_sem, d1, d2, d3]) rfl ⟨none, 0, none, 0, none, 0, by rw [HU.out.1, HU.out.2]; rfl, ?_⟩
      rw [HU.out.1]
      exact ((((((((((hK13.sw6.st 0 (.int .i64 0)).st 1 (.slice none 0 0)).st 2 (.int .i64 0)).st 3 (.slice none 0 0)).st 4 (.int .i64 0)).st 5 (.slice none 0 0)).st 6 (.int .i64 0))).bare.nilRow _ _).nilRow _ _).nilRow _ _
    · have HE4 := fun W => eq4B ok1 ok2 ok3 ok4 W
      simp only [hall] at HE4
      have HRR := Lib.hid (show rdM (strB s) = if decide (strB (mtext t) = strB s) then some t else none by rw [HRR.out, hall]; simp)
      clear hall
      have KM := Lib.hid (fun W (r1 : RI W A1 t.a.digits.length t.a.digits) (r2 : RI W A2 t.b.digits.length t.b.digits) (r3 : RI W A3 t.s.digits.length t.s.digits) hW => MachineText_any t A1 A2 A3 c1 c2 c3 W r1 r2 r3 ⟨by unfold SmallReg; omega, by unfold SmallReg; omega, by unfold SmallReg; omega⟩ hW)
      go_wp2_with (refine wpList.kn hKG ?_; intro w11 hK13; clear d1 d2 d3 f1 f2 f3 a1 a2 a3; obtain ⟨f1, f2, f3, a1, a2, a3, d1, d2, d3, -⟩ := hK13.cells)
      refine (KM.out w11 hK13.drop.drop.drop.drop.ownI.ri hK13.drop.drop.drop.ownI.ri hK13.drop.drop.ownI.ri (HT.out _ hK13.below)).mono ?_; rintro e w12 ⟨rfl, hw⟩
      have hK14 := hK13.keep hw
      clear hw d1 d2 d3 f1 f2 f3 a1 a2 a3 hKG
      obtain ⟨f1, f2, f3, a1, a2, a3, d1, d2, d3, -⟩ := hK14.cells
      rcases hq : ((mtext t).toList == s.toList) with _ | _
      · have HU := Lib.hid (rdm_none (bs := strB s) (by rw [HRR.out]; rw [strB_toList, strB_toList, beq_eq_false_iff_ne] at hq; simp [hq]))
        go_wp2_with fail
        refine bodyPost_ret (v := .tuple #[.agg #[.int .i64 0, .slice none 0 0, .int .i64 0, .slice none 0 0, .int .i64 0, .slice none 0 0, .int .i64 0], .bool false]) (by simp [results, Tryd.results62, go_sem, d1, d2, d3]) rfl ⟨none, 0, none, 0, none, 0, by rw [HU.out.1, HU.out.2]; rfl, ?_⟩
        rw [HU.out.1]
        exact ((((((((((hK14.sw6.st 0 (.int .i64 0)).st 1 (.slice none 0 0)).st 2 (.int .i64 0)).st 3 (.slice none 0 0)).st 4 (.int .i64 0)).st 5 (.slice none 0 0)).st 6 (.int .i64 0))).bare.nilRow _ _).nilRow _ _).nilRow _ _
      · have HU := Lib.hid (rdm_some (bs := strB s) (r := t) (by rw [HRR.out]; rw [strB_toList, strB_toList, beq_iff_eq] at hq; simp [hq]))
        go_wp2_with fail
        have hKT := hK14
        have hK15 := (((((((hKT.sw6.st 0 (.int .i64 t.a.base)).st 1 (.slice A1 t.a.digits.length c1)).st 2 (.int .i64 t.b.base)).st 3 (.slice A2 t.b.digits.length c2)).st 4 (.int .i64 t.s.base)).st 5 (.slice A3 t.s.digits.length c3)).st 6 (.int .i64 t.carry))
        refine bodyPost_ret (v := .tuple #[.agg #[.int .i64 t.a.base, .slice A1 t.a.digits.length c1, .int .i64 t.b.base, .slice A2 t.b.digits.length c2, .int .i64 t.s.base, .slice A3 t.s.digits.length c3, .int .i64 t.carry], .bool true]) (by simp [results, Tryd.results62, go_sem, d1, d2, d3]) rfl ⟨A1, c1, A2, c2, A3, c3, by rw [HU.out.1, HU.out.2], ?_⟩
        rw [HU.out.1]
        exact hK15.drop.drop.drop.drop3
  · have HU := Lib.hid (rdm_none (bs := strB s) (HNO.out hl4))
    have k1 : ((ss.length : Int) != 4) = true := by rw [bne_iff_ne]; omega
    clear hl4
    go_wp2_with fail
    refine bodyPost_ret (v := .tuple #[.agg #[.int .i64 0, .slice none 0 0, .int .i64 0, .slice none 0 0, .int .i64 0, .slice none 0 0, .int .i64 0], .bool false]) (by simp [results, Tryd.results62, go_sem, d1, d2, d3]) rfl ⟨none, 0, none, 0, none, 0, by rw [HU.out.1, HU.out.2]; rfl, ?_⟩
    rw [HU.out.1]
    exact ((((((((((hK2.sw1.st 0 (.int .i64 0)).st 1 (.slice none 0 0)).st 2 (.int .i64 0)).st 3 (.slice none 0 0)).st 4 (.int .i64 0)).st 5 (.slice none 0 0)).st 6 (.int .i64 0))).bare.nilRow _ _).nilRow _ _).nilRow _ _
end Go.Proofs.YtcngeifkddhkmaaDoor
