import Derived.Test.YtcngeifkddhkmaaDoorT6
namespace Go.Proofs.YtcngeifkddhkmaaDoor
open Go.RowKit Go.Sort
set_option maxRecDepth 100000 in
set_option maxHeartbeats 800000 in
theorem specReadMachine_any (s : ByteArray) (w : World) (hs : s.size ≤ 1048576) :
    Calls Tryd.prog 61 #[.string s] w fun e w' => ∃ A1 c1 A2 c2 A3 c3, e = .returned (.tuple #[.agg #[.int .i64 (rdMach (strB s)).a.base, .slice A1 (rdMach (strB s)).a.digits.length c1, .int .i64 (rdMach (strB s)).b.base, .slice A2 (rdMach (strB s)).b.digits.length c2, .int .i64 (rdMach (strB s)).s.base, .slice A3 (rdMach (strB s)).s.digits.length c3, .int .i64 (rdMach (strB s)).carry], .bool (rdM (strB s)).isSome]) ∧
      Kn w [rowI A3 c3 (rdMach (strB s)).s.digits, rowI A2 c2 (rdMach (strB s)).b.digits, rowI A1 c1 (rdMach (strB s)).a.digits] w' := by
  have HRD := Lib.hid (rdM_spec (strB s))
  have KS := fun W => l01Split_any s 32 W hs
  have e32 : (32 : UInt8).toNat = 32 := rfl
  rw [e32] at KS
  have KS := Lib.hid KS
  have hjoin : ∀ x ∈ splitB 32 (strB s), x.length ≤ 1048576 := by
    intro x hx
    have := splitB_each 32 (strB s) x hx; rw [strB_len] at this; omega
  clear e32
  go_enter Tryd.func61, Tryd.ntmps61
  go_wp2_with fail
  refine Calls.kn ((Kn.nil w).al [.int .i64 0, .slice none 0 0, .int .i64 0, .slice none 0 0, .int .i64 0, .slice none 0 0, .int .i64 0] 91) ?_; intro w1 hK1
  refine (KS.out w1).mono ?_; rintro e w2 ⟨A, c, ss, rfl, hss, hK⟩
  have hK2 := hK1.join hK
  have HSS := Lib.hid hss
  have HJ := Lib.hid hjoin
  clear hK hK1 hss hjoin
  obtain ⟨d1, d2, d3, -⟩ := hK2.cells
  have HNO : Hid (ss.length ≠ 4 → rdM (strB s) = none) := by
    intro h
    rw [HRD.out, ← HSS.out]
    match ss, h with
    | [], _ => rfl
    | [_], _ => rfl
    | [_, _], _ => rfl
    | [_, _, _], _ => rfl
    | [_, _, _, _], h => exact absurd rfl h
    | _ :: _ :: _ :: _ :: _ :: _, _ => rfl
  by_cases hl4 : ss.length = 4
  · have HYES : Hid (∃ x0 x1 x2 x3, ss = [x0, x1, x2, x3]) := by
      match ss, hl4 with
      | [x0, x1, x2, x3], _ => exact ⟨x0, x1, x2, x3, rfl⟩
    obtain ⟨x0, x1, x2, x3, rfl⟩ := HYES.out
    obtain ⟨-, g, rfl, -, hg0, hg1⟩ := hK2.rowS_at (k := 0) (by simp)
    have b0 : x0.size ≤ 1048576 := by rw [← strB_len]; exact HJ.out _ (by rw [← HSS.out]; simp)
    have b1 : x1.size ≤ 1048576 := by rw [← strB_len]; exact HJ.out _ (by rw [← HSS.out]; simp)
    have b2 : x2.size ≤ 1048576 := by rw [← strB_len]; exact HJ.out _ (by rw [← HSS.out]; simp)
    have b3 : x3.size ≤ 1048576 := by rw [← strB_len]; exact HJ.out _ (by rw [← HSS.out]; simp)
    obtain ⟨t, ht⟩ : ∃ t : Tri, (⟨rdReg (strB x0), rdReg (strB x1), rdReg (strB x2), rdN (strB x3)⟩ : Tri) = t := ⟨_, rfl⟩
    have hta : rdReg (strB x0) = t.a := by rw [← ht]
    have htb : rdReg (strB x1) = t.b := by rw [← ht]
    have hts : rdReg (strB x2) = t.s := by rw [← ht]
    have htc : rdN (strB x3) = t.carry := by rw [← ht]
    have n1 := rdReg_len (strB x0); rw [hta] at n1
    have n2 := rdReg_len (strB x1); rw [htb] at n2
    have n3 := rdReg_len (strB x2); rw [hts] at n3
    obtain ⟨ok1, hok1⟩ : ∃ b, (rdR (strB x0)).isSome = b := ⟨_, rfl⟩
    obtain ⟨ok2, hok2⟩ : ∃ b, (rdR (strB x1)).isSome = b := ⟨_, rfl⟩
    obtain ⟨ok3, hok3⟩ : ∃ b, (rdR (strB x2)).isSome = b := ⟨_, rfl⟩
    obtain ⟨ok4, hok4⟩ : ∃ b, (rdDec (strB x3)).isSome = b := ⟨_, rfl⟩
    have HRR : Hid (rdM (strB s) = if (ok1 && ok2 && ok3 && ok4) && vmach t then some t else none) := by
      simp only [Hid]
      rw [HRD.out, ← HSS.out]
      simp only [List.map_cons, List.map_nil]
      rw [hok1, hok2, hok3, hok4, ht]
    have K1 := Lib.hid (fun W => readS x0 b0 t.a hta ok1 hok1 W)
    have K2 := Lib.hid (fun W => readS x1 b1 t.b htb ok2 hok2 W)
    have K3 := Lib.hid (fun W => readS x2 b2 t.s hts ok3 hok3 W)
    have K4 := (fun W => l01Number_any x3 W (by omega))
    rw [htc, hok4] at K4
    have K4 := Lib.hid K4
    clear hl4 ht hta htb hts htc hok1 hok2 hok3 hok4
    have s0 := hK2.rowS_get (k := 0) (by simp)
    have s1 := hK2.rowS_get (k := 1) (by simp)
    have s2 := hK2.rowS_get (k := 2) (by simp)
    have s3 := hK2.rowS_get (k := 3) (by simp)
    simp only [List.getElem_cons_zero, List.getElem_cons_succ] at s0 s1 s2 s3
    clear s1 s2 s3
    go_wp2_with fail
    refine (K1.out _).mono ?_; rintro e w3 ⟨A1, c1, rfl, hK⟩
    have hK3 := hK2.join hK
    clear hK s0 d1 d2 d3
    have hK4 := (hK3.al [.int .i64 t.a.base, .slice A1 t.a.digits.length c1] 26)
    have hS := hK3.drop
    have s0 := hS.rowS_get (k := 0) (by simp)
    have s1 := hS.rowS_get (k := 1) (by simp)
    have s2 := hS.rowS_get (k := 2) (by simp)
    have s3 := hS.rowS_get (k := 3) (by simp)
    simp only [List.getElem_cons_zero, List.getElem_cons_succ] at s0 s1 s2 s3
    have hg3 : g < w3.heap.size := (World.ownsRow.lt hS.at0 g rfl).2
    clear s0 s2 s3
    go_wp2_with fail
    refine Calls.kn hK4 ?_; intro w4 hK5
    clear s1 hK4
    refine (K2.out _).mono ?_; rintro e w5 ⟨A2, c2, rfl, hK⟩
    have hK6 := hK5.join hK
    clear hK hS
    have hK7 := (hK6.al [.int .i64 t.b.base, .slice A2 t.b.digits.length c2] 26)
    have hS := hK6.drop.drop.drop
    have s0 := hS.rowS_get (k := 0) (by simp)
    have s1 := hS.rowS_get (k := 1) (by simp)
    have s2 := hS.rowS_get (k := 2) (by simp)
    have s3 := hS.rowS_get (k := 3) (by simp)
    simp only [List.getElem_cons_zero, List.getElem_cons_succ] at s0 s1 s2 s3
    have hg5 : g < w5.heap.size := (World.ownsRow.lt hS.at0 g rfl).2
    clear s0 s1 s3
    go_wp2_with fail
    refine Calls.kn hK7 ?_; intro w6 hK8
    clear s2 hK7
    refine (K3.out _).mono ?_; rintro e w7 ⟨A3, c3, rfl, hK⟩
    have hK9 := hK8.join hK
    clear hK hS
    have hK10 := (hK9.al [.int .i64 t.s.base, .slice A3 t.s.digits.length c3] 26)
    have hS := hK9.drop.drop.drop.drop.drop
    have s0 := hS.rowS_get (k := 0) (by simp)
    have s1 := hS.rowS_get (k := 1) (by simp)
    have s2 := hS.rowS_get (k := 2) (by simp)
    have s3 := hS.rowS_get (k := 3) (by simp)
    simp only [List.getElem_cons_zero, List.getElem_cons_succ] at s0 s1 s2 s3
    have hg7 : g < w7.heap.size := (World.ownsRow.lt hS.at0 g rfl).2
    clear s0 s1 s2
    go_wp2_with fail
    refine Calls.kn hK10 ?_; intro w8 hK11
    clear s3 hK10
    refine (K4.out _).mono ?_; rintro e w9 ⟨rfl, hw⟩
    have hK12 := hK11.keep hw
    clear hw hK11 hS
    obtain ⟨p1, p2, p3, q1, q2, q3, r1, r2, r3, d1, d2, d3, -⟩ := hK12.cells
    have hK13 := (((hK12.al [.int .i64 t.a.base, .slice A1 t.a.digits.length c1, .int .i64 t.b.base, .slice A2 t.b.digits.length c2, .int .i64 t.s.base, .slice A3 t.s.digits.length c3, .int .i64 t.carry] 91).drop1.drop2.drop3).sw4).drop
    cases ok1 with
    | false =>
      have HU := Lib.hid (rdm_none (bs := strB s) HRR.out)
      go_wp2_with (refine wpList.kn hK13 ?_; intro w10 hK14; clear p1 p2 p3 q1 q2 q3 r1 r2 r3 d1 d2 d3 hK12; obtain ⟨a1, a2, a3, d1, d2, d3, -⟩ := hK14.cells)
      refine bodyPost_ret (v := .tuple #[.agg #[.int .i64 0, .slice none 0 0, .int .i64 0, .slice none 0 0, .int .i64 0, .slice none 0 0, .int .i64 0], .bool false]) (by simp [results, Tryd.results61, go_sem, d1, d2, d3]) rfl ⟨none, 0, none, 0, none, 0, by rw [HU.out.1, HU.out.2]; rfl, ?_⟩
      rw [HU.out.1]
      exact ((((((((((hK14.sw4.st 0 (.int .i64 0)).st 1 (.slice none 0 0)).st 2 (.int .i64 0)).st 3 (.slice none 0 0)).st 4 (.int .i64 0)).st 5 (.slice none 0 0)).st 6 (.int .i64 0))).bare.nilRow _ _).nilRow _ _).nilRow _ _
    | true =>
    cases ok2 with
    | false =>
      have HU := Lib.hid (rdm_none (bs := strB s) HRR.out)
      go_wp2_with (refine wpList.kn hK13 ?_; intro w10 hK14; clear p1 p2 p3 q1 q2 q3 r1 r2 r3 d1 d2 d3 hK12; obtain ⟨a1, a2, a3, d1, d2, d3, -⟩ := hK14.cells)
      refine bodyPost_ret (v := .tuple #[.agg #[.int .i64 0, .slice none 0 0, .int .i64 0, .slice none 0 0, .int .i64 0, .slice none 0 0, .int .i64 0], .bool false]) (by simp [results, Tryd.results61, go_sem, d1, d2, d3]) rfl ⟨none, 0, none, 0, none, 0, by rw [HU.out.1, HU.out.2]; rfl, ?_⟩
      rw [HU.out.1]
      exact ((((((((((hK14.sw4.st 0 (.int .i64 0)).st 1 (.slice none 0 0)).st 2 (.int .i64 0)).st 3 (.slice none 0 0)).st 4 (.int .i64 0)).st 5 (.slice none 0 0)).st 6 (.int .i64 0))).bare.nilRow _ _).nilRow _ _).nilRow _ _
    | true =>
    cases ok3 with
    | false =>
      have HU := Lib.hid (rdm_none (bs := strB s) HRR.out)
      go_wp2_with (refine wpList.kn hK13 ?_; intro w10 hK14; clear p1 p2 p3 q1 q2 q3 r1 r2 r3 d1 d2 d3 hK12; obtain ⟨a1, a2, a3, d1, d2, d3, -⟩ := hK14.cells)
      refine bodyPost_ret (v := .tuple #[.agg #[.int .i64 0, .slice none 0 0, .int .i64 0, .slice none 0 0, .int .i64 0, .slice none 0 0, .int .i64 0], .bool false]) (by simp [results, Tryd.results61, go_sem, d1, d2, d3]) rfl ⟨none, 0, none, 0, none, 0, by rw [HU.out.1, HU.out.2]; rfl, ?_⟩
      rw [HU.out.1]
      exact ((((((((((hK14.sw4.st 0 (.int .i64 0)).st 1 (.slice none 0 0)).st 2 (.int .i64 0)).st 3 (.slice none 0 0)).st 4 (.int .i64 0)).st 5 (.slice none 0 0)).st 6 (.int .i64 0))).bare.nilRow _ _).nilRow _ _).nilRow _ _
    | true =>
    cases ok4 with
    | false =>
      have HU := Lib.hid (rdm_none (bs := strB s) HRR.out)
      go_wp2_with (refine wpList.kn hK13 ?_; intro w10 hK14; clear p1 p2 p3 q1 q2 q3 r1 r2 r3 d1 d2 d3 hK12; obtain ⟨a1, a2, a3, d1, d2, d3, -⟩ := hK14.cells)
      refine bodyPost_ret (v := .tuple #[.agg #[.int .i64 0, .slice none 0 0, .int .i64 0, .slice none 0 0, .int .i64 0, .slice none 0 0, .int .i64 0], .bool false]) (by simp [results, Tryd.results61, go_sem, d1, d2, d3]) rfl ⟨none, 0, none, 0, none, 0, by rw [HU.out.1, HU.out.2]; rfl, ?_⟩
      rw [HU.out.1]
      exact ((((((((((hK14.sw4.st 0 (.int .i64 0)).st 1 (.slice none 0 0)).st 2 (.int .i64 0)).st 3 (.slice none 0 0)).st 4 (.int .i64 0)).st 5 (.slice none 0 0)).st 6 (.int .i64 0))).bare.nilRow _ _).nilRow _ _).nilRow _ _
    | true =>
      go_wp2_with (refine wpList.kn hK13 ?_; intro w10 hK14; clear p1 p2 p3 q1 q2 q3 r1 r2 r3 d1 d2 d3 hK12; obtain ⟨a1, a2, a3, d1, d2, d3, -⟩ := hK14.cells)
      have KO := l10Ok_any ⟨w9.heap.size, 0, none⟩ t w10 (TriC.tri (TriC.of_block hK14.at0 hK14.drop.drop.drop.ownI.ri hK14.drop.drop.ownI.ri hK14.drop.ownI.ri)) ⟨by unfold SmallReg; omega, by unfold SmallReg; omega, by unfold SmallReg; omega⟩
      rcases hv : vmach t with _ | _
      · have HU := Lib.hid (rdm_none (bs := strB s) (by rw [HRR.out, hv]; rfl))
        rw [hv] at KO
        clear hv
        refine KO.mono ?_; rintro e w11 ⟨rfl, m, rfl⟩
        have hK16 := hK14.drewN m
        go_wp2_with fail
        refine bodyPost_ret (v := .tuple #[.agg #[.int .i64 0, .slice none 0 0, .int .i64 0, .slice none 0 0, .int .i64 0, .slice none 0 0, .int .i64 0], .bool false]) (by simp [results, Tryd.results61, go_sem, d1, d2, d3]) rfl ⟨none, 0, none, 0, none, 0, by rw [HU.out.1, HU.out.2]; rfl, ?_⟩
        rw [HU.out.1]
        exact ((((((((((hK16.sw4.st 0 (.int .i64 0)).st 1 (.slice none 0 0)).st 2 (.int .i64 0)).st 3 (.slice none 0 0)).st 4 (.int .i64 0)).st 5 (.slice none 0 0)).st 6 (.int .i64 0))).bare.nilRow _ _).nilRow _ _).nilRow _ _
      · have HU := Lib.hid (rdm_some (bs := strB s) (r := t) (by rw [HRR.out, hv]; rfl))
        rw [hv] at KO
        clear hv
        refine KO.mono ?_; rintro e w11 ⟨rfl, m, rfl⟩
        have hK16 := hK14.drewN m
        go_wp2_with fail
        have hK17 := (((((((hK16.sw4.st 0 (.int .i64 t.a.base)).st 1 (.slice A1 t.a.digits.length c1)).st 2 (.int .i64 t.b.base)).st 3 (.slice A2 t.b.digits.length c2)).st 4 (.int .i64 t.s.base)).st 5 (.slice A3 t.s.digits.length c3)).st 6 (.int .i64 t.carry))
        refine bodyPost_ret (v := .tuple #[.agg #[.int .i64 t.a.base, .slice A1 t.a.digits.length c1, .int .i64 t.b.base, .slice A2 t.b.digits.length c2, .int .i64 t.s.base, .slice A3 t.s.digits.length c3, .int .i64 t.carry], .bool true]) (by simp [results, Tryd.results61, go_sem, d1, d2, d3, a1, a2, a3]) rfl ⟨A1, c1, A2, c2, A3, c3, by rw [HU.out.1, HU.out.2], ?_⟩
        rw [HU.out.1]
        exact hK17.drop.drop
  · have HU := Lib.hid (rdm_none (bs := strB s) (HNO.out hl4))
    have k1 : ((ss.length : Int) != 4) = true := by rw [bne_iff_ne]; omega
    clear hl4
    go_wp2_with fail
    refine bodyPost_ret (v := .tuple #[.agg #[.int .i64 0, .slice none 0 0, .int .i64 0, .slice none 0 0, .int .i64 0, .slice none 0 0, .int .i64 0], .bool false]) (by simp [results, Tryd.results61, go_sem, d1, d2, d3]) rfl ⟨none, 0, none, 0, none, 0, by rw [HU.out.1, HU.out.2]; rfl, ?_⟩
    rw [HU.out.1]
    exact ((((((((((hK2.sw1.st 0 (.int .i64 0)).st 1 (.slice none 0 0)).st 2 (.int .i64 0)).st 3 (.slice none 0 0)).st 4 (.int .i64 0)).st 5 (.slice none 0 0)).st 6 (.int .i64 0))).bare.nilRow _ _).nilRow _ _).nilRow _ _
end Go.Proofs.YtcngeifkddhkmaaDoor
