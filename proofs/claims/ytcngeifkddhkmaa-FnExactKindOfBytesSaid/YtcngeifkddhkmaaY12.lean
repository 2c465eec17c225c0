import Derived.Test.YtcngeifkddhkmaaY11
namespace Go.Proofs.Ytcngeifkddhkmaa
open Go.RowKit Go.Sort
/-- a row of numbers that is owned -/
def rowI (A : Option Addr) (c : Nat) (ds : List Int) : Ent := .row (.slice A ds.length c) 2 1 ds.length (ds.map (Value.int .i64))
def zTri : Tri := ⟨⟨0, []⟩, ⟨0, []⟩, ⟨0, []⟩, 0⟩
/-- the machine of bytes -/
def unpM : List UInt8 → Option Tri
  | b0 :: p :: r0 => if vmach ⟨tkReg r0, tkReg (tkRest r0), tkReg (tkRest (tkRest r0)), p.toNat⟩ && decide (packM ⟨tkReg r0, tkReg (tkRest r0), tkReg (tkRest (tkRest r0)), p.toNat⟩ = (b0 :: p :: r0)) then some ⟨tkReg r0, tkReg (tkRest r0), tkReg (tkRest (tkRest r0)), p.toNat⟩ else none
  | _ => none
def unpMach (bs : List UInt8) : Tri := (unpM bs).getD zTri
def unpMCode (bs : List UInt8) : Int := if (unpM bs).isSome then 0 else 8
theorem unpM_none {bs : List UInt8} (h : unpM bs = none) : unpMach bs = zTri ∧ unpMCode bs = 8 := by simp [unpMach, unpMCode, h]
theorem unpM_some {bs : List UInt8} {r : Tri} (h : unpM bs = some r) : unpMach bs = r ∧ unpMCode bs = 0 := by simp [unpMach, unpMCode, h]
theorem tkRest_len (bs : List UInt8) : (tkRest bs).length ≤ bs.length := by
  cases bs with
  | nil => simp [tkRest]
  | cons b tl =>
    simp only [tkRest]
    split
    · rw [List.length_drop, List.length_cons]; omega
    · simp
theorem strB_cons2 {s : ByteArray} (h : 2 ≤ s.size) : ∃ h0 : 1 < s.size, strB s = s[0] :: s[1] :: (strB s).drop 2 := by
  refine ⟨by omega, ?_⟩
  have h1 := strB_cons (s := s) (by omega)
  have h2 : 1 < (strB s).length := by rw [strB_len]; omega
  have h3 := List.drop_eq_getElem_cons (l := strB s) (i := 1) h2
  rw [h3] at h1
  rw [strB_get s (show 1 < s.size by omega)]
  exact h1
theorem takeB (s : ByteArray) (bs : List UInt8) (hb : strB s = bs) (hl : bs.length ≤ 1048576) (R : Reg) (hR : tkReg bs = R) (rest : List UInt8) (hr : tkRest bs = rest) (ok : Bool) (ho : tkOk bs = ok) (w : World) :
    Calls Try.prog 128 #[.string s] w fun e w' => ∃ A c r, e = .returned (.tuple #[.agg #[.int .i64 R.base, .slice A R.digits.length c], .string r, .bool ok]) ∧ strB r = rest ∧ OwnI w' w.heap.size (.slice A R.digits.length c) R.digits ∧ Below w.heap.size w w' := by
  subst hb; subst hR; subst hr; subst ho
  exact takeRegister_any s w (by rw [← strB_len]; omega)
theorem eq3B (a b c : Bool) (w : World) : (Op.equalIn 10000 156 (.agg #[.bool a, .bool b, .bool c]) (.agg #[.bool true, .bool true, .bool true])).run Try.prog w = .ok (a && b && c) w := by
  cases a <;> cases b <;> cases c <;> kernel_rfl
set_option maxRecDepth 100000 in
set_option maxHeartbeats 3200000 in
theorem UnpackMachine_any (s : ByteArray) (w : World) (hs : s.size ≤ 1048576) :
    Calls Try.prog 68 #[.string s] w fun e w' => ∃ A1 c1 A2 c2 A3 c3, e = .returned (.tuple #[.agg #[.int .i64 (unpMach (strB s)).a.base, .slice A1 (unpMach (strB s)).a.digits.length c1, .int .i64 (unpMach (strB s)).b.base, .slice A2 (unpMach (strB s)).b.digits.length c2, .int .i64 (unpMach (strB s)).s.base, .slice A3 (unpMach (strB s)).s.digits.length c3, .int .i64 (unpMach (strB s)).carry], .int .i64 (unpMCode (strB s))]) ∧
      Kn w [rowI A3 c3 (unpMach (strB s)).s.digits, rowI A2 c2 (unpMach (strB s)).b.digits, rowI A1 c1 (unpMach (strB s)).a.digits] w' := by
  by_cases h0 : 2 ≤ s.size
  · obtain ⟨h1, hc⟩ := strB_cons2 h0
    obtain ⟨b0, hb0⟩ : ∃ b, s[0] = b := ⟨_, rfl⟩
    obtain ⟨p, hp⟩ : ∃ b, s[1] = b := ⟨_, rfl⟩
    obtain ⟨r0, hr0⟩ : ∃ l, (strB s).drop 2 = l := ⟨_, rfl⟩
    rw [hb0, hp, hr0] at hc
    have hl0 : r0.length ≤ 1048576 := by rw [← hr0, List.length_drop, strB_len]; omega
    have hx := strB_drop s 2
    rw [hr0] at hx
    obtain ⟨x0, hx0⟩ : ∃ x, s.extract 2 s.size = x := ⟨_, rfl⟩
    rw [hx0] at hx
    obtain ⟨t, ht⟩ : ∃ t : Tri, t = ⟨tkReg r0, tkReg (tkRest r0), tkReg (tkRest (tkRest r0)), p.toNat⟩ := ⟨_, rfl⟩
    have HU := Lib.hid (show unpM (strB s) = if vmach t && decide (packM t = b0 :: p :: r0) then some t else none by rw [hc, ht]; rfl)
    have hta : tkReg r0 = t.a := by rw [ht]
    have htb : tkReg (tkRest r0) = t.b := by rw [ht]
    have hts : tkReg (tkRest (tkRest r0)) = t.s := by rw [ht]
    have htc : (p.toNat : Int) = t.carry := by rw [ht]
    have n1 := tkReg_len r0; rw [hta] at n1
    have n2 := tkReg_len (tkRest r0); rw [htb] at n2
    have n3 := tkReg_len (tkRest (tkRest r0)); rw [hts] at n3
    obtain ⟨ok1, hok1⟩ : ∃ b, tkOk r0 = b := ⟨_, rfl⟩
    obtain ⟨ok2, hok2⟩ : ∃ b, tkOk (tkRest r0) = b := ⟨_, rfl⟩
    obtain ⟨ok3, hok3⟩ : ∃ b, tkOk (tkRest (tkRest r0)) = b := ⟨_, rfl⟩
    have HOK : Hid (vmach t = true → ok1 = true ∧ ok2 = true ∧ ok3 = true) := fun hv => by
      obtain ⟨q1, q2, q3, -⟩ := vmach_parts hv
      have z : ∀ bs, (tkReg bs).ok = true → tkOk bs = true := fun bs h => by
        rcases h2 : tkOk bs with _ | _
        · rw [tk_not h2] at h; cases h
        · rfl
      exact ⟨hok1 ▸ z _ (hta ▸ q1), hok2 ▸ z _ (htb ▸ q2), hok3 ▸ z _ (hts ▸ q3)⟩
    have K1 := Lib.hid (fun W => takeB x0 r0 hx hl0 t.a hta _ rfl ok1 hok1 W)
    have K2 := Lib.hid (fun x (hx : strB x = tkRest r0) W => takeB x _ hx (Nat.le_trans (tkRest_len _) hl0) t.b htb _ rfl ok2 hok2 W)
    have K3 := Lib.hid (fun x (hx : strB x = tkRest (tkRest r0)) W => takeB x _ hx (Nat.le_trans (tkRest_len _) (Nat.le_trans (tkRest_len _) hl0)) t.s hts _ rfl ok3 hok3 W)
    have HC := Lib.hid hc
    have HX := Lib.hid hx0
    have hi1 : (1 : Int) < (s.size : Int) := by omega
    have hi2 : (2 : Int) ≤ (s.size : Int) := by omega
    have hi3 : ¬ (s.size : Int) < 2 := by omega
    have hp2 : p.toNat < 256 := p.toNat_lt
    have HPC := Lib.hid htc
    clear hc hb0 hr0 hx ht hta htb hts hok1 hok2 hok3 hx0 htc
    go_enter Try.func68, Try.ntmps68
    go_upto_region 3 with fail
    go_cut [4, 5, 6] (fun mm rr oo wx => ∃ g1 g2, mm = .pointer (some ⟨g1, 0, none⟩) ∧ rr = .string x0 ∧ oo = .pointer (some ⟨g2, 0, none⟩) ∧
      Kn w [.blk g1 [.int .i64 0, .slice none 0 0, .int .i64 0, .slice none 0 0, .int .i64 0, .slice none 0 0, .int .i64 t.carry] 67, .blk g2 [.bool false, .bool false, .bool false] 156, .blk w.heap.size [.int .i64 0, .slice none 0 0, .int .i64 0, .slice none 0 0, .int .i64 0, .slice none 0 0, .int .i64 0] 67] wx)
    case first =>
      have hA0 := (Kn.nil w).al [.int .i64 0, .slice none 0 0, .int .i64 0, .slice none 0 0, .int .i64 0, .slice none 0 0, .int .i64 0] 67
      go_region
      all_goals
        go_wp2_with fail
        go_meet
        have hB := (((hA0.al [.int .i64 0, .slice none 0 0, .int .i64 0, .slice none 0 0, .int .i64 0, .slice none 0 0, .int .i64 t.carry] 67).al [.bool false, .bool false, .bool false] 156).sw1).drew
        have hC := ((hA0.al [.bool false, .bool false, .bool false] 156).al [.int .i64 0, .slice none 0 0, .int .i64 0, .slice none 0 0, .int .i64 0, .slice none 0 0, .int .i64 t.carry] 67).drew
        simp at hB hC
        rw [HPC.out, HX.out]
        first
          | exact ⟨_, _, rfl, rfl, rfl, hB⟩
          | exact ⟨_, _, rfl, rfl, rfl, hC⟩
    case rest =>
      obtain ⟨g1, g2, rfl, rfl, rfl, hK⟩ := hcut
      have hap := hK.apart
      simp [Ent.fp] at hap
      obtain ⟨⟨ne1, ne2⟩, ne3⟩ := hap
      obtain ⟨a1, a2, a3, b1, b2, b3, d1, d2, d3, -⟩ := hK.cells
      go_wp2_with fail
      refine (K1.out _).mono ?_; rintro e w3 ⟨A1, c1, y1, rfl, hy1, ho, hw⟩
      have hK1 := hK.addI hw ho
      clear hw ho a1 a2 a3 b1 b2 b3 d1 d2 d3 hK
      obtain ⟨a1, a2, a3, b1, b2, b3, d1, d2, d3, -⟩ := hK1.cells
      go_wp2_with fail
      refine Calls.kn (m := [.blk g2 [.bool ok1, .bool false, .bool false] 156, .blk g1 [.int .i64 t.a.base, .slice A1 t.a.digits.length c1, .int .i64 0, .slice none 0 0, .int .i64 0, .slice none 0 0, .int .i64 t.carry] 67, rowI A1 c1 t.a.digits, .blk w.heap.size [.int .i64 0, .slice none 0 0, .int .i64 0, .slice none 0 0, .int .i64 0, .slice none 0 0, .int .i64 0] 67]) (((hK1.sw1.st 0 _).st 1 _).sw2.st 0 _) ?_; intro w4 hK2
      clear a1 a2 a3 b1 b2 b3 d1 d2 d3 hK1
      refine (K2.out _ hy1 _).mono ?_; rintro e w5 ⟨A2, c2, y2, rfl, hy2, ho, hw⟩
      have hK3 := hK2.addI hw ho
      clear hw ho hK2
      obtain ⟨b1, b2, b3, a1, a2, a3, d1, d2, d3, -⟩ := hK3.cells
      go_wp2_with fail
      refine Calls.kn (m := [.blk g2 [.bool ok1, .bool ok2, .bool false] 156, .blk g1 [.int .i64 t.a.base, .slice A1 t.a.digits.length c1, .int .i64 t.b.base, .slice A2 t.b.digits.length c2, .int .i64 0, .slice none 0 0, .int .i64 t.carry] 67, rowI A2 c2 t.b.digits, rowI A1 c1 t.a.digits, .blk w.heap.size [.int .i64 0, .slice none 0 0, .int .i64 0, .slice none 0 0, .int .i64 0, .slice none 0 0, .int .i64 0] 67]) (((hK3.sw2.st 2 _).st 3 _).sw2.st 1 _) ?_; intro w6 hK4
      clear a1 a2 a3 b1 b2 b3 d1 d2 d3 hK3
      refine (K3.out _ hy2 _).mono ?_; rintro e w7 ⟨A3, c3, y3, rfl, hy3, ho, hw⟩
      have hK5 := hK4.addI hw ho
      clear hw ho hK4 hy1 hy2 hy3
      obtain ⟨b1, b2, b3, a1, a2, a3, d1, d2, d3, -⟩ := hK5.cells
      go_wp2_with (refine wpList.kn (m := [.blk g2 [.bool ok1, .bool ok2, .bool ok3] 156, .blk g1 [.int .i64 t.a.base, .slice A1 t.a.digits.length c1, .int .i64 t.b.base, .slice A2 t.b.digits.length c2, .int .i64 t.s.base, .slice A3 t.s.digits.length c3, .int .i64 t.carry] 67, rowI A3 c3 t.s.digits, rowI A2 c2 t.b.digits, rowI A1 c1 t.a.digits, .blk w.heap.size [.int .i64 0, .slice none 0 0, .int .i64 0, .slice none 0 0, .int .i64 0, .slice none 0 0, .int .i64 0] 67]) (((hK5.sw2.st 4 _).st 5 _).sw2.st 2 _) ?_; intro w8 hK6; clear a1 a2 a3 b1 b2 b3 d1 d2 d3; obtain ⟨b1, b2, b3, a1, a2, a3, d1, d2, d3, -⟩ := hK6.cells)
      clear a1 a2 a3 b1 b2 b3 d1 d2 d3 hK5 K1 K2 K3
      have r3 := hK6.drop.drop.ownI.ri
      have r2 := hK6.drop.drop.drop.ownI.ri
      have r1 := hK6.drop.drop.drop.drop.ownI.ri
      rcases hv : vmach t with _ | _
      · have HU := Lib.hid (unpM_none (bs := strB s) (by rw [HU.out, hv]; rfl))
        have KP := Lib.hid (PackMachine_false t A1 A2 A3 c1 c2 c3 w8 r1 r2 r3 ⟨by unfold SmallReg; omega, by unfold SmallReg; omega, by unfold SmallReg; omega⟩ hv)
        clear r1 r2 r3 hv HOK
        refine KP.out.mono ?_; rintro e w9 ⟨rfl, hw⟩
        have hK7 := hK6.keep hw
        clear hw hK6 KP
        obtain ⟨b1, b2, b3, a1, a2, a3, d1, d2, d3, -⟩ := hK7.cells
        have HE3 := fun W => eq3B ok1 ok2 ok3 W
        cases ok1 <;> cases ok2 <;> cases ok3
        all_goals
          go_wp2_with fail
          refine bodyPost_ret (v := .tuple #[.agg #[.int .i64 0, .slice none 0 0, .int .i64 0, .slice none 0 0, .int .i64 0, .slice none 0 0, .int .i64 0], .int .i64 8]) (by simp [results, Try.results68, go_sem, d1, d2, d3]) rfl ⟨none, 0, none, 0, none, 0, by rw [HU.out.1, HU.out.2]; rfl, ?_⟩
          rw [HU.out.1]
          exact (((((((((hK7.sw5.st 0 (.int .i64 0)).st 1 (.slice none 0 0)).st 2 (.int .i64 0)).st 3 (.slice none 0 0)).st 4 (.int .i64 0)).st 5 (.slice none 0 0)).st 6 (.int .i64 0)).bare.nilRow _ _).nilRow _ _).nilRow _ _
      · obtain ⟨rfl, rfl, rfl⟩ := HOK.out hv
        have KP := Lib.hid (PackMachine_true t A1 A2 A3 c1 c2 c3 w8 r1 r2 r3 hv)
        have HV := Lib.hid hv
        clear r1 r2 r3 hv HOK
        refine KP.out.mono ?_; rintro e w9 ⟨rfl, hw⟩
        have hK7 := hK6.keep hw
        clear hw hK6 KP
        obtain ⟨b1, b2, b3, a1, a2, a3, d1, d2, d3, -⟩ := hK7.cells
        have HE3 := fun W => eq3B true true true W
        rcases hq : (packM t == s.toList) with _ | _
        · have HU := Lib.hid (unpM_none (bs := strB s) (by rw [HU.out, HV.out]; rw [strB_toList, HC.out, beq_eq_false_iff_ne] at hq; simp [hq]))
          go_wp2_with fail
          refine bodyPost_ret (v := .tuple #[.agg #[.int .i64 0, .slice none 0 0, .int .i64 0, .slice none 0 0, .int .i64 0, .slice none 0 0, .int .i64 0], .int .i64 8]) (by simp [results, Try.results68, go_sem, d1, d2, d3]) rfl ⟨none, 0, none, 0, none, 0, by rw [HU.out.1, HU.out.2]; rfl, ?_⟩
          rw [HU.out.1]
          exact (((((((((hK7.sw5.st 0 (.int .i64 0)).st 1 (.slice none 0 0)).st 2 (.int .i64 0)).st 3 (.slice none 0 0)).st 4 (.int .i64 0)).st 5 (.slice none 0 0)).st 6 (.int .i64 0)).bare.nilRow _ _).nilRow _ _).nilRow _ _
        · have HU := Lib.hid (unpM_some (bs := strB s) (r := t) (by rw [HU.out, HV.out]; rw [strB_toList, HC.out, beq_iff_eq] at hq; simp [hq]))
          go_wp2_with fail
          have hK8 := (((((((hK7.sw5.st 0 (.int .i64 t.a.base)).st 1 (.slice A1 t.a.digits.length c1)).st 2 (.int .i64 t.b.base)).st 3 (.slice A2 t.b.digits.length c2)).st 4 (.int .i64 t.s.base)).st 5 (.slice A3 t.s.digits.length c3)).st 6 (.int .i64 t.carry))
          refine bodyPost_ret (v := .tuple #[.agg #[.int .i64 t.a.base, .slice A1 t.a.digits.length c1, .int .i64 t.b.base, .slice A2 t.b.digits.length c2, .int .i64 t.s.base, .slice A3 t.s.digits.length c3, .int .i64 t.carry], .int .i64 0]) (by simp [results, Try.results68, go_sem, d1, d2, d3]) rfl ⟨A1, c1, A2, c2, A3, c3, by rw [HU.out.1, HU.out.2], ?_⟩
          rw [HU.out.1]
          exact hK8.drop.drop.drop
  · have HU := Lib.hid (unpM_none (bs := strB s) (by
      have hl := strB_len s
      cases h : strB s with
      | nil => rfl
      | cons a l =>
        cases l with
        | nil => rfl
        | cons b l => rw [h] at hl; simp at hl; omega))
    have hi3 : (s.size : Int) < 2 := by omega
    go_enter Try.func68, Try.ntmps68
    go_wp2_with fail
    have hK := (Kn.nil w).al [.int .i64 0, .slice none 0 0, .int .i64 0, .slice none 0 0, .int .i64 0, .slice none 0 0, .int .i64 0] 67
    have d1 : True := trivial
    have d2 : True := trivial
    have d3 : True := trivial
    refine bodyPost_ret (v := .tuple #[.agg #[.int .i64 0, .slice none 0 0, .int .i64 0, .slice none 0 0, .int .i64 0, .slice none 0 0, .int .i64 0], .int .i64 8]) (by simp [results, Try.results68, go_sem, d1, d2, d3]) rfl ⟨none, 0, none, 0, none, 0, by rw [HU.out.1, HU.out.2]; rfl, ?_⟩
    rw [HU.out.1]
    exact ((hK.bare.nilRow _ _).nilRow _ _).nilRow _ _
end Go.Proofs.Ytcngeifkddhkmaa
