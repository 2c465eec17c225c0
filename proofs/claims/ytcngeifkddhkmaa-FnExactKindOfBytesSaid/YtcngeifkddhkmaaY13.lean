import Derived.Test.YtcngeifkddhkmaaY12
import Derived.Test.YtcngeifkddhkmaaM3
namespace Go.Proofs.Ytcngeifkddhkmaa
open Go.RowKit Go.Sort
theorem toB_nat (p : UInt8) : toB (p.toNat : Int) = p := toB_byte p _ rfl
theorem unpM_spec (bs : List UInt8) (p : UInt8) (l : List UInt8) (hb : bodyOk 77 bs = true) (hl : bodyB 77 bs = p :: l) :
    unpM bs = if tkFine l && tkFine (tkRest l) && tkFine (tkRest (tkRest l)) && (tkRest (tkRest (tkRest l))).isEmpty && vmach ⟨tkReg l, tkReg (tkRest l), tkReg (tkRest (tkRest l)), p.toNat⟩ then some ⟨tkReg l, tkReg (tkRest l), tkReg (tkRest (tkRest l)), p.toNat⟩ else none := by
  have hbs := (body_iff 77 bs).1 hb
  rw [hl] at hbs
  obtain ⟨more, hmore⟩ : ∃ more, more = [UInt8.ofNat (sumB (77 :: p :: l) / 256).toNat, UInt8.ofNat (sumB (77 :: p :: l) % 256).toNat] := ⟨_, rfl⟩
  have hbs2 : bs = 77 :: p :: (l ++ more) := by rw [hbs, hmore]; rfl
  by_cases h : (tkFine l && tkFine (tkRest l) && tkFine (tkRest (tkRest l)) && (tkRest (tkRest (tkRest l))).isEmpty && vmach ⟨tkReg l, tkReg (tkRest l), tkReg (tkRest (tkRest l)), p.toNat⟩) = true
  · rw [if_pos h]
    simp only [Bool.and_eq_true] at h
    obtain ⟨⟨⟨⟨h1, h2⟩, h3⟩, h4⟩, h5⟩ := h
    have e1 := tk_bytes h1
    have e2 := tk_bytes h2
    have e3 := tk_bytes h3
    rw [List.isEmpty_iff.1 h4, List.append_nil] at e3
    obtain ⟨-, m1, m2⟩ := tk_more l more (tkFine_ok h1)
    obtain ⟨-, m3, m4⟩ := tk_more (tkRest l) more (tkFine_ok h2)
    obtain ⟨-, m5, -⟩ := tk_more (tkRest (tkRest l)) more (tkFine_ok h3)
    have hp : packM ⟨tkReg l, tkReg (tkRest l), tkReg (tkRest (tkRest l)), p.toNat⟩ = bs := by
      unfold packM
      simp only []
      rw [← e3, List.append_assoc, ← e2, ← e1, toB_nat]; exact hbs.symm
    rw [hbs2]
    simp only [unpM]
    rw [m1, m2, m3, m4, m5, ← hbs2, hp, h5]; simp
  · rw [if_neg h, hbs2]
    simp only [unpM]
    rw [if_neg]
    intro h2
    simp only [Bool.and_eq_true, decide_eq_true_eq] at h2
    obtain ⟨h3, h4⟩ := h2
    apply h
    obtain ⟨t, ht⟩ : ∃ t : Tri, (⟨tkReg (l ++ more), tkReg (tkRest (l ++ more)), tkReg (tkRest (tkRest (l ++ more))), p.toNat⟩ : Tri) = t := ⟨_, rfl⟩
    have hc : t.carry = p.toNat := by rw [← ht]
    rw [ht] at h3 h4
    rw [← hbs2] at h4
    obtain ⟨k1, k2, k3, -⟩ := vmach_parts h3
    have hl2 : l = regB t.a.base t.a.digits ++ (regB t.b.base t.b.digits ++ (regB t.s.base t.s.digits ++ [])) := by
      rw [hbs] at h4
      have h5 := sealB_inj h4
      injection h5 with _ h5
      injection h5 with _ h5
      rw [List.append_nil, ← List.append_assoc]; exact h5.symm
    obtain ⟨-, q2, q3, q4⟩ := tk_regB t.a.base t.a.digits (regB t.b.base t.b.digits ++ (regB t.s.base t.s.digits ++ [])) k1
    obtain ⟨-, r2, r3, r4⟩ := tk_regB t.b.base t.b.digits (regB t.s.base t.s.digits ++ []) k2
    obtain ⟨-, s2, s3, s4⟩ := tk_regB t.s.base t.s.digits [] k3
    rw [hl2, q2, q3, q4, r2, r3, r4, s2, s3, s4, ← hc]
    simp only [Bool.and_eq_true]
    simp
    exact h3
theorem unpM_not (bs : List UInt8) (h : bodyOk 77 bs = false ∨ bodyB 77 bs = []) : unpM bs = none := by
  match bs with
  | [] => rfl
  | [_] => rfl
  | b0 :: p :: r0 =>
    simp only [unpM]
    rw [if_neg]
    intro h2
    simp only [Bool.and_eq_true, decide_eq_true_eq] at h2
    obtain ⟨-, h4⟩ := h2
    rw [← h4] at h
    unfold packM at h
    obtain ⟨k1, k2⟩ := body_of 77 (toB (⟨tkReg r0, tkReg (tkRest r0), tkReg (tkRest (tkRest r0)), p.toNat⟩ : Tri).carry :: (regB (tkReg r0).base (tkReg r0).digits ++ regB (tkReg (tkRest r0)).base (tkReg (tkRest r0)).digits ++ regB (tkReg (tkRest (tkRest r0))).base (tkReg (tkRest (tkRest r0))).digits))
    simp only [] at h k1 k2
    rcases h with h | h
    · rw [k1] at h; cases h
    · rw [k2] at h; cases h
theorem takeS (s : ByteArray) (bs : List UInt8) (hb : strB s = bs) (hl : bs.length ≤ 1048576) (R : Reg) (hR : tkReg bs = R) (rest : List UInt8) (hr : tkRest bs = rest) (ok : Bool) (ho : tkFine bs = ok) (w : World) :
    Calls Try.prog 124 #[.string s] w fun e w' => ∃ A c r, e = .returned (.tuple #[.agg #[.int .i64 R.base, .slice A R.digits.length c], .string r, .bool ok]) ∧ strB r = rest ∧ OwnI w' w.heap.size (.slice A R.digits.length c) R.digits ∧ Below w.heap.size w w' := by
  subst hb; subst hR; subst hr; subst ho
  exact l27Register_any s w (by rw [← strB_len]; omega)
set_option maxRecDepth 100000 in
set_option maxHeartbeats 3200000 in
theorem specUnpackMachine_any (s : ByteArray) (w : World) (hs : s.size ≤ 1048576) :
    Calls Try.prog 65 #[.string s] w fun e w' => ∃ A1 c1 A2 c2 A3 c3, e = .returned (.tuple #[.agg #[.int .i64 (unpMach (strB s)).a.base, .slice A1 (unpMach (strB s)).a.digits.length c1, .int .i64 (unpMach (strB s)).b.base, .slice A2 (unpMach (strB s)).b.digits.length c2, .int .i64 (unpMach (strB s)).s.base, .slice A3 (unpMach (strB s)).s.digits.length c3, .int .i64 (unpMach (strB s)).carry], .int .i64 (unpMCode (strB s))]) ∧
      Kn w [rowI A3 c3 (unpMach (strB s)).s.digits, rowI A2 c2 (unpMach (strB s)).b.digits, rowI A1 c1 (unpMach (strB s)).a.digits] w' := by
  have HS := Lib.hid (unpM_spec (strB s))
  have HN := Lib.hid (unpM_not (strB s))
  have hbl : (bodyB 77 (strB s)).length ≤ 1048576 := by
    unfold bodyB; have := strB_len s
    split
    · rw [List.length_take, List.length_drop]; omega
    · simp
  have KB := fun W => l27Body_any s 77 W hs
  obtain ⟨ok, hok⟩ : ∃ b, bodyOk 77 (strB s) = b := ⟨_, rfl⟩
  obtain ⟨body, hbd⟩ : ∃ b, bodyB 77 (strB s) = b := ⟨_, rfl⟩
  rw [hok, hbd] at HS HN KB
  rw [hbd] at hbl
  have KB := Lib.hid KB
  clear hok hbd
  go_enter Try.func65, Try.ntmps65
  go_wp2_with fail
  refine Calls.kn ((Kn.nil w).al [.int .i64 0, .slice none 0 0, .int .i64 0, .slice none 0 0, .int .i64 0, .slice none 0 0, .int .i64 0] 67) ?_; intro w1 hK1
  refine (KB.out w1).mono ?_; rintro e w2 ⟨r, rfl, hr, hw⟩
  have hK2 := hK1.keep hw
  obtain ⟨d1, d2, d3, -⟩ := hK2.cells
  clear hw hK1
  cases ok with
  | false =>
    have HU := Lib.hid (unpM_none (HN.out (.inl rfl)))
    go_wp2_with fail
    refine bodyPost_ret (v := .tuple #[.agg #[.int .i64 0, .slice none 0 0, .int .i64 0, .slice none 0 0, .int .i64 0, .slice none 0 0, .int .i64 0], .int .i64 8]) (by simp [results, Try.results65, go_sem, d1, d2, d3]) rfl ⟨none, 0, none, 0, none, 0, by rw [HU.out.1, HU.out.2]; rfl, ?_⟩
    rw [HU.out.1]
    exact (((((((((hK2.st 0 (.int .i64 0)).st 1 (.slice none 0 0)).st 2 (.int .i64 0)).st 3 (.slice none 0 0)).st 4 (.int .i64 0)).st 5 (.slice none 0 0)).st 6 (.int .i64 0)).bare.nilRow _ _).nilRow _ _).nilRow _ _
  | true =>
    cases hbc : body with
    | nil =>
      have HU := Lib.hid (unpM_none (HN.out (.inr hbc)))
      have hem : r.toList.isEmpty = true := by rw [strB_toList, hr, hbc]; rfl
      clear hbc
      go_wp2_with fail
      refine bodyPost_ret (v := .tuple #[.agg #[.int .i64 0, .slice none 0 0, .int .i64 0, .slice none 0 0, .int .i64 0, .slice none 0 0, .int .i64 0], .int .i64 8]) (by simp [results, Try.results65, go_sem, d1, d2, d3]) rfl ⟨none, 0, none, 0, none, 0, by rw [HU.out.1, HU.out.2]; rfl, ?_⟩
      rw [HU.out.1]
      exact (((((((((hK2.st 0 (.int .i64 0)).st 1 (.slice none 0 0)).st 2 (.int .i64 0)).st 3 (.slice none 0 0)).st 4 (.int .i64 0)).st 5 (.slice none 0 0)).st 6 (.int .i64 0)).bare.nilRow _ _).nilRow _ _).nilRow _ _
    | cons p l =>
      have hem : r.toList.isEmpty = false := by rw [strB_toList, hr, hbc]; rfl
      have HS := Lib.hid (HS.out p l rfl hbc)
      rw [hbc] at hr hbl
      have hrs : 0 < r.size := by rw [← strB_len, hr]; simp
      have hr1 : r[0] = p := by have h := strB_cons hrs; rw [hr] at h; injection h with h _; exact h.symm
      obtain ⟨x0, hx0⟩ : ∃ x, r.extract 1 r.size = x := ⟨_, rfl⟩
      have hx : strB x0 = l := by rw [← hx0, strB_tail, hr]; rfl
      have hl0 : l.length ≤ 1048576 := by simp at hbl; omega
      obtain ⟨t, ht⟩ : ∃ t : Tri, (⟨tkReg l, tkReg (tkRest l), tkReg (tkRest (tkRest l)), p.toNat⟩ : Tri) = t := ⟨_, rfl⟩
      have hta : tkReg l = t.a := by rw [← ht]
      have htb : tkReg (tkRest l) = t.b := by rw [← ht]
      have hts : tkReg (tkRest (tkRest l)) = t.s := by rw [← ht]
      have htc : (p.toNat : Int) = t.carry := by rw [← ht]
      have n1 := tkReg_len l; rw [hta] at n1
      have n2 := tkReg_len (tkRest l); rw [htb] at n2
      have n3 := tkReg_len (tkRest (tkRest l)); rw [hts] at n3
      have HS := HS.out
      rw [ht] at HS
      obtain ⟨ok1, hok1⟩ : ∃ b, tkFine l = b := ⟨_, rfl⟩
      obtain ⟨ok2, hok2⟩ : ∃ b, tkFine (tkRest l) = b := ⟨_, rfl⟩
      obtain ⟨ok3, hok3⟩ : ∃ b, tkFine (tkRest (tkRest l)) = b := ⟨_, rfl⟩
      obtain ⟨third, hth⟩ : ∃ b, tkRest (tkRest (tkRest l)) = b := ⟨_, rfl⟩
      rw [hok1, hok2, hok3, hth] at HS
      have HS := Lib.hid HS
      have K1 := Lib.hid (fun W => takeS x0 l hx hl0 t.a hta _ rfl ok1 hok1 W)
      have K2 := Lib.hid (fun x (hx : strB x = tkRest l) W => takeS x _ hx (Nat.le_trans (tkRest_len _) hl0) t.b htb _ rfl ok2 hok2 W)
      have K3 := Lib.hid (fun x (hx : strB x = tkRest (tkRest l)) W => takeS x _ hx (Nat.le_trans (tkRest_len _) (Nat.le_trans (tkRest_len _) hl0)) t.s hts third hth ok3 hok3 W)
      have HX := Lib.hid hx0
      have hi1 : (1 : Int) ≤ (r.size : Int) := by omega
      have hi0 : (0 : Int) < (r.size : Int) := by omega
      have HTC := Lib.hid htc
      have hp2 : p.toNat < 256 := p.toNat_lt
      clear hbc hr hx ht hta htb hts hok1 hok2 hok3 hth hx0 htc hbl
      go_wp2_with fail
      rw [HX.out]
      refine (K1.out _).mono ?_; rintro e w3 ⟨A1, c1, y1, rfl, hy1, ho, hw⟩
      have hK3 := hK2.addI hw ho
      clear hw ho d1 d2 d3 hK2
      obtain ⟨d1, d2, d3, -⟩ := hK3.cells
      go_wp2_with (first | (refine wpList.kn (hK3.al [.int .i64 0, .slice none 0 0] 26) ?_; intro w4 hK4; obtain ⟨a1, a2, a3, -⟩ := hK4.cells) | (refine wpList.kn ((hK4.st 0 _).st 1 _) ?_; intro w5 hK5; clear hK4 hK3 a1 a2 a3))
      refine (K2.out _ hy1 _).mono ?_; rintro e w6 ⟨A2, c2, y2, rfl, hy2, ho, hw⟩
      have hK6 := hK5.addI hw ho
      clear hw ho d1 d2 d3 hK5
      go_wp2_with (first | (refine wpList.kn (hK6.al [.int .i64 0, .slice none 0 0] 26) ?_; intro w7 hK7; obtain ⟨a1, a2, a3, -⟩ := hK7.cells) | (refine wpList.kn ((hK7.st 0 _).st 1 _) ?_; intro w8 hK8; clear hK7 hK6 a1 a2 a3))
      refine (K3.out _ hy2 _).mono ?_; rintro e w9 ⟨A3, c3, y3, rfl, hy3, ho, hw⟩
      have hK9 := hK8.addI hw ho
      clear hw ho hK8
      go_upto_region 7 with (first | (refine wpList.kn (hK9.al [.int .i64 0, .slice none 0 0] 26) ?_; intro w10 hK10; obtain ⟨a1, a2, a3, -⟩ := hK10.cells) | (refine wpList.kn ((hK10.st 0 _).st 1 _) ?_; intro w11 hK11; clear hK10 hK9 a1 a2 a3))
      obtain ⟨p1, p2, p3, q1, q2, q3, s1, s2, s3, d1, d2, d3, -⟩ := hK11.cells
      go_cut [15] (fun mm wx => ∃ g, mm = .pointer (some ⟨g, 0, none⟩) ∧ Kn w [.blk g [.int .i64 t.a.base, .slice A1 t.a.digits.length c1, .int .i64 t.b.base, .slice A2 t.b.digits.length c2, .int .i64 t.s.base, .slice A3 t.s.digits.length c3, .int .i64 t.carry] 67, rowI A3 c3 t.s.digits, rowI A2 c2 t.b.digits, rowI A1 c1 t.a.digits, .blk w.heap.size [.int .i64 0, .slice none 0 0, .int .i64 0, .slice none 0 0, .int .i64 0, .slice none 0 0, .int .i64 0] 67] wx)
      case first =>
        have hA := ((hK11.al [.int .i64 t.a.base, .slice A1 t.a.digits.length c1, .int .i64 t.b.base, .slice A2 t.b.digits.length c2, .int .i64 t.s.base, .slice A3 t.s.digits.length c3, .int .i64 t.carry] 67).drop1.drop2.drop3).drew
        go_region
        all_goals
          go_wp2_with fail
          go_meet
          rw [HTC.out]
          exact ⟨_, rfl, hA⟩
      case rest =>
        obtain ⟨g, rfl, hK12⟩ := hcut
        clear p1 p2 p3 q1 q2 q3 s1 s2 s3 d1 d2 d3 hK11 K1 K2 K3
        obtain ⟨a1, a2, a3, d1, d2, d3, -⟩ := hK12.cells
        have hem3 : y3.toList.isEmpty = third.isEmpty := by rw [strB_toList, hy3]
        cases ok1 with
        | false =>
          have HU := Lib.hid (unpM_none (HS.out))
          go_wp2_with fail
          refine bodyPost_ret (v := .tuple #[.agg #[.int .i64 0, .slice none 0 0, .int .i64 0, .slice none 0 0, .int .i64 0, .slice none 0 0, .int .i64 0], .int .i64 8]) (by simp [results, Try.results65, go_sem, d1, d2, d3]) rfl ⟨none, 0, none, 0, none, 0, by rw [HU.out.1, HU.out.2]; rfl, ?_⟩
          rw [HU.out.1]
          exact (((((((((hK12.sw4.st 0 (.int .i64 0)).st 1 (.slice none 0 0)).st 2 (.int .i64 0)).st 3 (.slice none 0 0)).st 4 (.int .i64 0)).st 5 (.slice none 0 0)).st 6 (.int .i64 0)).bare.nilRow _ _).nilRow _ _).nilRow _ _
        | true =>
        cases ok2 with
        | false =>
          have HU := Lib.hid (unpM_none (HS.out))
          go_wp2_with fail
          refine bodyPost_ret (v := .tuple #[.agg #[.int .i64 0, .slice none 0 0, .int .i64 0, .slice none 0 0, .int .i64 0, .slice none 0 0, .int .i64 0], .int .i64 8]) (by simp [results, Try.results65, go_sem, d1, d2, d3]) rfl ⟨none, 0, none, 0, none, 0, by rw [HU.out.1, HU.out.2]; rfl, ?_⟩
          rw [HU.out.1]
          exact (((((((((hK12.sw4.st 0 (.int .i64 0)).st 1 (.slice none 0 0)).st 2 (.int .i64 0)).st 3 (.slice none 0 0)).st 4 (.int .i64 0)).st 5 (.slice none 0 0)).st 6 (.int .i64 0)).bare.nilRow _ _).nilRow _ _).nilRow _ _
        | true =>
        cases ok3 with
        | false =>
          have HU := Lib.hid (unpM_none (HS.out))
          go_wp2_with fail
          refine bodyPost_ret (v := .tuple #[.agg #[.int .i64 0, .slice none 0 0, .int .i64 0, .slice none 0 0, .int .i64 0, .slice none 0 0, .int .i64 0], .int .i64 8]) (by simp [results, Try.results65, go_sem, d1, d2, d3]) rfl ⟨none, 0, none, 0, none, 0, by rw [HU.out.1, HU.out.2]; rfl, ?_⟩
          rw [HU.out.1]
          exact (((((((((hK12.sw4.st 0 (.int .i64 0)).st 1 (.slice none 0 0)).st 2 (.int .i64 0)).st 3 (.slice none 0 0)).st 4 (.int .i64 0)).st 5 (.slice none 0 0)).st 6 (.int .i64 0)).bare.nilRow _ _).nilRow _ _).nilRow _ _
        | true =>
        rcases he : third.isEmpty with _ | _
        · have HU := Lib.hid (unpM_none (bs := strB s) (by rw [HS.out, he]; rfl))
          rw [he] at hem3
          clear he
          go_wp2_with fail
          refine bodyPost_ret (v := .tuple #[.agg #[.int .i64 0, .slice none 0 0, .int .i64 0, .slice none 0 0, .int .i64 0, .slice none 0 0, .int .i64 0], .int .i64 8]) (by simp [results, Try.results65, go_sem, d1, d2, d3]) rfl ⟨none, 0, none, 0, none, 0, by rw [HU.out.1, HU.out.2]; rfl, ?_⟩
          rw [HU.out.1]
          exact (((((((((hK12.sw4.st 0 (.int .i64 0)).st 1 (.slice none 0 0)).st 2 (.int .i64 0)).st 3 (.slice none 0 0)).st 4 (.int .i64 0)).st 5 (.slice none 0 0)).st 6 (.int .i64 0)).bare.nilRow _ _).nilRow _ _).nilRow _ _
        · rw [he] at hem3
          have r3 := hK12.drop.ownI.ri
          have r2 := hK12.drop.drop.ownI.ri
          have r1 := hK12.drop.drop.drop.ownI.ri
          have KO := l10Ok_any ⟨g, 0, none⟩ t wc (TriC.tri (TriC.of_block hK12.at0 r1 r2 r3)) ⟨by unfold SmallReg; omega, by unfold SmallReg; omega, by unfold SmallReg; omega⟩
          rcases hv : vmach t with _ | _
          · have HU := Lib.hid (unpM_none (bs := strB s) (by rw [HS.out, he, hv]; rfl))
            rw [hv] at KO
            have KO := Lib.hid KO
            clear he hv r1 r2 r3
            go_wp2_with fail
            refine KO.out.mono ?_; rintro e w13 ⟨rfl, m, rfl⟩
            have hK13 := hK12.drewN m
            go_wp2_with fail
            refine bodyPost_ret (v := .tuple #[.agg #[.int .i64 0, .slice none 0 0, .int .i64 0, .slice none 0 0, .int .i64 0, .slice none 0 0, .int .i64 0], .int .i64 8]) (by simp [results, Try.results65, go_sem, d1, d2, d3]) rfl ⟨none, 0, none, 0, none, 0, by rw [HU.out.1, HU.out.2]; rfl, ?_⟩
            rw [HU.out.1]
            exact (((((((((hK13.sw4.st 0 (.int .i64 0)).st 1 (.slice none 0 0)).st 2 (.int .i64 0)).st 3 (.slice none 0 0)).st 4 (.int .i64 0)).st 5 (.slice none 0 0)).st 6 (.int .i64 0)).bare.nilRow _ _).nilRow _ _).nilRow _ _
          · have HU := Lib.hid (unpM_some (bs := strB s) (r := t) (by rw [HS.out, he, hv]; rfl))
            rw [hv] at KO
            have KO := Lib.hid KO
            clear he hv r1 r2 r3
            go_wp2_with fail
            refine KO.out.mono ?_; rintro e w13 ⟨rfl, m, rfl⟩
            have hK13 := (hK12.drewN m).sw4
            go_wp2_with fail
            have hK14 := (((((((hK13.st 0 (.int .i64 t.a.base)).st 1 (.slice A1 t.a.digits.length c1)).st 2 (.int .i64 t.b.base)).st 3 (.slice A2 t.b.digits.length c2)).st 4 (.int .i64 t.s.base)).st 5 (.slice A3 t.s.digits.length c3)).st 6 (.int .i64 t.carry))
            refine bodyPost_ret (v := .tuple #[.agg #[.int .i64 t.a.base, .slice A1 t.a.digits.length c1, .int .i64 t.b.base, .slice A2 t.b.digits.length c2, .int .i64 t.s.base, .slice A3 t.s.digits.length c3, .int .i64 t.carry], .int .i64 0]) (by simp [results, Try.results65, go_sem, d1, d2, d3]) rfl ⟨A1, c1, A2, c2, A3, c3, by rw [HU.out.1, HU.out.2], ?_⟩
            rw [HU.out.1]
            exact hK14.drop.drop
end Go.Proofs.Ytcngeifkddhkmaa
