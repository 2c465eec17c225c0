/- Part 8: lemmas and contracts of the claim's functions. -/
import Derived.Test.YtafnebpbfmbgiaaGreatDoorZC1
import Derived.Test.YtafnebpbfmbgiaaGreatDoorZC2
import Derived.Test.YtafnebpbfmbgiaaGreatDoorZC3
import Derived.Test.YtafnebpbfmbgiaaGreatDoorZC4
import Derived.Test.YtafnebpbfmbgiaaGreatDoorZC5
import Derived.Test.YtafnebpbfmbgiaaGreatDoorZC6
import Derived.Test.YtafnebpbfmbgiaaGreatDoorZC7
import Derived.WalkSmall
import Derived.Laws.Bits64b
namespace Go.Proofs.YtafnebpbfmbgiaaGreatDoor
open Go.RowKit Go.Sort
theorem kn_push2S {ops : Array Oper} {rest : List Oper} {o : Oper} {a : Act} {Q : Exit → Act → World → Prop} {w0 w : World} {m : List Ent} (hgd : o.guard = none) (s x : Operand) (ho : o.op = .call { callee := .builtin .append, args := #[s, x], argTypes := #[24, 24] })
    (v : Value) (ss : List ByteArray) (hs : a.eval s = v) {g c : Nat} {T' : TypeId} {y z : ByteArray} (hx : a.eval x = .slice (some ⟨g, 0, none⟩) 2 c)
    (hK : Kn w0 (.blk g [.string y, .string z] T' :: rowS v ss :: m) w) (hl : ss.length ≤ 10000000)
    (h : ∀ v' w', Kn w0 (rowS v' (ss ++ [y, z]) :: m) w' → wpList Tryz.prog ops Q rest (a.put o.dst v') w') : wpList Tryz.prog ops Q (o :: rest) a w := by
  refine kn_app tpS hgd s x ho v ss.length (ss.map Value.string) hs hx hK rfl (by simp [Value.oneCell']) (by omega) (by omega) (fun v' w' hK' => h v' w' ?_)
  unfold rowS
  rw [List.length_append, List.map_append, List.map_cons, List.map_cons, List.map_nil]
  exact hK'
set_option maxRecDepth 100000 in
set_option maxHeartbeats 6400000 in
theorem RecordSession_any {L : List Ins} {n lc : Nat} {LA : Option Addr} (t : Tri) (A1 A2 A3 : Option Addr) (c1 c2 c3 : Nat) (w : World) (r1 : RI w A1 t.a.digits.length t.a.digits) (r2 : RI w A2 t.b.digits.length t.b.digits) (r3 : RI w A3 t.s.digits.length t.s.digits) (hs : SmallTri t) (hr : RL InsM 2 w LA n L) (hn : n ≤ 9223372036854775807) (htb : TB w) :
    Calls Tryz.prog 29 #[.agg #[.int .i64 t.a.base, .slice A1 t.a.digits.length c1, .int .i64 t.b.base, .slice A2 t.b.digits.length c2, .int .i64 t.s.base, .slice A3 t.s.digits.length c3, .int .i64 t.carry], .slice LA n lc] w (SCRet (rcR L t) (rcC L t) w) := by
  have KV := (fun W (hW : Below w.heap.size w W) => ValidMachine_any t A1 A2 A3 c1 c2 c3 W (r1.below hW) (r2.below hW) (r3.below hW) hs)
  have KP := (fun W (hW : Below w.heap.size w W) => ValidProgram_any LA n lc L W (hr.below steady_InsM hW) hn)
  have HTB := Lib.hid (fun W (hW : Below w.heap.size w W) => TB.below htb hW)
  have hK0 := (Kn.nil w).al [.int .i64 t.a.base, .slice A1 t.a.digits.length c1, .int .i64 t.b.base, .slice A2 t.b.digits.length c2, .int .i64 t.s.base, .slice A3 t.s.digits.length c3, .int .i64 t.carry] 32
  rcases hv : vmach t with _ | _
  · rw [hv] at KV
    obtain ⟨e1, e2⟩ := rc_bad (L := L) (t := t) (by rw [hv]; rfl)
    rw [e1, e2]
    replace KV := Lib.hid KV
    clear hv KP r1 r2 r3 hr hs hn e1 e2 htb
    go_enter Tryz.func29, Tryz.ntmps29
    go_wp2_with fail
    refine Calls.kn hK0 ?_; intro w1 hK1
    refine (KV.out _ hK1.below).mono ?_; rintro e w2 ⟨rfl, hw⟩
    have hK2 := hK1.keep hw
    go_wp2_with fail
    go_ret2
    exact SCRet.none hK2.below
  rcases hp : vprog L with _ | _
  · rw [hv] at KV
    rw [hp] at KP
    obtain ⟨e1, e2⟩ := rc_bad (L := L) (t := t) (by rw [hv, hp]; rfl)
    rw [e1, e2]
    replace KV := Lib.hid KV
    replace KP := Lib.hid KP
    clear hv hp r1 r2 r3 hr hs hn e1 e2 htb
    go_enter Tryz.func29, Tryz.ntmps29
    go_wp2_with fail
    refine Calls.kn hK0 ?_; intro w1 hK1
    refine (KV.out _ hK1.below).mono ?_; rintro e w2 ⟨rfl, hw⟩
    have hK2 := hK1.keep hw
    go_wp2_with fail
    refine (KP.out _ hK2.below).mono ?_; rintro e w3 ⟨rfl, hw⟩
    have hK3 := hK2.keep hw
    go_wp2_with fail
    go_ret2
    exact SCRet.none hK3.below
  have hok : (vmach t && vprog L) = true := by rw [hv, hp]; rfl
  rw [hv] at KV
  rw [hp] at KP
  have KR := Lib.hid (fun W (hW : Below w.heap.size w W) => runProgram_any (lc := lc) t A1 A2 A3 c1 c2 c3 W (r1.below hW) (r2.below hW) (r3.below hW) hv hp (hr.below steady_InsM hW))
  have KM := (fun W (hW : Below w.heap.size w W) => MachineText_any t A1 A2 A3 c1 c2 c3 W (r1.below hW) (r2.below hW) (r3.below hW) hs (HTB.out W hW))
  have hTs := mtext_size hv
  have hsT : startT t = (⟨#[115, 116, 97, 114, 116, 32]⟩ : ByteArray) ++ mtext t := rfl
  obtain ⟨T, hT⟩ : ∃ T, mtext t = T := ⟨_, rfl⟩
  rw [hT] at KM hTs hsT
  replace KM := Lib.hid KM
  have HSTT := Lib.hid hsT
  have HR := Lib.hid (fun W (hW : Below w.heap.size w W) => hr.below steady_InsM hW)
  have HL := Lib.hid hr.1
  have HOK := Lib.hid hok
  replace KV := Lib.hid KV
  replace KP := Lib.hid KP
  obtain ⟨RC, hRC⟩ : ∃ C, rcC L t = C := ⟨_, rfl⟩
  obtain ⟨RR, hRR⟩ : ∃ C, rcR L t = C := ⟨_, rfl⟩
  rw [hRC, hRR]
  have HRC := Lib.hid hRC
  have HRR := Lib.hid hRR
  clear hv hp r1 r2 r3 hr hs hok hT hsT hRC hRR htb
  go_enter Tryz.func29, Tryz.ntmps29
  go_wp2_with fail
  refine Calls.kn hK0 ?_; intro w1 hK1
  refine (KV.out _ hK1.below).mono ?_; rintro e w2 ⟨rfl, hw⟩
  have hK2 := hK1.keep hw
  clear hK0 hK1 hw
  go_wp2_with fail
  refine (KP.out _ hK2.below).mono ?_; rintro e w3 ⟨rfl, hw⟩
  have hK3 := hK2.keep hw
  clear hK2 hw
  go_wp2_with fail
  go_loopw [22, 7] (fun ii _ wr => ∃ k : Nat, k ≤ n ∧ ii = .int .i64 k ∧ hasSet (L.take k) = false ∧ Kn w [.blk w.heap.size [.int .i64 t.a.base, .slice A1 t.a.digits.length c1, .int .i64 t.b.base, .slice A2 t.b.digits.length c2, .int .i64 t.s.base, .slice A3 t.s.digits.length c3, .int .i64 t.carry] 32] wr) (fun ii _ _ => n - (intOf ii).toNat)
  case atStart => exact ⟨0, Nat.zero_le _, rfl, rfl, hK3⟩
  case round =>
    clear hK3
    obtain ⟨k, hk, rfl, hset, hK⟩ := hrel
    have HSET := Lib.hid hset
    clear hset
    by_cases hkn : k < n
    · obtain ⟨ad, hA, hlt, hkl, hx⟩ := (HR.out wr hK.below).at_ hkn
      obtain ⟨x1, x2⟩ := hx
      have hst := hasSet_take_succ (L := L) hkl
      have hat := hasSet_at (L := L) hkl
      obtain ⟨x, hxe⟩ : ∃ x, L[k] = x := ⟨_, rfl⟩
      rw [hxe] at x1 x2 hst hat
      have HSN := Lib.hid hst
      have HAT := Lib.hid hat
      have hi0 : (0 : Int) ≤ (k : Int) := by omega
      have hi1 : (k : Int) < (n : Int) := by omega
      subst hA
      clear hxe hst hat
      rcases ho : (x.op == 1) with _ | _
      · go_wp2_with fail
        go_roundw
        case rel => exact ⟨k + 1, by omega, by go_num, by rw [HSN.out, HSET.out, ho]; rfl, hK.al_ _⟩
        case measure => simp [intOf]; omega
      · obtain ⟨e1, e2⟩ := rc_set HOK.out (HAT.out ho)
        have h1 := HRC.out
        have h2 := HRR.out
        rw [e1] at h1
        rw [e2] at h2
        subst h1
        subst h2
        clear e1 e2
        go_wp2_with fail
        go_ret2
        exact SCRet.none (hK.al_ (.cells #[.int .i64 x.op, .int .i64 x.arg] 93)).below
    · have hi1 : ¬ (k : Int) < (n : Int) := by omega
      have HNS : Hid (hasSet L = false) := by
        have h1 := HSET.out
        rwa [List.take_of_length_le (by have := HL.out; omega)] at h1
      clear HSET
      obtain ⟨a1, a2, a3⟩ := hK.blkAt
      go_wp2_with fail
      refine (KR.out _ hK.below).mono ?_; rintro e w4 ⟨g, s, b', rfl, he, ⟨SA, sc, B1, d1, B2, d2, B3, d3, hKr⟩, hg⟩
      have HE := Lib.hid he
      have HG := Lib.hid hg
      have hK5 := hK.join hKr
      clear he hg hKr hK a1 a2 a3
      obtain ⟨a1, a2, a3, b1, b2, b3, -⟩ := hK5.cells
      rcases hc0 : (s.code == 0) with _ | _
      · have hcn : s.code ≠ 0 := by simpa using hc0
        obtain ⟨e1, e2⟩ := rc_code HOK.out HNS.out HE.out hcn
        have h1 := HRC.out
        have h2 := HRR.out
        rw [e1] at h1
        rw [e2] at h2
        subst h2
        have HC := Lib.hid h1
        clear e1 e2 hcn h1
        go_wp2_with fail
        go_quiet (fail)
        go_wp2_with fail
        go_ret2
        rw [← HC.out]
        exact SCRet.none (below_drewN hK5.below _)
      · have hcn : s.code = 0 := by simpa using hc0
        obtain ⟨e1, e2⟩ := rc_fine HOK.out HNS.out HE.out hcn
        have h1 := HRC.out
        have h2 := HRR.out
        rw [e1] at h1
        rw [e2] at h2
        have HC := Lib.hid h1
        have HD := Lib.hid h2
        have hgt := HG.out.tr
        have hgp := HG.out.top
        have hmv := HG.out.m
        have hsm := small_of' hmv
        have KM2 := (fun W r1 r2 r3 hw => MachineText_any s.m B1 B2 B3 d1 d2 d3 W r1 r2 r3 hsm hw)
        have hT2s := mtext_size hmv
        have hsT2 : showT s.m = (⟨#[115, 104, 111, 119, 32]⟩ : ByteArray) ++ mtext s.m := rfl
        obtain ⟨T2, hT2⟩ : ∃ T, mtext s.m = T := ⟨_, rfl⟩
        rw [hT2] at KM2 hT2s hsT2
        replace KM2 := Lib.hid KM2
        have HSTH := Lib.hid hsT2
        clear e1 e2 h1 h2 hT2 hsT2 hmv hsm hcn
        go_wp2_with fail
        refine (KM.out _ hK5.below).mono ?_; rintro e w5 ⟨rfl, hw⟩
        have hK6 := hK5.keep hw
        clear hK5 hw a1 a2 a3 b1 b2 b3
        obtain ⟨a1, a2, a3, -⟩ := hK6.cells
        have hK7 := (hK6.al [.string ((⟨#[115, 116, 97, 114, 116, 32]⟩ : ByteArray) ++ T)] 9).litRow (n := 1) (size := 1) rfl (by decide)
        go_upto_region 13 with fail
        refine Code.wp.kn (w0 := w) (m := rowS (.slice (some ⟨w5.heap.size, 0, none⟩) 1 1) [(⟨#[115, 116, 97, 114, 116, 32]⟩ : ByteArray) ++ T] :: .blk g [.int .i64 s.m.a.base, .slice B1 s.m.a.digits.length d1, .int .i64 s.m.b.base, .slice B2 s.m.b.digits.length d2, .int .i64 s.m.s.base, .slice B3 s.m.s.digits.length d3, .int .i64 s.m.carry, .slice LA n lc, .int .i64 (s.done : Int), .slice SA s.tr.length sc, .int .i64 s.code] 100 :: rowI B3 d3 s.m.s.digits :: rowI B2 d2 s.m.b.digits :: rowI B1 d1 s.m.a.digits :: rowI SA sc s.tr :: []) (hK7.sel [0, 1, 2, 3, 4, 5] 99 (by decide) (by decide)) ?_; intro w6 hK8
        obtain ⟨gO, hgO⟩ : ∃ g, w5.heap.size = g := ⟨_, rfl⟩
        rw [hgO] at hK8 ⊢
        clear hgO hK7 hK6 a1 a2 a3
        obtain ⟨a1, a2, a3, -⟩ := hK8.cells
        go_wp2_with fail
        clear a1 a2 a3
        go_loopw [51, 9, 11] (fun ii v _ wr => ∃ (k : Nat) (O : List ByteArray) (X : Option Addr) (x : Nat), k ≤ s.tr.length ∧ ii = .int .i64 k ∧ v = .slice X O.length x ∧ O = ((⟨#[115, 116, 97, 114, 116, 32]⟩ : ByteArray) ++ T) :: (s.tr.take k).map sname ∧ Kn w (rowS (.slice X O.length x) O :: .blk g [.int .i64 s.m.a.base, .slice B1 s.m.a.digits.length d1, .int .i64 s.m.b.base, .slice B2 s.m.b.digits.length d2, .int .i64 s.m.s.base, .slice B3 s.m.s.digits.length d3, .int .i64 s.m.carry, .slice LA n lc, .int .i64 (s.done : Int), .slice SA s.tr.length sc, .int .i64 s.code] 100 :: rowI B3 d3 s.m.s.digits :: rowI B2 d2 s.m.b.digits :: rowI B1 d1 s.m.a.digits :: rowI SA sc s.tr :: []) wr) (fun ii _ _ _ => s.tr.length - (intOf ii).toNat)
        case atStart => exact ⟨0, [(⟨#[115, 116, 97, 114, 116, 32]⟩ : ByteArray) ++ T], some ⟨gO, 0, none⟩, 1, Nat.zero_le _, rfl, rfl, rfl, hK8⟩
        case round =>
          clear hK8
          obtain ⟨k, O, X, x, hk, rfl, rfl, hO, hK⟩ := hrel
          have hOl : O.length ≤ 10000 := by rw [hO]; simp; omega
          have hO10 : O.length ≤ 10000000 := by omega
          have HO := Lib.hid hO
          clear hO
          by_cases hkn : k < s.tr.length
          · obtain ⟨ad, hA, hlt, hkl, hx⟩ := (Kn.riv (hK.front 5 rfl)).at_ hkn
            obtain ⟨kd, hkd⟩ : ∃ v, s.tr[k] = v := ⟨_, rfl⟩
            rw [hkd] at hx
            have KN := (fun W => StrokeName_all kd W)
            obtain ⟨nm, hnm⟩ : ∃ v, sname kd = v := ⟨_, rfl⟩
            rw [hnm] at KN
            replace KN := Lib.hid KN
            have HNX := Lib.hid (show O ++ [nm] = ((⟨#[115, 116, 97, 114, 116, 32]⟩ : ByteArray) ++ T) :: (s.tr.take (k + 1)).map sname by
              rw [HO.out, List.take_succ_eq_append_getElem hkn, List.map_append, hkd]; simp [hnm])
            obtain ⟨O2, hO2⟩ : ∃ l, O ++ [nm] = l := ⟨_, rfl⟩
            rw [hO2] at HNX
            have HO2 := Lib.hid hO2
            have hi0 : (0 : Int) ≤ (k : Int) := by omega
            have hi1 : (k : Int) < (s.tr.length : Int) := by omega
            subst hA
            clear hkd hnm hO2
            go_wp2_with fail
            refine (KN.out _).mono ?_; rintro e w7 ⟨rfl, hw⟩
            have hK1 := hK.keep hw
            have hA : Kn w (.blk w7.heap.size [.string nm] 9 :: rowS (.slice X O.length x) O :: _) _ := hK1.al [.string nm] 9
            clear hK hw hx
            go_wp2_with (at_builtin; refine kn_pushS rfl _ _ rfl (.slice X O.length x) O rfl rfl hA hO10 ?_; intro v8 w8 hK2; rw [HO2.out] at hK2)
            obtain ⟨X8, x8, rfl⟩ := row_form hK2.at0
            go_roundw
            case rel => exact ⟨k + 1, O2, X8, x8, by omega, by go_num, rfl, HNX.out, hK2⟩
            case measure => simp [intOf]; omega
          · have hi1 : ¬ (k : Int) < (s.tr.length : Int) := by omega
            have HFIN := Lib.hid (show O ++ [(⟨#[115, 104, 111, 119, 32]⟩ : ByteArray) ++ T2, ⟨#[101, 110, 100]⟩] = recL t s by
              rw [HO.out, List.take_of_length_le (by omega)]
              unfold recL
              rw [HSTT.out, HSTH.out]
              simp [endW])
            obtain ⟨SH, hSH⟩ : ∃ l, recL t s = l := ⟨_, rfl⟩
            rw [hSH] at HFIN HC HD
            clear hSH
            have hK1 := hK.sel [1, 0, 2, 3, 4, 5] 6 (by decide) (by decide)
            obtain ⟨a1, a2, a3, -⟩ := hK1.cells
            go_wp2_with fail
            refine (KM2.out _ (Kn.riv (hK.front 4 rfl)) (Kn.riv (hK.front 3 rfl)) (Kn.riv (hK.front 2 rfl)) (HTB.out _ hK.below)).mono ?_; rintro e w7 ⟨rfl, hw⟩
            have hK2 := hK.keep hw
            have hA : Kn w (.blk w7.heap.size [.string ((⟨#[115, 104, 111, 119, 32]⟩ : ByteArray) ++ T2), .string ⟨#[101, 110, 100]⟩] 9 :: rowS (.slice X O.length x) O :: _) _ := hK2.al [.string ((⟨#[115, 104, 111, 119, 32]⟩ : ByteArray) ++ T2), .string ⟨#[101, 110, 100]⟩] 9
            clear hK hK1 hw a1 a2 a3
            by_cases h1 : SH.length > 100
            · have h2 : (100 : Int) < (SH.length : Int) := by omega
              have h3 := HD.out
              have h4 := HC.out
              rw [if_pos h1] at h3 h4
              subst h3
              subst h4
              go_wp2_with (at_builtin; refine kn_push2S rfl _ _ rfl (.slice X O.length x) O rfl rfl hA hO10 ?_; intro v8 w8 hK8; rw [HFIN.out] at hK8; obtain ⟨X8, x8, rfl⟩ := row_form hK8.at0)
              go_ret2
              exact SCRet.none hK8.below
            · have h2 : ¬ (100 : Int) < (SH.length : Int) := by omega
              have h3 := HD.out
              have h4 := HC.out
              rw [if_neg h1] at h3 h4
              subst h3
              subst h4
              go_wp2_with (at_builtin; refine kn_push2S rfl _ _ rfl (.slice X O.length x) O rfl rfl hA hO10 ?_; intro v8 w8 hK8; rw [HFIN.out] at hK8; obtain ⟨X8, x8, rfl⟩ := row_form hK8.at0)
              go_ret2
              exact ⟨X8, x8, rfl, hK8.sel [0] 99 (by decide) (by decide)⟩
end Go.Proofs.YtafnebpbfmbgiaaGreatDoor

namespace Go.Proofs.YtafnebpbfmbgiaaGreatDoor
open Go.RowKit Go.Sort
set_option maxRecDepth 100000 in
set_option maxHeartbeats 6400000 in
theorem specRecordSession_any {L : List Ins} {n lc : Nat} {LA : Option Addr} (t : Tri) (A1 A2 A3 : Option Addr) (c1 c2 c3 : Nat) (w : World) (r1 : RI w A1 t.a.digits.length t.a.digits) (r2 : RI w A2 t.b.digits.length t.b.digits) (r3 : RI w A3 t.s.digits.length t.s.digits) (hs : SmallTri t) (hr : RL InsM 2 w LA n L) (hn : n ≤ 9223372036854775807) :
    Calls Tryz.prog 30 #[.agg #[.int .i64 t.a.base, .slice A1 t.a.digits.length c1, .int .i64 t.b.base, .slice A2 t.b.digits.length c2, .int .i64 t.s.base, .slice A3 t.s.digits.length c3, .int .i64 t.carry], .slice LA n lc] w (SCRet (rcR L t) (rcC L t) w) := by
  have hTC : ∀ W, Kn w [.blk w.heap.size [.int .i64 t.a.base, .slice A1 t.a.digits.length c1, .int .i64 t.b.base, .slice A2 t.b.digits.length c2, .int .i64 t.s.base, .slice A3 t.s.digits.length c3, .int .i64 t.carry] 32] W → TriC W ⟨w.heap.size, 0, none⟩ t A1 c1 A2 c2 A3 c3 := fun W h => ⟨⟨h.blkAt.1 0, h.blkAt.1 1, h.blkAt.1 2, h.blkAt.1 3, h.blkAt.1 4, h.blkAt.1 5, h.blkAt.1 6⟩, r1.below h.below, r2.below h.below, r3.below h.below⟩
  have KV := (fun W (hW : Kn w [.blk w.heap.size [.int .i64 t.a.base, .slice A1 t.a.digits.length c1, .int .i64 t.b.base, .slice A2 t.b.digits.length c2, .int .i64 t.s.base, .slice A3 t.s.digits.length c3, .int .i64 t.carry] 32] W) => l10Ok_any ⟨w.heap.size, 0, none⟩ t W (hTC W hW).tri hs)
  have KP := (fun W (hW : Below w.heap.size w W) => l11Ok_any LA n lc L W (hr.below steady_InsM hW) hn)
  have hK0 := (Kn.nil w).al [.int .i64 t.a.base, .slice A1 t.a.digits.length c1, .int .i64 t.b.base, .slice A2 t.b.digits.length c2, .int .i64 t.s.base, .slice A3 t.s.digits.length c3, .int .i64 t.carry] 32
  rcases hv : vmach t with _ | _
  · rw [hv] at KV
    obtain ⟨e1, e2⟩ := rc_bad (L := L) (t := t) (by rw [hv]; rfl)
    rw [e1, e2]
    replace KV := Lib.hid KV
    clear hv KP hTC r1 r2 r3 hr hs hn e1 e2
    go_enter Tryz.func30, Tryz.ntmps30
    go_wp2_with fail
    refine Calls.kn hK0 ?_; intro w1 hK1
    refine (KV.out _ hK1).mono ?_; rintro e w2 ⟨rfl, q, rfl⟩
    have hK2 := hK1.drewN q
    generalize w1.drewN q = w2 at hK2 ⊢
    go_wp2_with fail
    go_ret2
    exact SCRet.none hK2.below
  rcases hp : vprog L with _ | _
  · rw [hv] at KV
    rw [hp] at KP
    obtain ⟨e1, e2⟩ := rc_bad (L := L) (t := t) (by rw [hv, hp]; rfl)
    rw [e1, e2]
    replace KV := Lib.hid KV
    replace KP := Lib.hid KP
    clear hv hp hTC r1 r2 r3 hr hs hn e1 e2
    go_enter Tryz.func30, Tryz.ntmps30
    go_wp2_with fail
    refine Calls.kn hK0 ?_; intro w1 hK1
    refine (KV.out _ hK1).mono ?_; rintro e w2 ⟨rfl, q, rfl⟩
    have hK2 := hK1.drewN q
    generalize w1.drewN q = w2 at hK2 ⊢
    go_wp2_with fail
    refine (KP.out _ hK2.below).mono ?_; rintro e w3 ⟨rfl, q, rfl⟩
    have hK3 := hK2.drewN q
    go_wp2_with fail
    go_ret2
    exact SCRet.none hK3.below
  have hok : (vmach t && vprog L) = true := by rw [hv, hp]; rfl
  rw [hv] at KV
  rw [hp] at KP
  have KR := Lib.hid (fun W (hW : Kn w [.blk w.heap.size [.int .i64 t.a.base, .slice A1 t.a.digits.length c1, .int .i64 t.b.base, .slice A2 t.b.digits.length c2, .int .i64 t.s.base, .slice A3 t.s.digits.length c3, .int .i64 t.carry] 32] W) => l11Run_any (lc := lc) w.heap.size t A1 A2 A3 c1 c2 c3 W (hTC W hW) hv hp (hr.below steady_InsM hW.below))
  have hml : mtext t = mtextL t := by unfold mtext; rw [if_pos hv]
  have KM := (fun W (hW : Kn w [.blk w.heap.size [.int .i64 t.a.base, .slice A1 t.a.digits.length c1, .int .i64 t.b.base, .slice A2 t.b.digits.length c2, .int .i64 t.s.base, .slice A3 t.s.digits.length c3, .int .i64 t.carry] 32] W) => l10Text_any ⟨w.heap.size, 0, none⟩ t W (hTC W hW).tri hW.blkAt.2.2 hv)
  rw [← hml] at KM
  clear hml
  have hTs := mtext_size hv
  have hsT : startT t = (⟨#[115, 116, 97, 114, 116, 32]⟩ : ByteArray) ++ mtext t := rfl
  obtain ⟨T, hT⟩ : ∃ T, mtext t = T := ⟨_, rfl⟩
  rw [hT] at KM hTs hsT
  replace KM := Lib.hid KM
  have HSTT := Lib.hid hsT
  have HR := Lib.hid (fun W (hW : Below w.heap.size w W) => hr.below steady_InsM hW)
  have HL := Lib.hid hr.1
  have HOK := Lib.hid hok
  replace KV := Lib.hid KV
  replace KP := Lib.hid KP
  obtain ⟨RC, hRC⟩ : ∃ C, rcC L t = C := ⟨_, rfl⟩
  obtain ⟨RR, hRR⟩ : ∃ C, rcR L t = C := ⟨_, rfl⟩
  rw [hRC, hRR]
  have HRC := Lib.hid hRC
  have HRR := Lib.hid hRR
  clear hv hp hTC r1 r2 r3 hr hs hok hT hsT hRC hRR
  go_enter Tryz.func30, Tryz.ntmps30
  go_wp2_with fail
  refine Calls.kn hK0 ?_; intro w1 hK1
  refine (KV.out _ hK1).mono ?_; rintro e w2 ⟨rfl, q, rfl⟩
  have hK2 := hK1.drewN q
  generalize w1.drewN q = w2 at hK2 ⊢
  clear hK0 hK1
  go_wp2_with fail
  refine (KP.out _ hK2.below).mono ?_; rintro e w3 ⟨rfl, q, rfl⟩
  have hK3 := hK2.drewN q
  generalize w2.drewN q = w3 at hK3 ⊢
  clear hK2
  go_wp2_with fail
  go_loopw [6] (fun ii wr => ∃ k : Nat, k ≤ n ∧ ii = .int .i64 k ∧ hasSet (L.take k) = false ∧ Kn w [.blk w.heap.size [.int .i64 t.a.base, .slice A1 t.a.digits.length c1, .int .i64 t.b.base, .slice A2 t.b.digits.length c2, .int .i64 t.s.base, .slice A3 t.s.digits.length c3, .int .i64 t.carry] 32] wr) (fun ii _ => n - (intOf ii).toNat)
  case atStart => exact ⟨0, Nat.zero_le _, rfl, rfl, hK3⟩
  case round =>
    clear hK3
    obtain ⟨k, hk, rfl, hset, hK⟩ := hrel
    have HSET := Lib.hid hset
    clear hset
    by_cases hkn : k < n
    · obtain ⟨ad, hA, hlt, hkl, hx⟩ := (HR.out wr hK.below).at_ hkn
      obtain ⟨x1, x2⟩ := hx
      have hst := hasSet_take_succ (L := L) hkl
      have hat := hasSet_at (L := L) hkl
      obtain ⟨x, hxe⟩ : ∃ x, L[k] = x := ⟨_, rfl⟩
      rw [hxe] at x1 x2 hst hat
      have HSN := Lib.hid hst
      have HAT := Lib.hid hat
      have hi0 : (0 : Int) ≤ (k : Int) := by omega
      have hi1 : (k : Int) < (n : Int) := by omega
      subst hA
      clear hxe hst hat
      rcases ho : (x.op == 1) with _ | _
      · go_wp2_with fail
        go_roundw
        case rel => exact ⟨k + 1, by omega, by go_num, by rw [HSN.out, HSET.out, ho]; rfl, hK⟩
        case measure => simp [intOf]; omega
      · obtain ⟨e1, e2⟩ := rc_set HOK.out (HAT.out ho)
        have h1 := HRC.out
        have h2 := HRR.out
        rw [e1] at h1
        rw [e2] at h2
        subst h1
        subst h2
        clear e1 e2
        go_wp2_with fail
        go_ret2
        exact SCRet.none hK.below
    · have hi1 : ¬ (k : Int) < (n : Int) := by omega
      have HNS : Hid (hasSet L = false) := by
        have h1 := HSET.out
        rwa [List.take_of_length_le (by have := HL.out; omega)] at h1
      clear HSET
      obtain ⟨a1, a2, a3⟩ := hK.blkAt
      go_wp2_with fail
      refine (KR.out _ hK).mono ?_; rintro e w4 ⟨g, s, b', bl, rfl, he, ⟨SA, sc, B1, d1, B2, d2, B3, d3, hKr⟩, hg⟩
      have HE := Lib.hid he
      have HG := Lib.hid hg
      have hK5 := hK.join hKr
      clear he hg hKr hK a1 a2 a3
      obtain ⟨a1, a2, a3, b1, b2, b3, -⟩ := hK5.cells
      rcases hc0 : (s.code == 0) with _ | _
      · have hcn : s.code ≠ 0 := by simpa using hc0
        obtain ⟨e1, e2⟩ := rc_code HOK.out HNS.out HE.out hcn
        have h1 := HRC.out
        have h2 := HRR.out
        rw [e1] at h1
        rw [e2] at h2
        subst h2
        have HC := Lib.hid h1
        clear e1 e2 hcn h1
        go_wp2_with fail
        go_quiet (fail)
        go_wp2_with fail
        go_ret2
        rw [← HC.out]
        exact SCRet.none (below_drewN hK5.below _)
      · have hcn : s.code = 0 := by simpa using hc0
        obtain ⟨e1, e2⟩ := rc_fine HOK.out HNS.out HE.out hcn
        have h1 := HRC.out
        have h2 := HRR.out
        rw [e1] at h1
        rw [e2] at h2
        have HC := Lib.hid h1
        have HD := Lib.hid h2
        have hgt := HG.out.tr
        have hgp := HG.out.top
        have hmv := HG.out.m
        have hsm := small_of' hmv
        have hml : mtext s.m = mtextL s.m := by unfold mtext; rw [if_pos hmv]
        have KM2 := (fun (gq : Nat) (W : World) (hW : TriM W ⟨gq, 0, none⟩ s.m) (hlt : gq < W.heap.size) => l10Text_any ⟨gq, 0, none⟩ s.m W hW hlt hmv)
        rw [← hml] at KM2
        clear hml
        have hT2s := mtext_size hmv
        have hsT2 : showT s.m = (⟨#[115, 104, 111, 119, 32]⟩ : ByteArray) ++ mtext s.m := rfl
        obtain ⟨T2, hT2⟩ : ∃ T, mtext s.m = T := ⟨_, rfl⟩
        rw [hT2] at KM2 hT2s hsT2
        replace KM2 := Lib.hid KM2
        have HSTH := Lib.hid hsT2
        clear e1 e2 h1 h2 hT2 hsT2 hmv hsm hcn
        go_wp2_with fail
        refine (KM.out _ (hK5.sel [5] 99 (by decide) (by decide))).mono ?_; rintro e w5 ⟨rfl, hw⟩
        have hK6 := hK5.keep hw
        clear hK5 hw a1 a2 a3 b1 b2 b3
        obtain ⟨a1, a2, a3, -⟩ := hK6.cells
        have hK7 := (hK6.al [.string ((⟨#[115, 116, 97, 114, 116, 32]⟩ : ByteArray) ++ T)] 9).litRow (n := 1) (size := 1) rfl (by decide)
        go_upto_region 12 with fail
        refine Code.wp.kn (w0 := w) (m := rowS (.slice (some ⟨w5.heap.size, 0, none⟩) 1 1) [(⟨#[115, 116, 97, 114, 116, 32]⟩ : ByteArray) ++ T] :: .blk g [.int .i64 s.m.a.base, .slice B1 s.m.a.digits.length d1, .int .i64 s.m.b.base, .slice B2 s.m.b.digits.length d2, .int .i64 s.m.s.base, .slice B3 s.m.s.digits.length d3, .int .i64 s.m.carry, .slice LA n lc, .slice SA s.tr.length sc, .int .i64 (s.done : Int), .bool bl, .int .i64 s.code] 105 :: rowI B3 d3 s.m.s.digits :: rowI B2 d2 s.m.b.digits :: rowI B1 d1 s.m.a.digits :: rowI SA sc s.tr :: []) (hK7.sel [0, 1, 2, 3, 4, 5] 99 (by decide) (by decide)) ?_; intro w6 hK8
        obtain ⟨gO, hgO⟩ : ∃ g, w5.heap.size = g := ⟨_, rfl⟩
        rw [hgO] at hK8 ⊢
        clear hgO hK7 hK6 a1 a2 a3
        obtain ⟨a1, a2, a3, -⟩ := hK8.cells
        go_wp2_with fail
        clear a1 a2 a3
        go_loopw [9, 8] (fun ii v wr => ∃ (k : Nat) (O : List ByteArray) (X : Option Addr) (x : Nat), k ≤ s.tr.length ∧ ii = .int .i64 k ∧ v = .slice X O.length x ∧ O = ((⟨#[115, 116, 97, 114, 116, 32]⟩ : ByteArray) ++ T) :: (s.tr.take k).map sname ∧ Kn w (rowS (.slice X O.length x) O :: .blk g [.int .i64 s.m.a.base, .slice B1 s.m.a.digits.length d1, .int .i64 s.m.b.base, .slice B2 s.m.b.digits.length d2, .int .i64 s.m.s.base, .slice B3 s.m.s.digits.length d3, .int .i64 s.m.carry, .slice LA n lc, .slice SA s.tr.length sc, .int .i64 (s.done : Int), .bool bl, .int .i64 s.code] 105 :: rowI B3 d3 s.m.s.digits :: rowI B2 d2 s.m.b.digits :: rowI B1 d1 s.m.a.digits :: rowI SA sc s.tr :: []) wr) (fun ii _ _ => s.tr.length - (intOf ii).toNat)
        case atStart => exact ⟨0, [(⟨#[115, 116, 97, 114, 116, 32]⟩ : ByteArray) ++ T], some ⟨gO, 0, none⟩, 1, Nat.zero_le _, rfl, rfl, rfl, hK8⟩
        case round =>
          clear hK8
          obtain ⟨k, O, X, x, hk, rfl, rfl, hO, hK⟩ := hrel
          have hOl : O.length ≤ 10000 := by rw [hO]; simp; omega
          have hO10 : O.length ≤ 10000000 := by omega
          have HO := Lib.hid hO
          clear hO
          by_cases hkn : k < s.tr.length
          · obtain ⟨ad, hA, hlt, hkl, hx⟩ := (Kn.riv (hK.front 5 rfl)).at_ hkn
            obtain ⟨kd, hkd⟩ : ∃ v, s.tr[k] = v := ⟨_, rfl⟩
            rw [hkd] at hx
            have KN := (fun W => specStrokeName_all kd W)
            obtain ⟨nm, hnm⟩ : ∃ v, sname kd = v := ⟨_, rfl⟩
            rw [hnm] at KN
            replace KN := Lib.hid KN
            have HNX := Lib.hid (show O ++ [nm] = ((⟨#[115, 116, 97, 114, 116, 32]⟩ : ByteArray) ++ T) :: (s.tr.take (k + 1)).map sname by
              rw [HO.out, List.take_succ_eq_append_getElem hkn, List.map_append, hkd]; simp [hnm])
            obtain ⟨O2, hO2⟩ : ∃ l, O ++ [nm] = l := ⟨_, rfl⟩
            rw [hO2] at HNX
            have HO2 := Lib.hid hO2
            have hi0 : (0 : Int) ≤ (k : Int) := by omega
            have hi1 : (k : Int) < (s.tr.length : Int) := by omega
            subst hA
            clear hkd hnm hO2
            obtain ⟨a1, a2, a3⟩ := (hK.front 1 rfl).blkAt
            go_wp2_with fail
            refine (KN.out _).mono ?_; rintro e w7 ⟨rfl, hw⟩
            have hK1 := hK.keep hw
            have hA : Kn w (.blk w7.heap.size [.string nm] 9 :: rowS (.slice X O.length x) O :: _) _ := hK1.al [.string nm] 9
            clear hK hw hx a1 a2 a3
            go_wp2_with (at_builtin; refine kn_pushS rfl _ _ rfl (.slice X O.length x) O rfl rfl hA hO10 ?_; intro v8 w8 hK2; rw [HO2.out] at hK2)
            obtain ⟨X8, x8, rfl⟩ := row_form hK2.at0
            go_roundw
            case rel => exact ⟨k + 1, O2, X8, x8, by omega, by go_num, rfl, HNX.out, hK2⟩
            case measure => simp [intOf]; omega
          · have hi1 : ¬ (k : Int) < (s.tr.length : Int) := by omega
            have HFIN := Lib.hid (show O ++ [(⟨#[115, 104, 111, 119, 32]⟩ : ByteArray) ++ T2, ⟨#[101, 110, 100]⟩] = recL t s by
              rw [HO.out, List.take_of_length_le (by omega)]
              unfold recL
              rw [HSTT.out, HSTH.out]
              simp [endW])
            obtain ⟨SH, hSH⟩ : ∃ l, recL t s = l := ⟨_, rfl⟩
            rw [hSH] at HFIN HC HD
            clear hSH
            have hK1 := hK.sel [1, 0, 2, 3, 4, 5] 6 (by decide) (by decide)
            obtain ⟨a1, a2, a3, -⟩ := hK1.cells
            go_wp2_with fail
            refine (KM2.out g _ (TriC.tri (w := wr) (b := g) (o := 0) (t := s.m) ⟨⟨hK1.blkAt.1 0, hK1.blkAt.1 1, hK1.blkAt.1 2, hK1.blkAt.1 3, hK1.blkAt.1 4, hK1.blkAt.1 5, hK1.blkAt.1 6⟩, Kn.riv (hK.front 4 rfl), Kn.riv (hK.front 3 rfl), Kn.riv (hK.front 2 rfl)⟩) hK1.blkAt.2.2).mono ?_; rintro e w7 ⟨rfl, hw⟩
            have hK2 := hK.keep hw
            have hA : Kn w (.blk w7.heap.size [.string ((⟨#[115, 104, 111, 119, 32]⟩ : ByteArray) ++ T2), .string ⟨#[101, 110, 100]⟩] 9 :: rowS (.slice X O.length x) O :: _) _ := hK2.al [.string ((⟨#[115, 104, 111, 119, 32]⟩ : ByteArray) ++ T2), .string ⟨#[101, 110, 100]⟩] 9
            clear hK hK1 hw a1 a2 a3
            by_cases h1 : SH.length > 100
            · have h2 : (100 : Int) < (SH.length : Int) := by omega
              have h3 := HD.out
              have h4 := HC.out
              rw [if_pos h1] at h3 h4
              subst h3
              subst h4
              go_wp2_with (at_builtin; refine kn_push2S rfl _ _ rfl (.slice X O.length x) O rfl rfl hA hO10 ?_; intro v8 w8 hK8; rw [HFIN.out] at hK8; obtain ⟨X8, x8, rfl⟩ := row_form hK8.at0)
              go_ret2
              exact SCRet.none hK8.below
            · have h2 : ¬ (100 : Int) < (SH.length : Int) := by omega
              have h3 := HD.out
              have h4 := HC.out
              rw [if_neg h1] at h3 h4
              subst h3
              subst h4
              go_wp2_with (at_builtin; refine kn_push2S rfl _ _ rfl (.slice X O.length x) O rfl rfl hA hO10 ?_; intro v8 w8 hK8; rw [HFIN.out] at hK8; obtain ⟨X8, x8, rfl⟩ := row_form hK8.at0)
              go_ret2
              exact ⟨X8, x8, rfl, hK8.sel [0] 99 (by decide) (by decide)⟩
end Go.Proofs.YtafnebpbfmbgiaaGreatDoor

namespace Go.Proofs.YtafnebpbfmbgiaaGreatDoor
open Go.RowKit Go.Sort
def rsM (bs : List (List UInt8)) : Tri := if wholeC bs = 0 then (runS bs).1.m else zTri
theorem rsM_len (bs : List (List UInt8)) : (rsM bs).a.digits.length ≤ 16 ∧ (rsM bs).b.digits.length ≤ 16 ∧ (rsM bs).s.digits.length ≤ 16 := by
  unfold rsM
  split
  · rename_i h
    have := sized_of (runS_good (wholeC_ok h).2).m
    exact ⟨this.a, this.b, this.s⟩
  · simp [zTri]
/-- a machine and a code -/
def MCRet (t : Tri) (C : Int) (w : World) (e : Ending) (w' : World) : Prop := ∃ A1 c1 A2 c2 A3 c3, e = .returned (.tuple #[.agg #[.int .i64 t.a.base, .slice A1 t.a.digits.length c1, .int .i64 t.b.base, .slice A2 t.b.digits.length c2, .int .i64 t.s.base, .slice A3 t.s.digits.length c3, .int .i64 t.carry], .int .i64 C]) ∧ Kn w [rowI A3 c3 t.s.digits, rowI A2 c2 t.b.digits, rowI A1 c1 t.a.digits] w'
def RSRet (bs : List (List UInt8)) (w : World) (e : Ending) (w' : World) : Prop := MCRet (rsM bs) (wholeC bs) w e w'
theorem MCRet.zero {C : Int} {w w' : World} (h : Below w.heap.size w w') : MCRet zTri C w (.returned (.tuple #[.agg #[.int .i64 0, .slice none 0 0, .int .i64 0, .slice none 0 0, .int .i64 0, .slice none 0 0, .int .i64 0], .int .i64 C])) w' :=
  ⟨none, 0, none, 0, none, 0, rfl, ((((Kn.nil w).keep h).nilRow _ _).nilRow _ _).nilRow _ _⟩
set_option maxRecDepth 100000 in
theorem ReplaySession_any (A : Option Addr) (n c : Nat) (ss : List ByteArray) (w : World) (hr : RL StrM 1 w A n ss) (hsz : ∀ s ∈ ss, s.size ≤ 1048576) (ht : TB w) :
    Calls Tryz.prog 9 #[.slice A n c] w (RSRet (ss.map strB) w) := by
  have hK0 := (Kn.nil w).al [.int .i64 0, .slice none 0 0, .int .i64 0, .slice none 0 0, .int .i64 0, .slice none 0 0, .int .i64 0] 32
  have KW := (wholeSession_any A n c ss (w.alloc (.cells #[.int .i64 0, .slice none 0 0, .int .i64 0, .slice none 0 0, .int .i64 0, .slice none 0 0, .int .i64 0] 32)) (hr.below steady_StrM hK0.below) hsz (TB.below ht hK0.below))
  unfold RSRet
  unfold WholeI at KW
  have HM := Lib.hid (show rsM (ss.map strB) = if wholeC (ss.map strB) = 0 then (runS (ss.map strB)).1.m else zTri from rfl)
  have HG := Lib.hid (fun (h : wholeC (ss.map strB) = 0) => runS_good (wholeC_ok h).2)
  obtain ⟨rm, hrm⟩ : ∃ r, rsM (ss.map strB) = r := ⟨_, rfl⟩
  rw [hrm] at HM ⊢
  obtain ⟨C, hC⟩ : ∃ C, wholeC (ss.map strB) = C := ⟨_, rfl⟩
  rw [hC] at KW HM HG ⊢
  obtain ⟨s, hs⟩ : ∃ s, (runS (ss.map strB)).1 = s := ⟨_, rfl⟩
  rw [hs] at KW HM HG
  replace KW := Lib.hid KW
  clear hC hs hr hsz ht hrm
  rcases hc : (C == 0) with _ | _
  · have HC := Lib.hid (show C ≠ 0 by simpa using hc)
    have HQ : Hid (rm = zTri) := by simp only [Hid]; rw [HM.out, if_neg HC.out]
    go_enter Tryz.func9, Tryz.ntmps9
    go_wp2_with fail
    refine KW.out.mono ?_; rintro e w1 (⟨h0, -⟩ | ⟨-, rfl, hw⟩)
    · exact absurd h0 HC.out
    have hK1 := hK0.keep hw
    clear hK0 hw
    obtain ⟨a1, a2, a3, -⟩ := hK1.cells
    go_wp2_with fail
    refine bodyPost.kn (((((((hK1.st 0 (.int .i64 0)).st 1 (.slice none 0 0)).st 2 (.int .i64 0)).st 3 (.slice none 0 0)).st 4 (.int .i64 0)).st 5 (.slice none 0 0)).st 6 (.int .i64 0)) ?_; intro w6 hK6
    clear a1 a2 a3
    obtain ⟨a1, a2, a3, -⟩ := hK6.cells
    refine bodyPost_ret (v := .tuple #[.agg #[.int .i64 0, .slice none 0 0, .int .i64 0, .slice none 0 0, .int .i64 0, .slice none 0 0, .int .i64 0], .int .i64 C]) (by simp [results, Tryz.results9, go_sem, a1]) rfl ?_
    rw [HQ.out]
    exact MCRet.zero hK6.below
  · obtain rfl : C = 0 := by simpa using hc
    have HQ : Hid (rm = s.m) := by simp only [Hid]; rw [HM.out, if_pos rfl]
    have hz := sized_of (HG.out rfl).m
    go_enter Tryz.func9, Tryz.ntmps9
    go_wp2_with fail
    refine KW.out.mono ?_; rintro e w1 (⟨-, g, rfl, hS⟩ | ⟨h0, -⟩)
    rotate_left
    · exact absurd rfl h0
    have hK1 := hK0.keep hS.below
    obtain ⟨U1, u1, U2, u2, U3, u3, A1, c1, A2, c2, A3, c3, SA, sc, BA, bc, m, hK, -, hm⟩ := hS
    obtain ⟨x1, x2, x3, -⟩ := hK1.cells
    obtain ⟨a1, a2, a3⟩ := hK.blkAt
    obtain ⟨r1, r2, r3⟩ := hm.ri hK (fun e h => by simp [h])
    obtain ⟨t, htt⟩ : ∃ t, s.m = t := ⟨_, rfl⟩
    rw [htt] at r1 r2 r3 hz HQ a1
    have KC := Lib.hid (copiedM_any t A1 A2 A3 c1 c2 c3 w1 r1 r2 r3 hz)
    clear hK hm r1 r2 r3 hK0 htt
    go_wp2_with fail
    refine KC.out.mono ?_; rintro e w2 ⟨B1, d1, B2, d2, B3, d3, rfl, hKn⟩
    have hK2 := hK1.join hKn
    clear hK1 hKn x1 x2 x3 a1 a2 a3
    obtain ⟨x1, x2, x3, -⟩ := hK2.cells
    go_wp2_with fail
    refine bodyPost.kn ((((((((hK2.front 3 rfl).st 0 (.int .i64 t.a.base)).st 1 (.slice B1 t.a.digits.length d1)).st 2 (.int .i64 t.b.base)).st 3 (.slice B2 t.b.digits.length d2)).st 4 (.int .i64 t.s.base)).st 5 (.slice B3 t.s.digits.length d3)).st 6 (.int .i64 t.carry)) ?_; intro w6 hK6
    clear x1 x2 x3
    obtain ⟨a1, a2, a3, -⟩ := hK6.cells
    refine bodyPost_ret (v := .tuple #[.agg #[.int .i64 t.a.base, .slice B1 t.a.digits.length d1, .int .i64 t.b.base, .slice B2 t.b.digits.length d2, .int .i64 t.s.base, .slice B3 t.s.digits.length d3, .int .i64 t.carry], .int .i64 0]) (by simp [results, Tryz.results9, go_sem, a1]) rfl ?_
    rw [HQ.out]
    exact ⟨B1, d1, B2, d2, B3, d3, rfl, hK6.sel [1, 2, 3] 99 (by decide) (by decide)⟩
set_option maxRecDepth 100000 in
theorem specReplaySession_any (A : Option Addr) (n c : Nat) (ss : List ByteArray) (w : World) (hr : RL StrM 1 w A n ss) (hsz : ∀ s ∈ ss, s.size ≤ 1048576) :
    Calls Tryz.prog 10 #[.slice A n c] w (RSRet (ss.map strB) w) := by
  have hK0 := (Kn.nil w).al [.int .i64 0, .slice none 0 0, .int .i64 0, .slice none 0 0, .int .i64 0, .slice none 0 0, .int .i64 0] 32
  have KW := (l24Ask_any A n c ss (w.alloc (.cells #[.int .i64 0, .slice none 0 0, .int .i64 0, .slice none 0 0, .int .i64 0, .slice none 0 0, .int .i64 0] 32)) (hr.below steady_StrM hK0.below) hsz)
  unfold RSRet
  unfold WholeS at KW
  have HM := Lib.hid (show rsM (ss.map strB) = if wholeC (ss.map strB) = 0 then (runS (ss.map strB)).1.m else zTri from rfl)
  obtain ⟨rm, hrm⟩ : ∃ r, rsM (ss.map strB) = r := ⟨_, rfl⟩
  rw [hrm] at HM ⊢
  obtain ⟨C, hC⟩ : ∃ C, wholeC (ss.map strB) = C := ⟨_, rfl⟩
  rw [hC] at KW HM ⊢
  obtain ⟨s, hs⟩ : ∃ s, (runS (ss.map strB)).1 = s := ⟨_, rfl⟩
  rw [hs] at KW HM
  replace KW := Lib.hid KW
  clear hC hs hr hsz hrm
  rcases hc : (C == 0) with _ | _
  · have HC := Lib.hid (show C ≠ 0 by simpa using hc)
    have HQ : Hid (rm = zTri) := by simp only [Hid]; rw [HM.out, if_neg HC.out]
    go_enter Tryz.func10, Tryz.ntmps10
    go_wp2_with fail
    refine KW.out.mono ?_; rintro e w1 (⟨h0, -⟩ | ⟨-, g, rfl, hw⟩)
    · exact absurd h0 HC.out
    have hK1 := hK0.keep hw
    clear hK0 hw
    obtain ⟨a1, a2, a3, -⟩ := hK1.cells
    go_wp2_with fail
    refine bodyPost.kn (((((((hK1.st 0 (.int .i64 0)).st 1 (.slice none 0 0)).st 2 (.int .i64 0)).st 3 (.slice none 0 0)).st 4 (.int .i64 0)).st 5 (.slice none 0 0)).st 6 (.int .i64 0)) ?_; intro w6 hK6
    clear a1 a2 a3
    obtain ⟨a1, a2, a3, -⟩ := hK6.cells
    refine bodyPost_ret (v := .tuple #[.agg #[.int .i64 0, .slice none 0 0, .int .i64 0, .slice none 0 0, .int .i64 0, .slice none 0 0, .int .i64 0], .int .i64 C]) (by simp [results, Tryz.results10, go_sem, a1]) rfl ?_
    rw [HQ.out]
    exact MCRet.zero hK6.below
  · obtain rfl : C = 0 := by simpa using hc
    have HQ : Hid (rm = s.m) := by simp only [Hid]; rw [HM.out, if_pos rfl]
    go_enter Tryz.func10, Tryz.ntmps10
    go_wp2_with fail
    refine KW.out.mono ?_; rintro e w1 (⟨-, g, rfl, hS⟩ | ⟨h0, -⟩)
    rotate_left
    · exact absurd rfl h0
    obtain ⟨U1, u1, U2, u2, U3, u3, A1, c1, A2, c2, A3, c3, SA, sc, BA, bc, m, hK, -⟩ := hS
    have hK1 := hK0.join hK
    have hK2 : Kn w (.blk w.heap.size [.int .i64 0, .slice none 0 0, .int .i64 0, .slice none 0 0, .int .i64 0, .slice none 0 0, .int .i64 0] 32 :: _) w1 := hK1.perm (List.perm_append_comm.trans (List.Perm.refl _))
    clear hK hK0 hK1
    obtain ⟨x1, x2, x3, a1, a2, a3, -⟩ := hK2.cells
    obtain ⟨t, htt⟩ : ∃ t, s.m = t := ⟨_, rfl⟩
    rw [htt] at hK2 HQ a1
    clear htt
    go_wp2_with fail
    refine bodyPost.kn (((((((hK2.st 0 (.int .i64 t.a.base)).st 1 (.slice A1 t.a.digits.length c1)).st 2 (.int .i64 t.b.base)).st 3 (.slice A2 t.b.digits.length c2)).st 4 (.int .i64 t.s.base)).st 5 (.slice A3 t.s.digits.length c3)).st 6 (.int .i64 t.carry)) ?_; intro w6 hK6
    clear x1 x2 x3 a1 a2 a3
    obtain ⟨a1, a2, a3, -⟩ := hK6.cells
    refine bodyPost_ret (v := .tuple #[.agg #[.int .i64 t.a.base, .slice A1 t.a.digits.length c1, .int .i64 t.b.base, .slice A2 t.b.digits.length c2, .int .i64 t.s.base, .slice A3 t.s.digits.length c3, .int .i64 t.carry], .int .i64 0]) (by simp [results, Tryz.results10, go_sem, a1]) rfl ?_
    rw [HQ.out]
    exact ⟨A1, c1, A2, c2, A3, c3, rfl, (hK6.sel [2, 3, 4] 99 (by decide) (by decide)).only (by simp)⟩
end Go.Proofs.YtafnebpbfmbgiaaGreatDoor

namespace Go.Proofs.YtafnebpbfmbgiaaGreatDoor
open Go.RowKit Go.Sort
def sfC (bs : List (List UInt8)) : Int := if bs.length > 100 then 5 else 0
def sfA (bs : List (List UInt8)) : Int := if bs.length > 100 then 0 else (runS bs).2.1
def sfF (bs : List (List UInt8)) : Int := if bs.length > 100 then 0 else (runS bs).2.2
def SFRet (bs : List (List UInt8)) (w : World) (e : Ending) (w' : World) : Prop := e = .returned (.tuple #[.int .i64 (sfA bs), .int .i64 (sfF bs), .int .i64 (sfC bs)]) ∧ Below w.heap.size w w'
theorem sf_full {ss : List ByteArray} (h : ss.length > 100) : sfA (ss.map strB) = 0 ∧ sfF (ss.map strB) = 0 ∧ sfC (ss.map strB) = 5 := by
  have h' : (ss.map strB).length > 100 := by rw [List.length_map]; exact h
  exact ⟨if_pos h', if_pos h', if_pos h'⟩
theorem sf_run {ss : List ByteArray} (h : ¬ ss.length > 100) : sfA (ss.map strB) = (runS (ss.map strB)).2.1 ∧ sfF (ss.map strB) = (runS (ss.map strB)).2.2 ∧ sfC (ss.map strB) = 0 := by
  have h' : ¬ (ss.map strB).length > 100 := by rw [List.length_map]; exact h
  exact ⟨if_neg h', if_neg h', if_neg h'⟩
theorem SessionFault_any (A : Option Addr) (n c : Nat) (ss : List ByteArray) (w : World) (hr : RL StrM 1 w A n ss) (hsz : ∀ s ∈ ss, s.size ≤ 1048576) (ht : TB w) :
    Calls Tryz.prog 7 #[.slice A n c] w (SFRet (ss.map strB) w) := by
  have hl := hr.1
  unfold SFRet
  by_cases hn : n ≤ 100
  · have hi : ¬ (100 : Int) < (n : Int) := by omega
    obtain ⟨e1, e2, e3⟩ := sf_run (ss := ss) (by omega)
    rw [e1, e2, e3]
    have KR := Lib.hid (runSession_any A n c ss w hr hn hsz ht)
    clear e1 e2 e3 hr hsz ht
    go_enter Tryz.func7, Tryz.ntmps7
    go_wp2_with fail
    refine KR.out.mono ?_; rintro e w1 ⟨g, rfl, hS⟩
    go_wp2_with fail
    go_ret3
    exact ⟨rfl, hS.below⟩
  · have hi : (100 : Int) < (n : Int) := by omega
    obtain ⟨e1, e2, e3⟩ := sf_full (ss := ss) (by omega)
    rw [e1, e2, e3]
    clear e1 e2 e3 hr hsz ht
    go_enter Tryz.func7, Tryz.ntmps7
    go_wp2_with fail
    go_ret3
    exact ⟨rfl, Below.refl _ _⟩
theorem specSessionFault_any (A : Option Addr) (n c : Nat) (ss : List ByteArray) (w : World) (hr : RL StrM 1 w A n ss) (hsz : ∀ s ∈ ss, s.size ≤ 1048576) :
    Calls Tryz.prog 8 #[.slice A n c] w (SFRet (ss.map strB) w) := by
  have hl := hr.1
  unfold SFRet
  by_cases hn : n ≤ 100
  · have hi : ¬ (100 : Int) < (n : Int) := by omega
    obtain ⟨e1, e2, e3⟩ := sf_run (ss := ss) (by omega)
    rw [e1, e2, e3]
    have KR := Lib.hid (l24Run_any A n c ss w hr hn hsz)
    clear e1 e2 e3 hr hsz
    go_enter Tryz.func8, Tryz.ntmps8
    go_wp2_with fail
    refine KR.out.mono ?_; rintro e w1 ⟨g, rfl, hS⟩
    go_wp2_with fail
    go_ret3
    exact ⟨rfl, hS.below⟩
  · have hi : (100 : Int) < (n : Int) := by omega
    obtain ⟨e1, e2, e3⟩ := sf_full (ss := ss) (by omega)
    rw [e1, e2, e3]
    clear e1 e2 e3 hr hsz
    go_enter Tryz.func8, Tryz.ntmps8
    go_wp2_with fail
    go_ret3
    exact ⟨rfl, Below.refl _ _⟩
def ssL (bs : List (List UInt8)) : List Int := if wholeC bs = 0 then (runS bs).1.str else []
theorem ssL_len (bs : List (List UInt8)) : (ssL bs).length ≤ 100 := by
  unfold ssL
  split
  · rename_i h
    obtain ⟨h1, h2⟩ := wholeC_ok h
    exact Nat.le_trans (runS_good h2).str h1
  · simp
def ssRet (bs : List (List UInt8)) (w : World) (e : Ending) (w' : World) : Prop := ∃ X x, e = .returned (.tuple #[.slice X (ssL bs).length x, .int .i64 (wholeC bs)]) ∧ Kn w [rowI X x (ssL bs)] w'
theorem SessionStrokes_any (A : Option Addr) (n c : Nat) (ss : List ByteArray) (w : World) (hr : RL StrM 1 w A n ss) (hsz : ∀ s ∈ ss, s.size ≤ 1048576) (ht : TB w) :
    Calls Tryz.prog 11 #[.slice A n c] w (ssRet (ss.map strB) w) := by
  have KW := (wholeSession_any A n c ss w hr hsz ht)
  unfold ssRet ssL
  unfold WholeI at KW
  obtain ⟨C, hC⟩ : ∃ C, wholeC (ss.map strB) = C := ⟨_, rfl⟩
  rw [hC] at KW ⊢
  obtain ⟨s, hs⟩ : ∃ s, (runS (ss.map strB)).1 = s := ⟨_, rfl⟩
  rw [hs] at KW ⊢
  have KW := Lib.hid KW
  clear hC hs hr hsz ht
  obtain ⟨l, hl⟩ : ∃ l : List Int, (if C = 0 then s.str else []) = l := ⟨_, rfl⟩
  rw [hl]
  have HL := Lib.hid hl
  clear hl
  rcases hc : (C == 0) with _ | _
  · have HC := Lib.hid (show C ≠ 0 by simpa using hc)
    go_enter Tryz.func11, Tryz.ntmps11
    go_wp2_with fail
    refine KW.out.mono ?_; rintro e w1 (⟨h0, -⟩ | ⟨-, rfl, hw⟩)
    · exact absurd h0 HC.out
    go_wp2_with fail
    go_ret2
    have hl := HL.out
    rw [if_neg HC.out] at hl
    subst hl
    exact ⟨none, 0, rfl, ((Kn.nil _).keep hw).nilRow _ _⟩
  · obtain rfl : C = 0 := by simpa using hc
    go_enter Tryz.func11, Tryz.ntmps11
    go_wp2_with fail
    refine KW.out.mono ?_; rintro e w1 (⟨-, g, rfl, hS⟩ | ⟨h0, -⟩)
    · obtain ⟨U1, u1, U2, u2, U3, u3, A1, c1, A2, c2, A3, c3, SA, sc, BA, bc, m, hK, -, -⟩ := hS
      obtain ⟨a1, a2, a3⟩ := hK.blkAt
      go_wp2_with fail
      go_ret2
      have hl := HL.out
      simp only [if_true] at hl
      subst hl
      exact ⟨_, _, rfl, (hK.front 1 rfl).only (by simp)⟩
    · exact absurd rfl h0
theorem specSessionStrokes_any (A : Option Addr) (n c : Nat) (ss : List ByteArray) (w : World) (hr : RL StrM 1 w A n ss) (hsz : ∀ s ∈ ss, s.size ≤ 1048576) :
    Calls Tryz.prog 12 #[.slice A n c] w (ssRet (ss.map strB) w) := by
  have KW := (l24Ask_any A n c ss w hr hsz)
  unfold ssRet ssL
  unfold WholeS at KW
  obtain ⟨C, hC⟩ : ∃ C, wholeC (ss.map strB) = C := ⟨_, rfl⟩
  rw [hC] at KW ⊢
  obtain ⟨s, hs⟩ : ∃ s, (runS (ss.map strB)).1 = s := ⟨_, rfl⟩
  rw [hs] at KW ⊢
  have KW := Lib.hid KW
  clear hC hs hr hsz
  obtain ⟨l, hl⟩ : ∃ l : List Int, (if C = 0 then s.str else []) = l := ⟨_, rfl⟩
  rw [hl]
  have HL := Lib.hid hl
  clear hl
  rcases hc : (C == 0) with _ | _
  · have HC := Lib.hid (show C ≠ 0 by simpa using hc)
    go_enter Tryz.func12, Tryz.ntmps12
    go_wp2_with fail
    refine KW.out.mono ?_; rintro e w1 (⟨h0, -⟩ | ⟨-, g, rfl, hw⟩)
    · exact absurd h0 HC.out
    go_wp2_with fail
    go_ret2
    have hl := HL.out
    rw [if_neg HC.out] at hl
    subst hl
    exact ⟨none, 0, rfl, ((Kn.nil _).keep hw).nilRow _ _⟩
  · obtain rfl : C = 0 := by simpa using hc
    go_enter Tryz.func12, Tryz.ntmps12
    go_wp2_with fail
    refine KW.out.mono ?_; rintro e w1 (⟨-, g, rfl, hS⟩ | ⟨h0, -⟩)
    · obtain ⟨U1, u1, U2, u2, U3, u3, A1, c1, A2, c2, A3, c3, SA, sc, BA, bc, m, hK, -⟩ := hS
      obtain ⟨a1, a2, a3⟩ := hK.blkAt
      go_wp2_with fail
      go_ret2
      have hl := HL.out
      simp only [if_true] at hl
      subst hl
      exact ⟨_, _, rfl, (hK.front 4 rfl).only (by simp)⟩
    · exact absurd rfl h0
def blL (bs : List (List UInt8)) : List Int := if wholeC bs = 0 then (runS bs).1.bel else []
theorem blL_len (bs : List (List UInt8)) : (blL bs).length ≤ 100 := by
  unfold blL
  split
  · rename_i h
    obtain ⟨h1, h2⟩ := wholeC_ok h
    exact Nat.le_trans (runS_good h2).bel h1
  · simp
def blRet (bs : List (List UInt8)) (w : World) (e : Ending) (w' : World) : Prop := ∃ X x, e = .returned (.tuple #[.slice X (blL bs).length x, .int .i64 (wholeC bs)]) ∧ Kn w [rowI X x (blL bs)] w'
theorem BellLines_any (A : Option Addr) (n c : Nat) (ss : List ByteArray) (w : World) (hr : RL StrM 1 w A n ss) (hsz : ∀ s ∈ ss, s.size ≤ 1048576) (ht : TB w) :
    Calls Tryz.prog 13 #[.slice A n c] w (blRet (ss.map strB) w) := by
  have KW := (wholeSession_any A n c ss w hr hsz ht)
  unfold blRet blL
  unfold WholeI at KW
  obtain ⟨C, hC⟩ : ∃ C, wholeC (ss.map strB) = C := ⟨_, rfl⟩
  rw [hC] at KW ⊢
  obtain ⟨s, hs⟩ : ∃ s, (runS (ss.map strB)).1 = s := ⟨_, rfl⟩
  rw [hs] at KW ⊢
  have KW := Lib.hid KW
  clear hC hs hr hsz ht
  obtain ⟨l, hl⟩ : ∃ l : List Int, (if C = 0 then s.bel else []) = l := ⟨_, rfl⟩
  rw [hl]
  have HL := Lib.hid hl
  clear hl
  rcases hc : (C == 0) with _ | _
  · have HC := Lib.hid (show C ≠ 0 by simpa using hc)
    go_enter Tryz.func13, Tryz.ntmps13
    go_wp2_with fail
    refine KW.out.mono ?_; rintro e w1 (⟨h0, -⟩ | ⟨-, rfl, hw⟩)
    · exact absurd h0 HC.out
    go_wp2_with fail
    go_ret2
    have hl := HL.out
    rw [if_neg HC.out] at hl
    subst hl
    exact ⟨none, 0, rfl, ((Kn.nil _).keep hw).nilRow _ _⟩
  · obtain rfl : C = 0 := by simpa using hc
    go_enter Tryz.func13, Tryz.ntmps13
    go_wp2_with fail
    refine KW.out.mono ?_; rintro e w1 (⟨-, g, rfl, hS⟩ | ⟨h0, -⟩)
    · obtain ⟨U1, u1, U2, u2, U3, u3, A1, c1, A2, c2, A3, c3, SA, sc, BA, bc, m, hK, -, -⟩ := hS
      obtain ⟨a1, a2, a3⟩ := hK.blkAt
      go_wp2_with fail
      go_ret2
      have hl := HL.out
      simp only [if_true] at hl
      subst hl
      exact ⟨_, _, rfl, (hK.front 2 rfl).only (by simp)⟩
    · exact absurd rfl h0
theorem specBellLines_any (A : Option Addr) (n c : Nat) (ss : List ByteArray) (w : World) (hr : RL StrM 1 w A n ss) (hsz : ∀ s ∈ ss, s.size ≤ 1048576) :
    Calls Tryz.prog 14 #[.slice A n c] w (blRet (ss.map strB) w) := by
  have KW := (l24Ask_any A n c ss w hr hsz)
  unfold blRet blL
  unfold WholeS at KW
  obtain ⟨C, hC⟩ : ∃ C, wholeC (ss.map strB) = C := ⟨_, rfl⟩
  rw [hC] at KW ⊢
  obtain ⟨s, hs⟩ : ∃ s, (runS (ss.map strB)).1 = s := ⟨_, rfl⟩
  rw [hs] at KW ⊢
  have KW := Lib.hid KW
  clear hC hs hr hsz
  obtain ⟨l, hl⟩ : ∃ l : List Int, (if C = 0 then s.bel else []) = l := ⟨_, rfl⟩
  rw [hl]
  have HL := Lib.hid hl
  clear hl
  rcases hc : (C == 0) with _ | _
  · have HC := Lib.hid (show C ≠ 0 by simpa using hc)
    go_enter Tryz.func14, Tryz.ntmps14
    go_wp2_with fail
    refine KW.out.mono ?_; rintro e w1 (⟨h0, -⟩ | ⟨-, g, rfl, hw⟩)
    · exact absurd h0 HC.out
    go_wp2_with fail
    go_ret2
    have hl := HL.out
    rw [if_neg HC.out] at hl
    subst hl
    exact ⟨none, 0, rfl, ((Kn.nil _).keep hw).nilRow _ _⟩
  · obtain rfl : C = 0 := by simpa using hc
    go_enter Tryz.func14, Tryz.ntmps14
    go_wp2_with fail
    refine KW.out.mono ?_; rintro e w1 (⟨-, g, rfl, hS⟩ | ⟨h0, -⟩)
    · obtain ⟨U1, u1, U2, u2, U3, u3, A1, c1, A2, c2, A3, c3, SA, sc, BA, bc, m, hK, -⟩ := hS
      obtain ⟨a1, a2, a3⟩ := hK.blkAt
      go_wp2_with fail
      go_ret2
      have hl := HL.out
      simp only [if_true] at hl
      subst hl
      exact ⟨_, _, rfl, (hK.front 5 rfl).only (by simp)⟩
    · exact absurd rfl h0
end Go.Proofs.YtafnebpbfmbgiaaGreatDoor

namespace Go.Proofs.YtafnebpbfmbgiaaGreatDoor
open Go.RowKit Go.Sort
/-! flat programs, plainly -/
theorem match_seek {xs : List Ins} (h : vprog xs = true) {i : Nat} : ∀ n j, i < j → j + n = xs.length → (∀ q, i < q → q ≤ j → depA xs i < depA xs q) → ∃ e, IsMatch xs i e
  | 0, j, h1, h2, h3 => by
    have a := h3 j h1 (Nat.le_refl _)
    rw [depA_end h (show xs.length ≤ j by omega)] at a
    have := (dep_bd h i).1
    omega
  | n + 1, j, h1, h2, h3 => by
    by_cases hd : depA xs i < depA xs (j + 1)
    · exact match_seek h n (j + 1) (by omega) (by omega) (fun q hq1 hq2 => by
        rcases Nat.lt_or_ge j q with h4 | h4
        · obtain rfl : q = j + 1 := by omega
          exact hd
        · exact h3 q hq1 h4)
    · have a := h3 j h1 (Nat.le_refl _)
      have b := (dep_near h j).1
      exact ⟨j, by omega, by omega, by omega, h3⟩
theorem match_some {xs : List Ins} (h : vprog xs = true) {i : Nat} (hi : i < xs.length) (ho : opens xs[i].op = true) : ∃ e, IsMatch xs i e := by
  have h1 := dep_open h hi ho
  exact match_seek h (xs.length - (i + 1)) (i + 1) (by omega) (by omega) (fun q hq1 hq2 => by
    obtain rfl : q = i + 1 := by omega
    omega)
/-- the strokes of a part of a program, as a relation -/
inductive Fl (L : List Ins) : Nat → Nat → List Int → Prop where
  | done {i tt} (h : tt ≤ i) : Fl L i tt []
  | times {i tt e body rest} (hi : i < tt) (hl : i < L.length) (ho : L[i].op = 8) (hm : IsMatch L i e) (he : e < tt) (h1 : Fl L (i + 1) e body) (h2 : Fl L (e + 1) tt rest) : Fl L i tt ((List.replicate L[i].arg.toNat body).flatten ++ rest)
  | one {i tt rest} (hi : i < tt) (hl : i < L.length) (ho : ¬ L[i].op = 8) (h10 : ¬ L[i].op = 10) (h2 : Fl L (i + 1) tt rest) : Fl L i tt (List.replicate (max 1 L[i].arg).toNat (L[i].op - 1) ++ rest)
theorem Fl.inv {L : List Ins} {i tt : Nat} {out : List Int} (h : Fl L i tt out) (hi : i < tt) : ∃ hl : i < L.length, (L[i].op = 8 ∧ ∃ e body rest, IsMatch L i e ∧ e < tt ∧ Fl L (i + 1) e body ∧ Fl L (e + 1) tt rest ∧ out = (List.replicate L[i].arg.toNat body).flatten ++ rest) ∨ (¬ L[i].op = 8 ∧ ¬ L[i].op = 10 ∧ ∃ rest, Fl L (i + 1) tt rest ∧ out = List.replicate (max 1 L[i].arg).toNat (L[i].op - 1) ++ rest) := by
  cases h with
  | done h => omega
  | times hi hl ho hm he h1 h2 => exact ⟨hl, .inl ⟨ho, _, _, _, hm, he, h1, h2, rfl⟩⟩
  | one hi hl ho h10 h2 => exact ⟨hl, .inr ⟨ho, h10, _, h2, rfl⟩⟩
theorem Fl.nil {L : List Ins} {i tt : Nat} {out : List Int} (h : Fl L i tt out) (hi : ¬ i < tt) : out = [] := by
  cases h with
  | done h => rfl
  | times hi' => omega
  | one hi' => omega
theorem Fl.det {L : List Ins} {i tt : Nat} {out : List Int} (h : Fl L i tt out) : ∀ {out' : List Int}, Fl L i tt out' → out = out' := by
  induction h with
  | done h => intro out' h'; exact (h'.nil (by omega)).symm
  | @times i tt e body rest hi hl ho hm he h1 h2 ih1 ih2 =>
    intro out' h'
    obtain ⟨hl', ⟨h8', e', body', rest', hm', he', g1, g2, rfl⟩ | ⟨ho', hx⟩⟩ := h'.inv hi
    · obtain rfl := hm.one hm'
      rw [ih1 g1, ih2 g2]
    · exact absurd ho ho'
  | @one i tt rest hi hl ho h10 h2 ih2 =>
    intro out' h'
    obtain ⟨hl', ⟨ho', hx⟩ | ⟨h8', h10', rest', g2, rfl⟩⟩ := h'.inv hi
    · exact absurd ho' ho
    · rw [ih2 g2]
/-- no instruction depends on the bell or sets -/
def plainI (L : List Ins) : Bool := L.all fun x => !(x.op == 1) && !(x.op == 9)
theorem plainI_get {L : List Ins} (h : plainI L = true) {i : Nat} (hl : i < L.length) : ¬ L[i].op = 1 ∧ ¬ L[i].op = 9 := by
  have := List.all_eq_true.1 h _ (List.getElem_mem hl)
  simpa using this
theorem ins_ok {L : List Ins} (hv : vprog L = true) {i : Nat} (hl : i < L.length) : instrOk L[i].op L[i].arg = true := (dep_step hv hl).1
theorem ins_bd {op arg : Int} (h : instrOk op arg = true) (h1 : ¬ op = 1) : 2 ≤ op ∧ op ≤ 10 ∧ 0 ≤ arg ∧ arg ≤ 100 ∧ (op = 8 → 1 ≤ arg) := by
  unfold instrOk at h
  rw [if_neg h1] at h
  split at h
  · have := betB_iff.1 h; omega
  · split at h
    · have : arg = 0 := by simpa using h
      omega
    · cases h
theorem ins_plain {op arg : Int} (h : instrOk op arg = true) (h1 : ¬ op = 1) (h8 : ¬ op = 8) (h9 : ¬ op = 9) (h10 : ¬ op = 10) : (2 ≤ op ∧ op ≤ 5 ∧ 1 ≤ arg ∧ arg ≤ 100) ∨ ((op = 6 ∨ op = 7) ∧ arg = 0) := by
  unfold instrOk at h
  rw [if_neg h1] at h
  split at h
  · have := betB_iff.1 h; omega
  · split at h
    · have : arg = 0 := by simpa using h
      omega
    · cases h
theorem pow100 (a : Nat) : 1 ≤ 100 ^ a := Nat.one_le_pow _ _ (by decide)
theorem flat_rep {α : Type} (n : Nat) (l : List α) : (List.replicate n l).flatten.length = n * l.length := by simp
/-- what is flat is there, and it is not too long -/
theorem Fl.some {L : List Ins} (hv : vprog L = true) (hp : plainI L = true) : ∀ (n i tt : Nat), tt - i ≤ n → Seg L i tt → ∃ out, Fl L i tt out ∧ out.length ≤ (tt - i) * 100 ^ (5 - (depA L i).toNat)
  | n, i, tt, hn, hs => by
    by_cases hi : i < tt
    · obtain ⟨m, rfl⟩ : ∃ m, n = m + 1 := ⟨n - 1, by omega⟩
      have hl := hs.lt hi
      obtain ⟨hb1, hb9⟩ := plainI_get hp hl
      obtain ⟨o1, o2, o3, o4, o5⟩ := ins_bd (ins_ok hv hl) hb1
      have hd := dep_bd hv i
      by_cases h8 : L[i].op = 8
      · have ho : opens L[i].op = true := by rw [h8]; rfl
        obtain ⟨e, hm⟩ := match_some hv hl ho
        obtain ⟨g1, g2, s1, s2⟩ := hs.loop hv hi ho hm
        obtain ⟨body, f1, l1⟩ := Fl.some hv hp m (i + 1) e (by omega) s1
        obtain ⟨rest, f2, l2⟩ := Fl.some hv hp m (e + 1) tt (by omega) s2
        refine ⟨_, .times hi hl h8 hm g2 f1 f2, ?_⟩
        have hdo := dep_open hv hl ho
        have hdi := dep_bd hv (i + 1)
        have hme := hm.2.2.1
        rw [hme] at l2
        rw [hdo] at l1
        obtain ⟨k, hk⟩ : ∃ k : Nat, depA L i = k := ⟨(depA L i).toNat, by omega⟩
        rw [hk, show ((k : Int) + 1).toNat = k + 1 by omega] at l1
        rw [hk, show ((k : Int)).toNat = k by omega] at l2 ⊢
        rw [List.length_append, flat_rep]
        have hp5 : 100 ^ (5 - k) = 100 * 100 ^ (5 - (k + 1)) := by
          rw [show 5 - k = (5 - (k + 1)) + 1 by omega, Nat.pow_succ, Nat.mul_comm]
        rw [hp5] at l2 ⊢
        obtain ⟨P, hP⟩ : ∃ P, 100 ^ (5 - (k + 1)) = P := ⟨_, rfl⟩
        rw [hP] at l1 l2 ⊢
        have a1 : L[i].arg.toNat * body.length ≤ 100 * ((e - (i + 1)) * P) := Nat.mul_le_mul (by omega) l1
        have a2 : 100 * ((e - (i + 1)) * P) = (e - (i + 1)) * (100 * P) := Nat.mul_left_comm _ _ _
        have a3 : (e - (i + 1)) * (100 * P) + (tt - (e + 1)) * (100 * P) ≤ (tt - i) * (100 * P) := by
          rw [← Nat.add_mul]; exact Nat.mul_le_mul_right _ (by omega)
        omega
      · have ho : opens L[i].op = false := by unfold opens; simp; omega
        obtain ⟨rest, f2, l2⟩ := Fl.some hv hp m (i + 1) tt (by omega) (hs.next hv hi ho)
        have h10 := hs.noEnd hv hi
        refine ⟨_, .one hi hl h8 h10 f2, ?_⟩
        have hds := dep_same hv hl ho h10
        rw [hds] at l2
        rw [List.length_append, List.length_replicate]
        have a1 : (max 1 L[i].arg).toNat ≤ 100 := by omega
        obtain ⟨k, hk⟩ : ∃ k : Nat, depA L i = k := ⟨(depA L i).toNat, by omega⟩
        rw [hk, show ((k : Int)).toNat = k by omega] at l2 ⊢
        have hp5 : 100 ^ (5 - k) = 100 * 100 ^ (4 - k) := by
          rw [show 5 - k = (4 - k) + 1 by omega, Nat.pow_succ, Nat.mul_comm]
        have hp1 := pow100 (4 - k)
        obtain ⟨P, hP⟩ : ∃ P, 100 ^ (5 - k) = P := ⟨_, rfl⟩
        rw [hP] at l2 hp5 ⊢
        have a3 : P + (tt - (i + 1)) * P ≤ (tt - i) * P := by
          rw [show tt - i = (tt - (i + 1)) + 1 by omega, Nat.add_mul, Nat.one_mul]; omega
        omega
    · exact ⟨[], .done (by omega), by simp⟩
/-- strokes of one kind -/
theorem str_ev {L : List Ins} (kind : Int) : ∀ (n : Nat) (s : RS), s.code = 0 → s.Good → ∃ s' b, Ev L (.str kind n) s s' b ∧ s'.Good ∧ ((s'.code = 0 ∧ s'.tr = s.tr ++ List.replicate n kind) ∨ s'.code = 5)
  | 0, s, hc, hg => ⟨s, false, .s0, hg, .inl ⟨hc, by simp⟩⟩
  | n + 1, s, hc, hg => by
    by_cases hd : s.done = 3000
    · exact ⟨s.tick, false, .sFull hd, hg.tick hc, .inr (by rw [RS.tick_full hd])⟩
    · obtain ⟨s', b, he, hg', hr⟩ := str_ev kind n ⟨(strokeT kind s.m).1, s.tr ++ [kind], s.done + 1, 0⟩ rfl (hg.stroke hc hd kind)
      refine ⟨s', _, .sStep hd he, hg', ?_⟩
      rcases hr with ⟨h1, h2⟩ | h1
      · exact .inl ⟨h1, by rw [h2, List.append_assoc]; rfl⟩
      · exact .inr h1
theorem code_ev {L : List Ins} {s : RS} (hc : ¬ s.code = 0) (i tt : Nat) : Ev L (.run i tt) s s false := by
  by_cases hi : i < tt
  · exact .rCode hi hc
  · exact .rEnd (by omega)
theorem loop_ev {L : List Ins} {i e : Nat} {body : List Int} {arg : Int} (ih : ∀ s : RS, s.code = 0 → s.Good → ∃ s' b, Ev L (.run i e) s s' b ∧ s'.Good ∧ ((s'.code = 0 ∧ s'.tr = s.tr ++ body) ∨ s'.code = 5)) :
    ∀ (r k : Nat), (k : Int) + r = arg → ∀ s : RS, s.code = 0 → s.Good → ∃ s' b, Ev L (.loop 8 arg i e k) s s' b ∧ s'.Good ∧ ((s'.code = 0 ∧ s'.tr = s.tr ++ (List.replicate r body).flatten) ∨ s'.code = 5)
  | 0, k, hk, s, hc, hg => ⟨s, false, .lEnd rfl (by omega), hg, .inl ⟨hc, by simp⟩⟩
  | r + 1, k, hk, s, hc, hg => by
    have h8 : ¬ ((8 : Int) = 8 ∧ arg ≤ (k : Int)) := by omega
    by_cases hd : s.done = 3000
    · exact ⟨s.tick, false, .lFull h8 hd, hg.tick hc, .inr (by rw [RS.tick_full hd])⟩
    · obtain ⟨s1, b1, he, hg1, hr⟩ := ih ⟨s.m, s.tr, s.done + 1, 0⟩ rfl (hg.more hc hd s.m hg.m 0)
      rcases hr with ⟨h1, h2⟩ | h1
      · obtain ⟨s', b', he', hg', hr'⟩ := loop_ev (arg := arg) ih r (k + 1) (by omega) s1 h1 hg1
        refine ⟨s', false, .lStep h8 hd he ⟨h1, fun h => absurd h.1 (by decide)⟩ he', hg', ?_⟩
        rcases hr' with ⟨h3, h4⟩ | h3
        · exact .inl ⟨h3, by rw [h4, h2, List.replicate_succ, List.flatten_cons, List.append_assoc]⟩
        · exact .inr h3
      · exact ⟨s1, false, .lOut h8 hd he (.inl (show ¬ s1.code = 0 by omega)), hg1, .inr h1⟩
theorem Fl.ev {L : List Ins} (hv : vprog L = true) (hp : plainI L = true) {i tt : Nat} {out : List Int} (h : Fl L i tt out) : ∀ s : RS, s.code = 0 → s.Good → ∃ s' b, Ev L (.run i tt) s s' b ∧ s'.Good ∧ ((s'.code = 0 ∧ s'.tr = s.tr ++ out) ∨ s'.code = 5) := by
  induction h with
  | done h => intro s hc hg; exact ⟨s, false, .rEnd h, hg, .inl ⟨hc, by simp⟩⟩
  | @times i tt e body rest hi hl ho hm he0 h1 h2 ih1 ih2 =>
    intro s hc hg
    obtain ⟨hb1, hb9⟩ := plainI_get hp hl
    obtain ⟨o1, o2, o3, o4, o5⟩ := ins_bd (ins_ok hv hl) hb1
    obtain ⟨s1, b1, he1, hg1, hr1⟩ := loop_ev (arg := L[i].arg) ih1 L[i].arg.toNat 0 (by omega) s hc hg
    have hop : opens L[i].op = true := by rw [ho]; rfl
    rcases hr1 with ⟨g1, g2⟩ | g1
    · obtain ⟨s2, b2, he2, hg2, hr2⟩ := ih2 s1 g1 hg1
      refine ⟨s2, b2, .rLoop hi hl hc hop hm (by rw [ho]; exact he1) he2, hg2, ?_⟩
      rcases hr2 with ⟨g3, g4⟩ | g3
      · exact .inl ⟨g3, by rw [g4, g2, List.append_assoc]⟩
      · exact .inr g3
    · exact ⟨s1, false, .rLoop hi hl hc hop hm (by rw [ho]; exact he1) (code_ev (show ¬ s1.code = 0 by omega) _ _), hg1, .inr g1⟩
  | @one i tt rest hi hl ho h10 h2 ih2 =>
    intro s hc hg
    obtain ⟨hb1, hb9⟩ := plainI_get hp hl
    have hop : opens L[i].op = false := by unfold opens; simp; omega
    obtain ⟨s1, b1, he1, hg1, hr1⟩ := str_ev (L := L) (L[i].op - 1) (max 1 L[i].arg).toNat s hc hg
    rcases hr1 with ⟨g1, g2⟩ | g1
    · obtain ⟨s2, b2, he2, hg2, hr2⟩ := ih2 s1 g1 hg1
      refine ⟨s2, _, .rStr hi hl hc hop hb1 he1 he2, hg2, ?_⟩
      rcases hr2 with ⟨g3, g4⟩ | g3
      · exact .inl ⟨g3, by rw [g4, g2, List.append_assoc]⟩
      · exact .inr g3
    · exact ⟨s1, _, .rStr hi hl hc hop hb1 he1 (code_ev (show ¬ s1.code = 0 by omega) _ _), hg1, .inr g1⟩
theorem startR_fine2 {t : Tri} (h : vmach t = true) : (startR t).Good ∧ (startR t).code = 0 ∧ (startR t).tr = [] := by
  refine ⟨⟨h, by simp [startR], fun _ => by simp [startR], by simp [startR]⟩, rfl, rfl⟩
/-- a flat program's trace, or none where it is too long -/
theorem flat_trace {L : List Ins} {t : Tri} {out : List Int} (hm : vmach t = true) (hv : vprog L = true) (hp : plainI L = true) (h : Fl L 0 L.length out) : (rpC L t = 0 ∧ rpT L t = out) ∨ rpC L t = 5 := by
  obtain ⟨g1, g2, g3⟩ := startR_fine2 hm
  obtain ⟨s', b, he, hg, hr⟩ := h.ev hv hp (startR t) g2 g1
  rcases hr with ⟨h1, h2⟩ | h1
  · obtain ⟨r1, -, r3⟩ := rp_fine hm hv he hg h1
    exact .inl ⟨r1, by rw [r3, h2, g3]; rfl⟩
  · obtain ⟨r1, -, -⟩ := rp_code hm hv he (by omega)
    exact .inr (by rw [r1, h1])
end Go.Proofs.YtafnebpbfmbgiaaGreatDoor

namespace Go.Proofs.YtafnebpbfmbgiaaGreatDoor
open Go.RowKit Go.Sort
/-! strokes that lead back, plainly -/
theorem tmod_wrap (a P : Int) (hP : 0 < P) : (a.tmod P + P).tmod P = a % P := by
  have h1 := Int.lt_tmod_of_pos a hP
  rw [Int.tmod_eq_emod_of_nonneg (by omega), Int.add_emod_right, Int.tmod_def, Int.sub_mul_emod_self_left]
theorem digD_valL (b : Int) (hb : 2 ≤ b) : ∀ ds : List Int, (∀ d ∈ ds, 0 ≤ d ∧ d < b) → valL b ds ≤ 1000000000000 → digD b ds.length (valL b ds) = ds
  | [], _, _ => rfl
  | d :: ds, hd, hl => by
    have hd0 := hd d (List.mem_cons_self ..)
    have hv0 := (valL_bd b hb ds (fun x hx => (hd x (List.mem_cons_of_mem _ hx)).1)).1
    have e1 : valL b (d :: ds) = valL b ds * b + d := by simp only [valL] at hl ⊢; omega
    have h2 : valL b ds * 1 ≤ valL b ds * b := Int.mul_le_mul_of_nonneg_left (by omega) hv0
    have ih := digD_valL b hb ds (fun x hx => hd x (List.mem_cons_of_mem _ hx)) (by omega)
    have h3 : 0 ≤ valL b ds * b + d := by omega
    have e2 : (valL b ds * b + d).tmod b = d := by
      rw [Int.tmod_eq_emod_of_nonneg h3, Int.add_comm, Int.add_mul_emod_self_right]
      exact Int.emod_eq_of_lt hd0.1 hd0.2
    have e3 : (valL b ds * b + d).tdiv b = valL b ds := by
      rw [Int.tdiv_eq_ediv_of_nonneg h3, Int.add_comm, Int.add_mul_ediv_right _ _ (by omega), Int.ediv_eq_zero_of_lt hd0.1 hd0.2, Int.zero_add]
    rw [List.length_cons, digD_cons, e1, e2, e3, ih]
theorem vreg_dig {b : Int} {ds : List Int} (hv : vreg b ds = true) : digD b ds.length (valL b ds) = ds := by
  obtain ⟨⟨b1, b2⟩, -, hd, hl⟩ := vreg_iff.1 hv
  exact digD_valL b b1 ds hd hl
theorem valL_shift {b : Int} {ds : List Int} (x : Int) (hv : vreg b ds = true) (hp : pw b ds.length ≤ 1000000000001) : valL b (shiftD b ds x) = (valL b ds + x) % pw b ds.length := by
  obtain ⟨⟨b1, b2⟩, -, hd, hl⟩ := vreg_iff.1 hv
  have hp1 := pw_pos b b1 ds.length
  unfold shiftD
  rw [tmod_wrap _ _ (by omega)]
  have h1 := Int.emod_nonneg (valL b ds + x) (show pw b ds.length ≠ 0 by omega)
  have h2 := Int.emod_lt_of_pos (valL b ds + x) (show 0 < pw b ds.length by omega)
  exact valL_digD b b1 _ _ h1 h2 (by omega)
theorem shiftD_eq (b : Int) (hb : 2 ≤ b) (ds : List Int) (y : Int) : shiftD b ds y = digD b ds.length ((valL b ds + y) % pw b ds.length) := by
  have hp1 := pw_pos b hb ds.length
  unfold shiftD
  rw [tmod_wrap _ _ (by omega)]
theorem shift_back {b : Int} {ds : List Int} (x y : Int) (hxy : x + y = 0) (hv : vreg b ds = true) (hp : pw b ds.length ≤ 1000000000001) : shiftD b (shiftD b ds x) y = ds := by
  obtain ⟨⟨b1, b2⟩, -, hd, hl⟩ := vreg_iff.1 hv
  have hp1 := pw_pos b b1 ds.length
  have hv0 := (valL_bd b b1 ds (fun x hx => (hd x hx).1)).1
  have hv1 := valL_lt b b1 ds hd
  rw [shiftD_eq b b1 (shiftD b ds x) y, valL_shift x hv hp, shiftD_len, Int.emod_add_emod, Int.add_assoc, hxy, Int.add_zero, Int.emod_eq_of_lt hv0 hv1]
  exact vreg_dig hv
/-- the stroke that leads back -/
def backK (k : Int) : Int := if k = 1 then 2 else if k = 2 then 1 else if k = 3 then 4 else 3
theorem turn_back {t : Tri} (h : vmach t = true) (s s' : Int) (hs : s + s' = 0) : (turnT (turnT t s).1 s').1 = t := by
  obtain ⟨k1, k2, k3, e1, e2, f1, f2, l1, c0, c1⟩ := vmach_all h
  have q1 := shift_back (s * (valL t.a.base t.a.digits * pw t.b.base t.carry.toNat)) (s' * (valL t.a.base t.a.digits * pw t.b.base t.carry.toNat)) (by rw [← Int.add_mul, hs, Int.zero_mul]) k2 f1
  have q2 := shift_back (s * pw t.b.base t.carry.toNat) (s' * pw t.b.base t.carry.toNat) (by rw [← Int.add_mul, hs, Int.zero_mul]) k3 f2
  rw [show (turnT (turnT t s).1 s').1 = ⟨t.a, ⟨t.b.base, shiftD t.b.base (shiftD t.b.base t.b.digits (s * (valL t.a.base t.a.digits * pw t.b.base t.carry.toNat))) (s' * (valL t.a.base t.a.digits * pw t.b.base t.carry.toNat))⟩, ⟨t.s.base, shiftD t.s.base (shiftD t.s.base t.s.digits (s * pw t.b.base t.carry.toNat)) (s' * pw t.b.base t.carry.toNat)⟩, t.carry⟩ from rfl, q1, q2]
theorem stroke_back {t : Tri} (h : vmach t = true) {k : Int} (hk : 1 ≤ k ∧ k ≤ 4) : if (strokeT k t).2 = true ∧ 2 < k then (strokeT k t).1 = t else (strokeT (backK k) (strokeT k t).1).1 = t := by
  obtain ⟨k1, k2, k3, e1, e2, f1, f2, l1, c0, c1⟩ := vmach_all h
  have hk' : k = 1 ∨ k = 2 ∨ k = 3 ∨ k = 4 := by omega
  rcases hk' with rfl | rfl | rfl | rfl
  · rw [if_neg (by omega)]
    exact turn_back h 1 (-1) (by decide)
  · rw [if_neg (by omega)]
    exact turn_back h (-1) 1 (by decide)
  · by_cases hc : t.carry + 1 = vplaces t
    · have e : strokeT 3 t = (t, true) := by simp [strokeT, hc]
      rw [e, if_pos ⟨rfl, by decide⟩]
    · have e : strokeT 3 t = ({ t with carry := t.carry + 1 }, false) := by simp [strokeT, hc]
      rw [e, if_neg (by simp)]
      have h4 : ¬ t.carry + 1 = 0 := by omega
      simp [strokeT, backK, h4]
  · by_cases hc : t.carry = 0
    · have e : strokeT 4 t = (t, true) := by simp [strokeT, hc]
      rw [e, if_pos ⟨rfl, by decide⟩]
    · have e : strokeT 4 t = ({ t with carry := t.carry - 1 }, false) := by simp [strokeT, hc]
      rw [e, if_neg (by simp)]
      have h4 : ¬ t.carry = vplaces t := by omega
      simp only [backK, strokeT]
      simp [vplaces] at h4 ⊢
      simp [h4]
end Go.Proofs.YtafnebpbfmbgiaaGreatDoor

namespace Go.Proofs.YtafnebpbfmbgiaaGreatDoor
open Go.RowKit Go.Sort
theorem gtrans {w a b : World} {o : Option Nat} (h1 : w.grownBy a o) (h2 : a.grownBy b o) : w.grownBy b o :=
  ⟨h2.os.trans h1.os, h2.tape.trans h1.tape, h2.output.trans h1.output, Nat.le_trans h1.size h2.size, fun k hk hne => (h2.block k (Nat.lt_of_lt_of_le hk h1.size) hne).trans (h1.block k hk hne)⟩
/-- a source of draws at block b, from which at most N draws were taken -/
def Src (w : World) (b N : Nat) : Prop := ∃ (A : Option Addr) (n c k : Nat) (seed : Int) (bs : List UInt8), w.cell? ⟨b, 0, none⟩ = some (.slice A n c) ∧ w.cell? ⟨b, 1, none⟩ = some (.int .i64 (k : Int)) ∧ w.cell? ⟨b, 2, none⟩ = some (.int .u64 seed) ∧
  w.frozen? ⟨b, 1, none⟩ = false ∧ w.frozen? ⟨b, 2, none⟩ = false ∧ RB w A n bs ∧ k ≤ N ∧ n ≤ 9223372036854775807 ∧ (0 < n → ∀ ad, A = some ad → ad.block < b) ∧ b < w.heap.size
theorem low_byte (x : Int) : 0 ≤ wrap64 (bits .and .u64 (IntKind.u64.wrap x / 1099511627776) 255) ∧ wrap64 (bits .and .u64 (IntKind.u64.wrap x / 1099511627776) 255) ≤ 255 := by
  obtain ⟨a, ha, ha2⟩ : ∃ a : Nat, IntKind.u64.wrap x / 1099511627776 = (a : Int) ∧ a < 18446744073709551616 := by
    rw [IntKind.wrap_u64]
    exact ⟨(x % 18446744073709551616 / 1099511627776).toNat, by omega, by omega⟩
  rw [ha]
  have h := bits_and_u64_nat a 255 ha2 (by omega)
  have h2 : a &&& 255 ≤ 255 := Nat.and_le_right
  have h3 : bits .and .u64 (a : Int) 255 = ((a &&& 255 : Nat) : Int) := h
  rw [h3]
  unfold wrap64
  omega
theorem src_step {w : World} {b N k n c : Nat} {A : Option Addr} {seed : Int} {bs : List UInt8} (c0 : w.cell? ⟨b, 0, none⟩ = some (.slice A n c)) (c1 : w.cell? ⟨b, 1, none⟩ = some (.int .i64 (k : Int))) (c2 : w.cell? ⟨b, 2, none⟩ = some (.int .u64 seed))
    (f1 : w.frozen? ⟨b, 1, none⟩ = false) (f2 : w.frozen? ⟨b, 2, none⟩ = false) (hb : RB w A n bs) (hk : k ≤ N) (hn : n ≤ 9223372036854775807) (hne : 0 < n → ∀ ad, A = some ad → ad.block < b) (hlt : b < w.heap.size) (s : Int) :
    Src ((w.setCell ⟨b, 1, none⟩ (.int .i64 ((k : Int) + 1))).setCell ⟨b, 2, none⟩ (.int .u64 s)) b (N + 1) ∧ w.grownBy ((w.setCell ⟨b, 1, none⟩ (.int .i64 ((k : Int) + 1))).setCell ⟨b, 2, none⟩ (.int .u64 s)) (some b) := by
  refine ⟨⟨A, n, c, k + 1, s, bs, by go_simp, by go_simp, by go_simp, by go_simp, by go_simp, ⟨hb.1, fun h0 => ?_⟩, by omega, hn, hne, by simp [World.setCell]; exact hlt⟩, ⟨rfl, rfl, rfl, by simp [World.setCell], fun g _ hg => ?_⟩⟩
  · obtain ⟨ad, e, hl, hc⟩ := hb.2 h0
    refine ⟨ad, e, by simp [World.setCell]; exact hl, fun j u hu => ?_⟩
    have h1 : ad.block ≠ b := Nat.ne_of_lt (hne h0 ad e)
    rw [World.cell?_setCell_far _ _ _ _ (by rw [block_of_add]; exact Ne.symm h1), World.cell?_setCell_far _ _ _ _ (by rw [block_of_add]; exact Ne.symm h1)]
    exact hc j u hu
  · rw [heap_setCell_other _ _ _ _ (fun e => hg (by rw [e])), heap_setCell_other _ _ _ _ (fun e => hg (by rw [e]))]
theorem Src.drewN {w : World} {b N : Nat} (h : Src w b N) (q : Nat) : Src (w.drewN q) b N := h
theorem gDrew {w w' : World} {o : Option Nat} (h : w.grownBy w' o) (q : Nat) : w.grownBy (w'.drewN q) o := ⟨h.os, h.tape, h.output, h.size, h.block⟩
theorem gDrewL {w w' : World} {o : Option Nat} {q : Nat} (h : (w.drewN q).grownBy w' o) : w.grownBy w' o := ⟨h.os, h.tape, h.output, h.size, h.block⟩
set_option maxHeartbeats 1600000 in
theorem srcNext_any (b N : Nat) (w : World) (h : Src w b N) (hN : N ≤ 1000000) :
    Calls Tryz.prog 66 #[.pointer (some ⟨b, 0, none⟩)] w fun e w' => ∃ x : Int, e = .returned (.int .i64 x) ∧ 0 ≤ x ∧ x ≤ 255 ∧ Src w' b (N + 1) ∧ w.grownBy w' (some b) := by
  obtain ⟨A, n, c, k, seed, bs, c0, c1, c2, f1, f2, hb, hk, hn, hne, hlt⟩ := h
  have HB := Lib.hid hb
  by_cases hkn : k < n
  · obtain ⟨ad, hA, hl, hc⟩ := hb.2 (by omega)
    have hbl : k < bs.length := by have := hb.1; omega
    have hcb := hc k _ (List.getElem?_eq_getElem hbl)
    have hi0 : (0 : Int) ≤ (k : Int) := by omega
    have hi1 : (k : Int) < (n : Int) := by omega
    have hi2 : (k : Int) + 1 ≤ (n : Int) := by omega
    unfold byteV at hcb
    obtain ⟨u, hu⟩ : ∃ u : Nat, u = bs[k].toNat := ⟨_, rfl⟩
    have hu2 : u < 256 := by rw [hu]; exact UInt8.toNat_lt _
    rw [← hu] at hcb
    subst hA
    clear hu hb hc
    go_enter Tryz.func66, Tryz.ntmps66
    go_wp2
    go_quiet (fail)
    go_wp2
    go_quiet (fail)
    go_wp2
    go_quiet (fail)
    go_wp2
    go_ret
    refine ⟨_, rfl, by omega, by omega, ?_⟩
    have z := fun q => src_step (w := w.drewN q) c0 c1 c2 f1 f2 HB.out hk hn hne hlt
    exact ⟨(z _ _).1.drewN _, gDrew (gDrewL (z _ _).2) _⟩
  · have hi1 : ¬ (k : Int) < (n : Int) := by omega
    have hi2 : ¬ (k : Int) + 1 ≤ (n : Int) := by omega
    clear hb
    go_enter Tryz.func66, Tryz.ntmps66
    go_wp2
    go_quiet (fail)
    go_wp2
    go_quiet (fail)
    go_wp2
    go_ret
    obtain ⟨q1, q2⟩ := low_byte (IntKind.u64.wrap (IntKind.u64.wrap (seed * 6364136223846793005)) + 1442695040888963407)
    refine ⟨_, rfl, q1, q2, ?_⟩
    have z := fun q => src_step (w := w.drewN q) c0 c1 c2 f1 f2 HB.out hk hn hne hlt
    exact ⟨(z _ _).1.drewN _, gDrew (gDrewL (z _ _).2) _⟩
theorem Src.keep {w w' : World} {b N : Nat} (h : Src w b N) (hs : w.heap.size ≤ w'.heap.size) (hk : ∀ k, k ≤ b → w'.heap[k]? = w.heap[k]?) : Src w' b N := by
  obtain ⟨A, n, c, k, seed, bs, c0, c1, c2, f1, f2, hb, hkN, hn, hne, hlt⟩ := h
  have hcell : ∀ o, w'.cell? ⟨b, o, none⟩ = w.cell? ⟨b, o, none⟩ := fun o => World.cell?_of_block (hk b (Nat.le_refl _))
  have hfz : ∀ o, w'.frozen? ⟨b, o, none⟩ = w.frozen? ⟨b, o, none⟩ := fun o => World.frozen?_of_block (hk b (Nat.le_refl _))
  refine ⟨A, n, c, k, seed, bs, by rw [hcell]; exact c0, by rw [hcell]; exact c1, by rw [hcell]; exact c2, by rw [hfz]; exact f1, by rw [hfz]; exact f2, ⟨hb.1, fun h0 => ?_⟩, hkN, hn, hne, Nat.lt_of_lt_of_le hlt hs⟩
  obtain ⟨ad, e, hl, hc⟩ := hb.2 h0
  refine ⟨ad, e, Nat.lt_of_lt_of_le hl hs, fun j u hu => ?_⟩
  rw [World.cell?_of_block (w := w) (by rw [block_of_add]; exact hk _ (Nat.le_of_lt (hne h0 ad e)))]
  exact hc j u hu
theorem Src.mono {w : World} {b N M : Nat} (h : Src w b N) (hm : N ≤ M) : Src w b M := by
  obtain ⟨A, n, c, k, seed, bs, c0, c1, c2, f1, f2, hb, hkN, hr⟩ := h
  exact ⟨A, n, c, k, seed, bs, c0, c1, c2, f1, f2, hb, by omega, hr⟩
theorem Src.lt {w : World} {b N : Nat} (h : Src w b N) : b < w.heap.size := by
  obtain ⟨A, n, c, k, seed, bs, c0, c1, c2, f1, f2, hb, hkN, hn, hne, hlt⟩ := h
  exact hlt
theorem gRefl (w : World) (o : Option Nat) : w.grownBy w o := ⟨rfl, rfl, rfl, Nat.le_refl _, fun _ _ _ => rfl⟩
theorem gMore {w a c : World} {o o2 : Option Nat} (h1 : w.grownBy a o) (h2 : a.grownBy c o2) (ho : ∀ k, o2 = some k → w.heap.size ≤ k) : w.grownBy c o :=
  ⟨h2.os.trans h1.os, h2.tape.trans h1.tape, h2.output.trans h1.output, Nat.le_trans h1.size h2.size, fun k hk hne => (h2.block k (Nat.lt_of_lt_of_le hk h1.size) (fun e => by have := ho k e.symm; omega)).trans (h1.block k hk hne)⟩
theorem gBelow {w a c : World} {o : Option Nat} (h1 : w.grownBy a o) (h2 : Below a.heap.size a c) : w.grownBy c o :=
  ⟨h2.os.trans h1.os, h2.tape.trans h1.tape, h2.output.trans h1.output, Nat.le_trans h1.size h2.size, fun k hk hne => (h2.block k (Nat.lt_of_lt_of_le hk h1.size)).trans (h1.block k hk hne)⟩
theorem ofBelow {w c : World} (h2 : Below w.heap.size w c) (o : Option Nat) : w.grownBy c o := gBelow (gRefl w o) h2
/-- from a source's own block on, everything is new -/
theorem belowG {B b : Nat} {a w c : World} (h : Below B a w) (h2 : w.grownBy c (some b)) (hb : B ≤ b) (hs : B ≤ w.heap.size) : Below B a c :=
  h.grown h2 hs (fun k hk => by injection hk with hk; omega)
theorem Src.below {w w' : World} {b N : Nat} (h : Src w b N) (hb : Below w.heap.size w w') : Src w' b N := h.keep hb.size (fun k hk => hb.block k (Nat.lt_of_le_of_lt hk h.lt))
theorem OwnI.grown {w w' : World} {base b : Nat} {v : Value} {ds : List Int} (h : OwnI w base v ds) (hg : w.grownBy w' (some b)) (hb : b < base) : OwnI w' base v ds := by
  refine ⟨h.1, ?_⟩
  rcases h.2 with hn | ⟨g, cap, cur, rfl, hbg, hc, rest⟩
  · exact .inl hn
  · exact .inr ⟨g, cap, cur, rfl, hbg, by rw [hg.block g (Array.getElem?_eq_some_iff.1 hc).1 (fun e => by injection e with e; omega)]; exact hc, rest⟩
theorem ownI_lo {w : World} {base : Nat} {v : Value} {ds : List Int} (h : OwnI w base v ds) : ∀ k, v.ownBlock = some k → base ≤ k := by
  intro k hk
  rcases h.2 with ⟨rfl, -⟩ | ⟨g, cap, cur, rfl, hb, -⟩
  · simp [Value.ownBlock] at hk
  · simp only [Value.ownBlock, Option.some.injEq] at hk; omega
set_option maxHeartbeats 1600000 in
theorem pick_any (b N : Nat) (n : Int) (w : World) (h : Src w b N) (hN : N ≤ 999999) :
    Calls Tryz.prog 35 #[.pointer (some ⟨b, 0, none⟩), .int .i64 n] w fun e w' => ∃ x : Int, e = .returned (.int .i64 x) ∧ 0 ≤ x ∧ (x < n ∨ (n ≤ 1 ∧ x = 0)) ∧ Src w' b (N + 2) ∧ w.grownBy w' (some b) := by
  have H := Lib.hid h; clear h
  by_cases h1 : n ≤ 1
  · go_enter Tryz.func35, Tryz.ntmps35
    go_wp2
    go_ret
    exact ⟨0, rfl, by omega, .inr ⟨h1, rfl⟩, H.out.mono (by omega), gRefl _ _⟩
  · by_cases h2 : 200 < n
    · go_enter Tryz.func35, Tryz.ntmps35
      go_wp2_with fail
      refine (srcNext_any b N w H.out (by omega)).mono ?_; rintro e w1 ⟨x, rfl, x0, x1, hs1, hg1⟩
      have HS1 := Lib.hid hs1; clear hs1
      have HG1 := Lib.hid hg1; clear hg1
      go_wp2_with fail
      refine (srcNext_any b (N + 1) w1 HS1.out (by omega)).mono ?_; rintro e w2 ⟨y, rfl, y0, y1, hs2, hg2⟩
      have HS2 := Lib.hid hs2; clear hs2
      have HG2 := Lib.hid (gtrans HG1.out hg2); clear hg2
      go_wp2
      go_ret
      exact ⟨_, rfl, Int.emod_nonneg _ (by omega), .inl (Int.emod_lt_of_pos _ (by omega)), HS2.out, HG2.out⟩
    · go_enter Tryz.func35, Tryz.ntmps35
      go_wp2_with fail
      refine (srcNext_any b N w H.out (by omega)).mono ?_; rintro e w1 ⟨x, rfl, x0, x1, hs1, hg1⟩
      have HS1 := Lib.hid hs1; clear hs1
      have HG1 := Lib.hid hg1; clear hg1
      go_wp2
      go_ret
      exact ⟨_, rfl, Int.emod_nonneg _ (by omega), .inl (Int.emod_lt_of_pos _ (by omega)), HS1.out.mono (by omega), HG1.out⟩
set_option maxHeartbeats 800000 in
theorem one_any (b N : Nat) (n : Int) (w : World) (h : Src w b N) (hN : N ≤ 999999) :
    Calls Tryz.prog 34 #[.pointer (some ⟨b, 0, none⟩), .int .i64 n] w fun e w' => ∃ x : Bool, e = .returned (.bool x) ∧ Src w' b (N + 2) ∧ w.grownBy w' (some b) := by
  have H := Lib.hid h; clear h
  go_enter Tryz.func34, Tryz.ntmps34
  go_wp2_with fail
  refine (pick_any b N n w H.out hN).mono ?_; rintro e w1 ⟨x, rfl, x0, -, hs1, hg1⟩
  have HS1 := Lib.hid hs1; clear hs1
  have HG1 := Lib.hid hg1; clear hg1
  go_wp2
  go_ret
  exact ⟨_, rfl, HS1.out, HG1.out⟩
set_option maxHeartbeats 800000 in
theorem among_any (b N : Nat) (A : Option Addr) (n c : Nat) (ds : List Int) (w : World) (h : Src w b N) (hN : N ≤ 999999) (hr : RI w A n ds) (hA : ∀ ad, A = some ad → ad.block ≠ b) (hn0 : 0 < n) (hn : n ≤ 1000000) :
    Calls Tryz.prog 88 #[.pointer (some ⟨b, 0, none⟩), .slice A n c] w fun e w' => ∃ x : Int, e = .returned (.int .i64 x) ∧ x ∈ ds ∧ Src w' b (N + 2) ∧ w.grownBy w' (some b) := by
  have H := Lib.hid h; clear h
  go_enter Tryz.func88, Tryz.ntmps88
  go_wp2_with fail
  refine (pick_any b N n w H.out hN).mono ?_; rintro e w1 ⟨x, rfl, x0, xn, hs1, hg1⟩
  have HS1 := Lib.hid hs1; clear hs1
  have HG1 := Lib.hid hg1; clear hg1
  obtain ⟨j, rfl⟩ : ∃ j : Nat, x = j := ⟨x.toNat, by omega⟩
  have hjn : j < n := by omega
  obtain ⟨ad, hAd, hlt, hjl, hc⟩ := hr.at_ hjn
  have hc2 : w1.cell? (ad.add j) = some (.int .i64 ds[j]) := by
    rw [World.cell?_of_block (w := w) (by rw [block_of_add]; exact HG1.out.block _ hlt (fun e => by injection e with e; exact hA ad hAd e))]; exact hc
  have hi1 : (j : Int) < (n : Int) := by omega
  have HM := Lib.hid (List.getElem_mem hjl)
  subst hAd
  clear hc xn
  go_wp2
  go_ret
  exact ⟨_, rfl, HM.out, HS1.out, HG1.out⟩
set_option maxHeartbeats 800000 in
theorem l00From_any (A : Option Addr) (n c : Nat) (bs : List UInt8) (w : World) (hb : RB w A n bs) (hn : n ≤ 9223372036854775807) :
    Calls Tryz.prog 33 #[.slice A n c] w fun e w' => e = .returned (.pointer (some ⟨w.heap.size, 0, none⟩)) ∧ Src w' w.heap.size 0 ∧ Below w.heap.size w w' := by
  have HB := Lib.hid hb; clear hb
  go_enter Tryz.func33, Tryz.ntmps33
  go_wp2
  go_ret
  have hba : Below w.heap.size w (w.alloc (.cells #[.slice A n c, .int .i64 0, .int .u64 0] 108)) := (Below.refl _ _).alloc (Nat.le_refl _) _
  exact ⟨rfl, ⟨A, n, c, 0, 0, bs, by go_simp, by go_simp, by go_simp, by go_simp, by go_simp, HB.out.below hba, Nat.le_refl _, hn, (fun h0 ad e => by obtain ⟨ad', e', hl, -⟩ := HB.out.2 h0; rw [e] at e'; injection e' with e'; rw [e']; exact hl), by simp⟩, hba⟩
set_option maxRecDepth 100000 in
set_option maxHeartbeats 1600000 in
theorem l02DrawDigits_any (b N : Nat) (base : Int) (width : Nat) (w : World) (h : Src w b N) (hN : N + width * 4 ≤ 900000) (hb2 : 2 ≤ base) (hb16 : base ≤ 1000) (hw : width ≤ 1000) :
    Calls Tryz.prog 95 #[.pointer (some ⟨b, 0, none⟩), .int .i64 base, .int .i64 width] w fun e w' => ∃ A c ds, e = .returned (.slice A width c) ∧ OwnI w' w.heap.size (.slice A width c) ds ∧ ds.length = width ∧ (∀ d ∈ ds, 0 ≤ d ∧ d < base) ∧ Src w' b (N + width * 4) ∧ w.grownBy w' (some b) := by
  have H := Lib.hid h
  have hlt := h.lt
  clear h
  go_enter Tryz.func95, Tryz.ntmps95
  go_wp2_with fail
  go_loopw [8, 7] (fun kk out wr => ∃ (k : Nat) (ds : List Int), k ≤ width ∧ kk = .int .i64 k ∧ OwnI wr w.heap.size out ds ∧ ds.length = k ∧ (∀ d ∈ ds, 0 ≤ d ∧ d < base) ∧ Src wr b (N + k * 4) ∧ w.grownBy wr (some b)) (fun kk _ _ => width - (intOf kk).toNat)
  case atStart =>
    have hba : Below w.heap.size w (w.alloc (.cells #[] 2)) := (Below.refl _ _).alloc (Nat.le_refl _) _
    exact ⟨0, [], Nat.zero_le _, rfl, ⟨rfl, .inr ⟨w.heap.size, 0, #[], rfl, Nat.le_refl _, heap_alloc_new _ _, Nat.le_refl _, by decide, rfl, rfl⟩⟩, rfl, (fun d hd => by cases hd), by simpa using H.out.below hba, ofBelow hba _⟩
  case round =>
    obtain ⟨k, ds, hk, rfl, hown, hlen, hds, hsr, hg⟩ := hrel
    have HO := Lib.hid hown
    have HD := Lib.hid hds
    have HS := Lib.hid hsr
    have HG := Lib.hid hg
    have HL := Lib.hid hlen
    have hwz := hg.size
    clear hown hds hsr hg hlen
    by_cases hkn : k < width
    · have hi1 : (k : Int) < (width : Int) := by omega
      go_wp2_with fail
      refine (pick_any b _ base wr HS.out (by omega)).mono ?_; rintro e w1 ⟨x, rfl, x0, xn, hs1, hg1⟩
      have HS1 := Lib.hid hs1
      have HG1 := Lib.hid (gtrans HG.out hg1)
      have HO1 := Lib.hid (HO.out.grown hg1 hlt)
      have hz1 := hg1.size
      have hxb : x < base := by omega
      clear hs1 hg1 xn
      go_wp2_with fail
      refine (one_any b _ 3 w1 HS1.out (by omega)).mono ?_; rintro e w2 ⟨y, rfl, hs2, hg2⟩
      have HS2 := Lib.hid hs2
      have HG2 := Lib.hid (gtrans HG1.out hg2)
      have HO2 := Lib.hid (HO1.out.grown hg2 hlt)
      have hz2 := hg2.size
      have hlen := HL.out
      clear hs2 hg2
      cases y
      · have HOB := Lib.hid (HO2.out.below ((Below.refl _ _).alloc (Nat.le_refl _) (.cells #[.int .i64 x] 2)))
        have hgb := gBelow HG2.out ((Below.refl _ _).alloc (Nat.le_refl _) (.cells #[.int .i64 x] 2))
        have hsb := HS2.out.below ((Below.refl _ _).alloc (Nat.le_refl _) (.cells #[.int .i64 x] 2))
        have HGB := Lib.hid hgb; clear hgb
        have HSB := Lib.hid hsb; clear hsb
        go_wp2_with (at_builtin; refine app1I rfl _ _ rfl w.heap.size _ ds rfl HOB.out w2.heap.size x rfl (heap_alloc_new _ _) (by omega) (by simp; omega) ?_; intro v5 w6 hown5 hg5 hv5)
        have hlo := ownI_lo HOB.out
        have HGF := Lib.hid (gMore HGB.out hg5 hlo)
        have HSF := Lib.hid ((HSB.out.keep hg5.size (fun k hk => hg5.block k (by simp; omega) (fun e => by have := hlo k e.symm; omega))).mono (show N + k * 4 + 2 + 2 ≤ N + (k + 1) * 4 by omega))
        have HOF := Lib.hid hown5; clear hown5
        go_roundw
        case rel => exact ⟨k + 1, ds ++ [x], by omega, by go_num, HOF.out, by rw [List.length_append, HL.out]; rfl, fun d hd => by
          rcases List.mem_append.1 hd with hd | hd
          · exact HD.out d hd
          · rw [List.mem_singleton.1 hd]; omega, HSF.out, HGF.out⟩
        case measure => simp [intOf]; omega
      · have HOB := Lib.hid (HO2.out.below ((Below.refl _ _).alloc (Nat.le_refl _) (.cells #[.int .i64 (base - 1)] 2)))
        have hgb := gBelow HG2.out ((Below.refl _ _).alloc (Nat.le_refl _) (.cells #[.int .i64 (base - 1)] 2))
        have hsb := HS2.out.below ((Below.refl _ _).alloc (Nat.le_refl _) (.cells #[.int .i64 (base - 1)] 2))
        have HGB := Lib.hid hgb; clear hgb
        have HSB := Lib.hid hsb; clear hsb
        go_wp2_with (at_builtin; refine app1I rfl _ _ rfl w.heap.size _ ds rfl HOB.out w2.heap.size (base - 1) rfl (heap_alloc_new _ _) (by omega) (by simp; omega) ?_; intro v5 w6 hown5 hg5 hv5)
        have hlo := ownI_lo HOB.out
        have HGF := Lib.hid (gMore HGB.out hg5 hlo)
        have HSF := Lib.hid ((HSB.out.keep hg5.size (fun k hk => hg5.block k (by simp; omega) (fun e => by have := hlo k e.symm; omega))).mono (show N + k * 4 + 2 + 2 ≤ N + (k + 1) * 4 by omega))
        have HOF := Lib.hid hown5; clear hown5
        go_roundw
        case rel => exact ⟨k + 1, ds ++ [(base - 1)], by omega, by go_num, HOF.out, by rw [List.length_append, HL.out]; rfl, fun d hd => by
          rcases List.mem_append.1 hd with hd | hd
          · exact HD.out d hd
          · rw [List.mem_singleton.1 hd]; omega, HSF.out, HGF.out⟩
        case measure => simp [intOf]; omega
    · have HK : Hid (k = width) := by simp only [Hid]; omega
      obtain ⟨AO, cO, rfl, -⟩ := HO.out.reads
      have HE : Hid (ds.length = width) := by simp only [Hid]; have := HL.out; have := HK.out; omega
      have HOW : Hid (OwnI wr w.heap.size (.slice AO width cO) ds) := by have h := HO.out; rw [HE.out] at h; exact h
      have HSF : Hid (Src wr b (N + width * 4)) := HS.out.mono (by have := HK.out; omega)
      rw [HE.out]
      go_wp2
      go_ret
      exact ⟨AO, cO, ds, rfl, HOW.out, HE.out, HD.out, HSF.out, HG.out⟩
end Go.Proofs.YtafnebpbfmbgiaaGreatDoor

namespace Go.Proofs.YtafnebpbfmbgiaaGreatDoor
open Go.RowKit Go.Sort
/-- w with its first n blocks alone -/
def trunc (w : World) (n : Nat) : World := { w with heap := w.heap.extract 0 n }
theorem trunc_size {w : World} {n : Nat} (h : n ≤ w.heap.size) : (trunc w n).heap.size = n := by
  simp only [trunc, Array.size_extract]; omega
theorem trunc_get {w : World} {n k : Nat} (h : n ≤ w.heap.size) (hk : k < n) : (trunc w n).heap[k]? = w.heap[k]? := by
  simp only [trunc, Array.getElem?_extract, Nat.sub_zero, Nat.zero_add]
  rw [if_pos (by omega)]
theorem trunc_below {w : World} {n : Nat} (h : n ≤ w.heap.size) : Below (trunc w n).heap.size (trunc w n) w := by
  rw [trunc_size h]
  exact ⟨rfl, rfl, rfl, by rw [trunc_size h]; exact h, fun k hk => (trunc_get h hk).symm⟩
/-- v is w with block b turned -/
def Tw (b : Nat) (w v : World) : Prop := w.grownBy v (some b) ∧ v.heap.size = w.heap.size
theorem Tw.refl (b : Nat) (w : World) : Tw b w w := ⟨gRefl w _, rfl⟩
theorem Tw.of {b : Nat} {w w' : World} (h : w.grownBy w' (some b)) : Tw b w (trunc w' w.heap.size) :=
  ⟨⟨h.os, h.tape, h.output, by rw [trunc_size h.size]; exact Nat.le_refl _, fun k hk hne => (trunc_get h.size hk).trans (h.block k hk hne)⟩, trunc_size h.size⟩
theorem Src.trunc {b N : Nat} {w : World} {n : Nat} (h : Src w b N) (hb : b < n) (hn : n ≤ w.heap.size) : Src (trunc w n) b N := by
  obtain ⟨A, m, c, k, seed, bs, c0, c1, c2, f1, f2, hB, hkN, hm, hne, hlt⟩ := h
  have hbl : ∀ k, k ≤ b → (Go.Proofs.YtafnebpbfmbgiaaGreatDoor.trunc w n).heap[k]? = w.heap[k]? := fun k hk => trunc_get hn (by omega)
  have hcell : ∀ o, (Go.Proofs.YtafnebpbfmbgiaaGreatDoor.trunc w n).cell? ⟨b, o, none⟩ = w.cell? ⟨b, o, none⟩ := fun o => World.cell?_of_block (hbl b (Nat.le_refl _))
  have hfz : ∀ o, (Go.Proofs.YtafnebpbfmbgiaaGreatDoor.trunc w n).frozen? ⟨b, o, none⟩ = w.frozen? ⟨b, o, none⟩ := fun o => World.frozen?_of_block (hbl b (Nat.le_refl _))
  refine ⟨A, m, c, k, seed, bs, by rw [hcell]; exact c0, by rw [hcell]; exact c1, by rw [hcell]; exact c2, by rw [hfz]; exact f1, by rw [hfz]; exact f2, ⟨hB.1, fun h0 => ?_⟩, hkN, hm, hne, by rw [trunc_size hn]; exact hb⟩
  obtain ⟨ad, e, hl, hc⟩ := hB.2 h0
  have hab := hne h0 ad e
  refine ⟨ad, e, by rw [trunc_size hn]; omega, fun j u hu => ?_⟩
  rw [World.cell?_of_block (w := w) (by rw [block_of_add]; exact hbl _ (by omega))]
  exact hc j u hu
/-- what a draw leaves: the source's block is turned, and the call owns the things of m -/
def DR (b N : Nat) (w : World) (m : List Ent) (w' : World) : Prop := ∃ v, Tw b w v ∧ Src v b N ∧ Kn v m w'
theorem DR.src {b N : Nat} {w : World} {m : List Ent} {w' : World} (h : DR b N w m w') : Src w' b N := by
  obtain ⟨v, -, hS, hK⟩ := h
  exact hS.below hK.below
theorem DR.of {b N : Nat} {w w' : World} (hs : Src w' b N) (hg : w.grownBy w' (some b)) (hb : b < w.heap.size) : DR b N w [] w' :=
  ⟨_, Tw.of hg, hs.trunc hb hg.size, (Kn.nil _).keep (trunc_below hg.size)⟩
theorem DR.nil {b N : Nat} {w : World} (hs : Src w b N) : DR b N w [] w := ⟨w, Tw.refl b w, hs, Kn.nil w⟩
theorem DR.mono {b N M : Nat} {w w' : World} {m : List Ent} (h : DR b N w m w') (hm : N ≤ M) : DR b M w m w' := by
  obtain ⟨v, hT, hS, hK⟩ := h
  exact ⟨v, hT, hS.mono hm, hK⟩
theorem DR.kn {b N : Nat} {w w' : World} {m m' : List Ent} (h : DR b N w m w') {w2 : World} (f : ∀ v, Kn v m w' → Kn v m' w2) : DR b N w m' w2 := by
  obtain ⟨v, hT, hS, hK⟩ := h
  exact ⟨v, hT, hS, f v hK⟩
theorem Kn.tw {b : Nat} {w v : World} {m : List Ent} {wi wi' : World} (hT : Tw b w v) (hK : Kn v m wi) (hb : b < w.heap.size) (hg : wi.grownBy wi' (some b)) : Tw b w (trunc wi' w.heap.size) ∧ Kn (trunc wi' w.heap.size) m wi' := by
  have hs : w.heap.size ≤ wi.heap.size := by have := hK.size; rw [hT.2] at this; exact this
  have hs' : w.heap.size ≤ wi'.heap.size := Nat.le_trans hs hg.size
  have hbw := hK.below
  refine ⟨⟨⟨hg.os.trans (hbw.os.trans hT.1.os), hg.tape.trans (hbw.tape.trans hT.1.tape), hg.output.trans (hbw.output.trans hT.1.output), by rw [trunc_size hs']; exact Nat.le_refl _, fun k hk hne => ?_⟩, trunc_size hs'⟩, trunc_below hs', fun e he => ?_, fun e he k hk => ?_, hK.apart⟩
  · rw [trunc_get hs' hk, hg.block k (by omega) hne, hbw.block k (by rw [hT.2]; exact hk)]
    exact hT.1.block k hk hne
  · refine Ent.stable (hK.ents e he) hg.size (fun k hk => hg.block k (Ent.lt (hK.ents e he) hk) (fun h2 => ?_))
    have h3 := hK.own e he k hk
    rw [hT.2] at h3
    injection h2 with h2
    omega
  · rw [trunc_size hs']
    have h3 := hK.own e he k hk
    rw [hT.2] at h3
    exact h3
theorem Tw.grown {b : Nat} {w v : World} (h : Tw b w v) : w.grownBy v (some b) := h.1
/-- one draw behind another -/
theorem DR.join {b N M : Nat} {w wi w' : World} {m m' : List Ent} (h : DR b N w m wi) (h1 : DR b M wi m' w') (hb : b < w.heap.size) : DR b M w (m' ++ m) w' := by
  obtain ⟨v, hT, hS, hK⟩ := h
  obtain ⟨v1, hT1, hS1, hK1⟩ := h1
  have hs : w.heap.size ≤ wi.heap.size := by have := hK.size; rw [hT.2] at this; exact this
  have hs1 : w.heap.size ≤ v1.heap.size := by rw [hT1.2]; exact hs
  obtain ⟨h2, h3⟩ := hK.tw hT hb hT1.1
  exact ⟨_, h2, hS1.trunc hb hs1, h3.join hK1⟩
/-- a source of the call's own -/
theorem Kn.ofDR {w w1 w2 : World} {b N : Nat} {m : List Ent} (hb : Below w.heap.size w w1) (hlo : w.heap.size ≤ b) (h : DR b N w1 m w2) : Kn w m w2 := by
  obtain ⟨v, hT, -, hK⟩ := h
  exact hK.mono (belowG hb hT.1 hlo hb.size)
theorem pick_dr (b N : Nat) (n : Int) (w : World) (h : Src w b N) (hN : N ≤ 999999) :
    Calls Tryz.prog 35 #[.pointer (some ⟨b, 0, none⟩), .int .i64 n] w fun e w' => ∃ x : Int, e = .returned (.int .i64 x) ∧ (0 ≤ x ∧ (x < n ∨ (n ≤ 1 ∧ x = 0))) ∧ DR b (N + 2) w [] w' := by
  refine (pick_any b N n w h hN).mono ?_
  rintro e w' ⟨x, rfl, h0, h1, hs, hg⟩
  exact ⟨x, rfl, ⟨h0, h1⟩, .of hs hg h.lt⟩
theorem one_dr (b N : Nat) (n : Int) (w : World) (h : Src w b N) (hN : N ≤ 999999) :
    Calls Tryz.prog 34 #[.pointer (some ⟨b, 0, none⟩), .int .i64 n] w fun e w' => ∃ x : Bool, e = .returned (.bool x) ∧ DR b (N + 2) w [] w' := by
  refine (one_any b N n w h hN).mono ?_
  rintro e w' ⟨x, rfl, hs, hg⟩
  exact ⟨x, rfl, .of hs hg h.lt⟩
theorem among_dr (b N : Nat) (A : Option Addr) (n c : Nat) (ds : List Int) (w : World) (h : Src w b N) (hN : N ≤ 999999) (hr : RI w A n ds) (hA : ∀ ad, A = some ad → ad.block ≠ b) (hn0 : 0 < n) (hn : n ≤ 1000000) :
    Calls Tryz.prog 88 #[.pointer (some ⟨b, 0, none⟩), .slice A n c] w fun e w' => ∃ x : Int, e = .returned (.int .i64 x) ∧ x ∈ ds ∧ DR b (N + 2) w [] w' := by
  refine (among_any b N A n c ds w h hN hr hA hn0 hn).mono ?_
  rintro e w' ⟨x, rfl, hx, hs, hg⟩
  exact ⟨x, rfl, hx, .of hs hg h.lt⟩
theorem digits_dr (b N : Nat) (base : Int) (width : Nat) (w : World) (h : Src w b N) (hN : N + width * 4 ≤ 900000) (hb2 : 2 ≤ base) (hb16 : base ≤ 1000) (hw : width ≤ 1000) :
    Calls Tryz.prog 95 #[.pointer (some ⟨b, 0, none⟩), .int .i64 base, .int .i64 width] w fun e w' => ∃ A c ds, e = .returned (.slice A width c) ∧ ds.length = width ∧ (∀ d ∈ ds, 0 ≤ d ∧ d < base) ∧ DR b (N + width * 4) w [rowI A c ds] w' := by
  refine (l02DrawDigits_any b N base width w h hN hb2 hb16 hw).mono ?_
  rintro e w' ⟨A, c, ds, rfl, ho, hl, hd, hs, hg⟩
  refine ⟨A, c, ds, rfl, hl, hd, _, Tw.of hg, hs.trunc h.lt hg.size, ?_⟩
  have hk := (Kn.nil (trunc w' w.heap.size)).addI (trunc_below hg.size) (by rw [trunc_size hg.size]; exact ho)
  rw [← hl] at hk
  exact hk
end Go.Proofs.YtafnebpbfmbgiaaGreatDoor

namespace Go.Proofs.YtafnebpbfmbgiaaGreatDoor
open Go.RowKit Go.Sort
section
variable {b N : Nat} {w wi : World} {m : List Ent}
theorem DR.al (h : DR b N w m wi) (l : List Value) (T : TypeId) : DR b N w (.blk wi.heap.size l T :: m) (wi.alloc (.cells l.toArray T)) := h.kn (fun _ hK => hK.al l T)
theorem DR.al_ (h : DR b N w m wi) (o : Obj) : DR b N w m (wi.alloc o) := h.kn (fun _ hK => hK.al_ o)
theorem DR.st {g : Nat} {l : List Value} {T : TypeId} (h : DR b N w (.blk g l T :: m) wi) (j : Nat) (v : Value) : DR b N w (.blk g (l.set j v) T :: m) (wi.setCell ⟨g, j, none⟩ v) := h.kn (fun _ hK => hK.st j v)
theorem DR.drew (h : DR b N w m wi) : DR b N w m wi.drew := h.kn (fun _ hK => hK.drew)
theorem DR.front (h : DR b N w m wi) (i : Nat) {e : Ent} (hi : m[i]? = some e) : DR b N w (e :: m.eraseIdx i) wi := h.kn (fun _ hK => hK.front i hi)
theorem DR.sel (h : DR b N w m wi) (is : List Nat) (n : Nat) (h1 : is.Nodup) (h2 : ∀ i ∈ is, i < n) : DR b N w (is.filterMap (fun i => m[i]?) ++ m.drop n) wi := h.kn (fun _ hK => hK.sel is n h1 h2)
theorem DR.cells (h : DR b N w m wi) : Cells m wi := by
  obtain ⟨v, -, -, hK⟩ := h
  exact hK.cells
theorem DR.lt (h : DR b N w m wi) : b < w.heap.size := by
  obtain ⟨v, hT, hS, -⟩ := h
  have := hS.lt
  rw [hT.2] at this
  exact this
theorem DR.add (h : DR b N w m wi) {M : Nat} {w' : World} {m' : List Ent} (h1 : DR b M wi m' w') : DR b M w (m' ++ m) w' := h.join h1 h.lt
theorem DR.keep (h : DR b N w m wi) {w' : World} (hb : Below wi.heap.size wi w') : DR b N w m w' := h.kn (fun _ hK => hK.keep hb)
theorem DR.box2 {g : Nat} {v0 v1 : Value} {T : TypeId} (h : DR b N w (.blk g [v0, v1] T :: m) wi) : wi.cell? ⟨g, 0, none⟩ = some v0 ∧ wi.cell? ⟨g, 1, none⟩ = some v1 := by
  obtain ⟨v, -, -, hK⟩ := h
  exact Go.Proofs.YtafnebpbfmbgiaaGreatDoor.box2 hK
theorem Calls.dr {P : Program} {f : FuncId} {args : Array Value} {R : Ending → World → Prop} (h : DR b N w m wi) (k : ∀ W, DR b N w m W → Calls P f args W R) : Calls P f args wi R := k wi h
theorem Code.wp.dr {P : Program} {c : Code} {Q : Exit → Act → World → Prop} {a : Act} (h : DR b N w m wi) (k : ∀ W, DR b N w m W → c.wp P Q a W) : c.wp P Q a wi := k wi h
theorem bodyPost.dr {P : Program} {f : Func} {R : Ending → World → Prop} {x : Exit} {a : Act} (h : DR b N w m wi) (k : ∀ W, DR b N w m W → bodyPost P f R x a W) : bodyPost P f R x a wi := k wi h
end
theorem DR.lit {b N : Nat} {w wi : World} {m : List Ent} {g : Nat} {ds : List Int} (h : DR b N w (.blk g (ds.map (Value.int .i64)) 2 :: m) wi) (hd : ds.length ≤ 1000) :
    RI wi (some ⟨g, 0, none⟩) ds.length ds ∧ (∀ ad, some (⟨g, 0, none⟩ : Addr) = some ad → ad.block ≠ b) := by
  obtain ⟨v, -, hS, hK⟩ := h
  have hb := hS.lt
  have ho := hK.own _ (List.mem_cons_self ..) g rfl
  have hr : Kn v (rowI (some ⟨g, 0, none⟩) ds.length ds :: m) wi := hK.litRow (size := 1) (n := ds.length) (by simp) (by unfold maxLen; omega)
  refine ⟨Kn.riv hr, fun ad he => ?_⟩
  injection he with he
  subst he
  show g ≠ b
  omega
end Go.Proofs.YtafnebpbfmbgiaaGreatDoor

/- rows of instructions -/
namespace Go.Proofs.YtafnebpbfmbgiaaGreatDoor
open Go.RowKit Go.Sort
def cellsIns (xs : List Ins) : List Value := xs.flatMap fun x => [.int .i64 x.op, .int .i64 x.arg]
theorem cellsIns_len (xs : List Ins) : (cellsIns xs).length = xs.length * 2 := by
  induction xs with
  | nil => rfl
  | cons x xs ih => unfold cellsIns at *; rw [List.flatMap_cons, List.length_append, ih]; simp; omega
theorem cellsIns_snoc (xs : List Ins) (x : Ins) : cellsIns (xs ++ [x]) = cellsIns xs ++ [.int .i64 x.op, .int .i64 x.arg] := by simp [cellsIns]
theorem cellsIns_get : ∀ (xs : List Ins) (k : Nat) (h : k < xs.length), (cellsIns xs)[k * 2]? = some (.int .i64 xs[k].op) ∧ (cellsIns xs)[k * 2 + 1]? = some (.int .i64 xs[k].arg)
  | [], k, h => by simp at h
  | x :: xs, 0, h => by simp [cellsIns]
  | x :: xs, k + 1, h => by
    have h1 := cellsIns_get xs k (by simpa using h)
    have h2 : cellsIns (x :: xs) = .int .i64 x.op :: .int .i64 x.arg :: cellsIns xs := by simp [cellsIns]
    rw [h2, show (k + 1) * 2 = k * 2 + 1 + 1 by omega]
    simp only [List.getElem?_cons_succ, List.getElem_cons_succ]
    exact h1
theorem cellsIns_one (xs : List Ins) : ∀ u ∈ cellsIns xs, u.oneCell' = true := by
  intro u hu
  obtain ⟨x, -, h⟩ := List.mem_flatMap.1 hu
  simp at h
  rcases h with rfl | rfl <;> rfl
def rowIns (v : Value) (xs : List Ins) : Ent := .row v 93 2 xs.length (cellsIns xs)
theorem tpIns : TP 46 93 (.agg #[.int .i64 0, .int .i64 0]) 2 16 := ⟨Tryz.underlying46, by kernel_rfl, rfl, by decide⟩
theorem Kn.rlIns {w0 w : World} {m : List Ent} {A : Option Addr} {n c : Nat} {xs : List Ins} (h : Kn w0 (rowIns (.slice A n c) xs :: m) w) : n = xs.length ∧ RL InsM 2 w A n xs := by
  have h0 : w.ownsRow 0 93 2 (.slice A n c) xs.length (cellsIns xs) := h.at0
  rcases h0.2 with ⟨hv, hn⟩ | ⟨g, cap, cur, hv, -, hg, -⟩
  · injection hv with h1 h2 h3
    exact ⟨by omega, by omega, fun h => by omega⟩
  · injection hv with h1 h2 h3
    refine ⟨h2, h2.symm, fun h => ⟨_, h1, (Array.getElem?_eq_some_iff.1 hg).1, fun k hk => ?_⟩⟩
    obtain ⟨c1, c2⟩ := cellsIns_get xs k hk
    rw [h1] at h0
    have d1 := h0.cells (g := g) rfl _ _ c1
    have d2 := h0.cells (g := g) rfl _ _ c2
    refine ⟨d1, ?_⟩
    rw [add_zero_block] at d2 ⊢
    exact d2
theorem Kn.nilIns {w0 w : World} {m : List Ent} (h : Kn w0 m w) : Kn w0 (rowIns (.slice none 0 0) [] :: m) w := h.nilRow _ _
end Go.Proofs.YtafnebpbfmbgiaaGreatDoor

namespace Go.Proofs.YtafnebpbfmbgiaaGreatDoor
open Go.RowKit Go.Sort
theorem cellsIns_app (xs ys : List Ins) : cellsIns (xs ++ ys) = cellsIns xs ++ cellsIns ys := by simp [cellsIns]
theorem kn_pushIns {ops : Array Oper} {rest : List Oper} {o : Oper} {a : Act} {Q : Exit → Act → World → Prop} {w0 w : World} {m : List Ent} (hgd : o.guard = none) (s x : Operand) (ho : o.op = .call { callee := .builtin .append, args := #[s, x], argTypes := #[46, 46] })
    (v : Value) (xs ys : List Ins) (hs : a.eval s = v) {g c : Nat} {T' : TypeId} (hx : a.eval x = .slice (some ⟨g, 0, none⟩) ys.length c)
    (hK : Kn w0 (.blk g (cellsIns ys) T' :: rowIns v xs :: m) w) (hl : xs.length + ys.length ≤ 10000000)
    (h : ∀ v' w', Kn w0 (rowIns v' (xs ++ ys) :: m) w' → wpList Tryz.prog ops Q rest (a.put o.dst v') w') : wpList Tryz.prog ops Q (o :: rest) a w := by
  refine kn_app tpIns hgd s x ho v xs.length (cellsIns xs) hs hx hK (cellsIns_len ys) (cellsIns_one ys) (by omega) (by omega) (fun v' w' hK' => h v' w' ?_)
  unfold rowIns
  rw [List.length_append, cellsIns_app]
  exact hK'
/-- the program that divides -/
def divHead (p : Nat) : List Ins := if 1 < p then [⟨4, (p : Int) - 1⟩] else []
def divPart (p j : Nat) : List Ins := [⟨9, 0⟩, ⟨3, 1⟩, ⟨10, 0⟩, ⟨2, 1⟩] ++ (if j + 1 < p then [⟨5, 1⟩] else [])
def divUpto (p : Nat) : Nat → List Ins
  | 0 => divHead p
  | j + 1 => divUpto p j ++ divPart p j
def divProg (p : Nat) : List Ins := divUpto p p
theorem divUpto_len (p j : Nat) : (divUpto p j).length ≤ 1 + 5 * j := by
  induction j with
  | zero => simp only [divUpto, divHead]; split <;> simp
  | succ j ih => simp only [divUpto, divPart, List.length_append]; split <;> simp <;> omega
theorem divProg_ok {p : Nat} (h1 : 1 ≤ p) (h2 : p ≤ 16) : vprog (divProg p) = true := by
  have H : ∀ p : Fin 17, 1 ≤ p.val → vprog (divProg p.val) = true := by decide +kernel
  exact H ⟨p, by omega⟩ h1
set_option maxRecDepth 100000 in
set_option maxHeartbeats 1600000 in
theorem l12Divide_any (p : Nat) (w : World) (h1 : 1 ≤ p) (h2 : p ≤ 16) :
    Calls Tryz.prog 56 #[.int .i64 p] w fun e w' => ∃ A c, e = .returned (.slice A (divProg p).length c) ∧ Kn w [rowIns (.slice A (divProg p).length c) (divProg p)] w' := by
  have HD0 := Lib.hid (show divUpto p 0 = divHead p from rfl)
  have HDS := Lib.hid (fun j => show divUpto p (j + 1) = divUpto p j ++ divPart p j from rfl)
  have HLN := Lib.hid (divUpto_len p)
  have HPR := Lib.hid (show divProg p = divUpto p p from rfl)
  go_enter Tryz.func56, Tryz.ntmps56
  by_cases hp1 : 1 < p
  · have hi1 : (1 : Int) < (p : Int) := by omega
    have hhl : divHead p = [] ++ [⟨4, (p : Int) - 1⟩] := by unfold divHead; rw [if_pos hp1]; rfl
    have HHL := Lib.hid hhl
    clear hhl
    have hK1 := (((Kn.nil w).al [] 93).litRow (size := 2) (n := 0) rfl (by decide)).al [.int .i64 4, .int .i64 ((p : Int) - 1)] 93
    simp only [World.size_alloc] at hK1
    go_wp2_with (at_builtin; refine kn_pushIns (m := []) (xs := []) (ys := [⟨4, (p : Int) - 1⟩]) rfl _ _ rfl _ rfl rfl hK1 (by simp) ?_; intro v2 w2 hK2; rw [← HHL.out, ← HD0.out] at hK2)
    go_loopw [3, 4] (fun vv kk wr => ∃ (j : Nat), j ≤ p ∧ kk = .int .i64 ((p - j : Nat) : Int) ∧ Kn w [rowIns vv (divUpto p j)] wr) (fun _ kk _ => (intOf kk).toNat)
    case atStart => exact ⟨0, Nat.zero_le _, rfl, hK2⟩
    case round =>
      clear hK2
      obtain ⟨j, hj, rfl, hK⟩ := hrel
      have hln := HLN.out j
      obtain ⟨ds, hds⟩ : ∃ ds, divUpto p j = ds := ⟨_, rfl⟩
      have HDJ := Lib.hid hds
      have HNX := Lib.hid (HDS.out j)
      rw [hds] at hK hln
      obtain ⟨A0, c0, rfl⟩ := row_form hK.at0
      by_cases hjp : j < p
      · have hi2 : (0 : Int) < ((p - j : Nat) : Int) := by omega
        by_cases hl : j + 1 < p
        · have hi3 : (1 : Int) < ((p - j : Nat) : Int) := by omega
          have HP := Lib.hid (show divPart p j = [⟨9, 0⟩, ⟨3, 1⟩, ⟨10, 0⟩, ⟨2, 1⟩] ++ [⟨5, 1⟩] by unfold divPart; rw [if_pos hl])
          clear hds
          go_wp2_with (first
            | (at_builtin; refine kn_pushIns (m := []) (ys := [⟨9, 0⟩, ⟨3, 1⟩, ⟨10, 0⟩, ⟨2, 1⟩]) rfl _ _ rfl _ ds rfl rfl (hK.al [.int .i64 9, .int .i64 0, .int .i64 3, .int .i64 1, .int .i64 10, .int .i64 0, .int .i64 2, .int .i64 1] 93) (by simp; omega) ?_; intro v3 w3 hK3; clear hK)
            | (at_builtin; refine kn_pushIns (m := []) (ys := [⟨5, 1⟩]) rfl _ _ rfl _ (ds ++ [⟨9, 0⟩, ⟨3, 1⟩, ⟨10, 0⟩, ⟨2, 1⟩]) rfl rfl (hK3.al [.int .i64 5, .int .i64 1] 93) (by simp; omega) ?_; intro v4 w4 hK4))
          go_roundw
          case rel => exact ⟨j + 1, by omega, by (congr 1; omega), by rw [HNX.out, HP.out, HDJ.out, ← List.append_assoc]; exact hK4⟩
          case measure => simp [intOf]; omega
        · have hi3 : ¬ (1 : Int) < ((p - j : Nat) : Int) := by omega
          have HP := Lib.hid (show divPart p j = [⟨9, 0⟩, ⟨3, 1⟩, ⟨10, 0⟩, ⟨2, 1⟩] by unfold divPart; rw [if_neg hl]; rfl)
          clear hds
          go_wp2_with (first
            | (at_builtin; refine kn_pushIns (m := []) (ys := [⟨9, 0⟩, ⟨3, 1⟩, ⟨10, 0⟩, ⟨2, 1⟩]) rfl _ _ rfl _ ds rfl rfl (hK.al [.int .i64 9, .int .i64 0, .int .i64 3, .int .i64 1, .int .i64 10, .int .i64 0, .int .i64 2, .int .i64 1] 93) (by simp; omega) ?_; intro v3 w3 hK3; clear hK))
          go_roundw
          case rel => exact ⟨j + 1, by omega, by (congr 1; omega), by rw [HNX.out, HP.out, HDJ.out]; exact hK3⟩
          case measure => simp [intOf]; omega
      · have hi2 : ¬ (0 : Int) < ((p - j : Nat) : Int) := by omega
        obtain rfl : j = p := by omega
        clear hds
        go_wp2_with fail
        go_ret
        exact ⟨A0, c0, by (rw [HPR.out, HDJ.out]; try rfl), by rw [HPR.out, HDJ.out]; exact hK⟩
  · have hi1 : ¬ (1 : Int) < (p : Int) := by omega
    have hhl : divHead p = [] := by unfold divHead; rw [if_neg hp1]
    have HHL := Lib.hid hhl
    clear hhl
    go_wp2_with fail
    have hK1 := ((Kn.nil w).al [] 93).litRow (size := 2) (n := 0) rfl (by decide)
    have hK2 : Kn w [rowIns (.slice (some ⟨w.heap.size, 0, none⟩) 0 0) (divUpto p 0)] (w.alloc (.cells #[] 93)) := by rw [HD0.out, HHL.out]; exact hK1
    go_loopw [3, 4] (fun vv kk wr => ∃ (j : Nat), j ≤ p ∧ kk = .int .i64 ((p - j : Nat) : Int) ∧ Kn w [rowIns vv (divUpto p j)] wr) (fun _ kk _ => (intOf kk).toNat)
    case atStart => exact ⟨0, Nat.zero_le _, rfl, hK2⟩
    case round =>
      clear hK2
      obtain ⟨j, hj, rfl, hK⟩ := hrel
      have hln := HLN.out j
      obtain ⟨ds, hds⟩ : ∃ ds, divUpto p j = ds := ⟨_, rfl⟩
      have HDJ := Lib.hid hds
      have HNX := Lib.hid (HDS.out j)
      rw [hds] at hK hln
      obtain ⟨A0, c0, rfl⟩ := row_form hK.at0
      by_cases hjp : j < p
      · have hi2 : (0 : Int) < ((p - j : Nat) : Int) := by omega
        by_cases hl : j + 1 < p
        · exfalso; omega
        · have hi3 : ¬ (1 : Int) < ((p - j : Nat) : Int) := by omega
          have HP := Lib.hid (show divPart p j = [⟨9, 0⟩, ⟨3, 1⟩, ⟨10, 0⟩, ⟨2, 1⟩] by unfold divPart; rw [if_neg hl]; rfl)
          clear hds
          go_wp2_with (first
            | (at_builtin; refine kn_pushIns (m := []) (ys := [⟨9, 0⟩, ⟨3, 1⟩, ⟨10, 0⟩, ⟨2, 1⟩]) rfl _ _ rfl _ ds rfl rfl (hK.al [.int .i64 9, .int .i64 0, .int .i64 3, .int .i64 1, .int .i64 10, .int .i64 0, .int .i64 2, .int .i64 1] 93) (by simp; omega) ?_; intro v3 w3 hK3; clear hK))
          go_roundw
          case rel => exact ⟨j + 1, by omega, by (congr 1; omega), by rw [HNX.out, HP.out, HDJ.out]; exact hK3⟩
          case measure => simp [intOf]; omega
      · have hi2 : ¬ (0 : Int) < ((p - j : Nat) : Int) := by omega
        obtain rfl : j = p := by omega
        clear hds
        go_wp2_with fail
        go_ret
        exact ⟨A0, c0, by (rw [HPR.out, HDJ.out]; try rfl), by rw [HPR.out, HDJ.out]; exact hK⟩
end Go.Proofs.YtafnebpbfmbgiaaGreatDoor
