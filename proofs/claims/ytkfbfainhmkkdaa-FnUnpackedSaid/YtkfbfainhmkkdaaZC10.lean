/- Part 10: lemmas and contracts of the claim's functions. -/
import Derived.Test.YtkfbfainhmkkdaaZC1
import Derived.Test.YtkfbfainhmkkdaaZC2
import Derived.Test.YtkfbfainhmkkdaaZC3
import Derived.Test.YtkfbfainhmkkdaaZC4
import Derived.Test.YtkfbfainhmkkdaaZC5
import Derived.Test.YtkfbfainhmkkdaaZC6
import Derived.Test.YtkfbfainhmkkdaaZC7
import Derived.Test.YtkfbfainhmkkdaaZC8
import Derived.Test.YtkfbfainhmkkdaaZC9
namespace Go.Proofs.Ytkfbfainhmkkdaa
open Go.RowKit Go.Sort
/-! what is packed, plainly -/
def prS (b : Int) (ds : List Int) : ByteArray := if vreg b ds = true then ⟨(packR b ds).toArray⟩ else ⟨#[]⟩
def prC (b : Int) (ds : List Int) : Int := if vreg b ds = true then 0 else 1
def pmS (t : Tri) : ByteArray := if vmach t = true then ⟨(packM t).toArray⟩ else ⟨#[]⟩
def pmC (t : Tri) : Int := if vmach t = true then 0 else 1
def ppS (xs : List Ins) : ByteArray := if vprog xs = true then ⟨(packP xs).toArray⟩ else ⟨#[]⟩
def ppC (xs : List Ins) : Int := if vprog xs = true then 0 else 1
def PKRet (s : ByteArray) (c : Int) (w : World) (e : Ending) (w' : World) : Prop := e = .returned (.tuple #[.string s, .int .i64 c]) ∧ Below w.heap.size w w'
theorem packR_head (b : Int) (ds : List Int) : ∃ tl, packR b ds = 82 :: tl := ⟨_, rfl⟩
theorem packM_head (t : Tri) : ∃ tl, packM t = 77 :: tl := ⟨_, rfl⟩
theorem packP_head (xs : List Ins) : ∃ tl, packP xs = 80 :: tl := ⟨_, rfl⟩
theorem unpR_pack {b : Int} {ds : List Int} (h : vreg b ds = true) : unpR (packR b ds) = some ⟨b, ds⟩ := by
  obtain ⟨more, hm⟩ : ∃ more, packR b ds = 82 :: (regB b ds ++ more) := ⟨_, rfl⟩
  obtain ⟨h1, h2, -, -⟩ := tk_regB b ds more h
  rw [hm, unpR, h1, h2]
  have h3 : (⟨b, ds⟩ : Reg).ok = true := h
  rw [h3, if_pos]
  show (true && true && decide (packR b ds = 82 :: (regB b ds ++ more))) = true
  rw [hm]; simp
theorem unpR_other {k : UInt8} {tl : List UInt8} (hk : k ≠ 82) : unpR (k :: tl) = none := by
  rw [unpR, if_neg]
  intro h
  simp only [Bool.and_eq_true, decide_eq_true_eq] at h
  obtain ⟨tl2, h2⟩ := packR_head (tkReg tl).base (tkReg tl).digits
  rw [h2] at h
  injection h.2 with h3
  exact hk h3.symm
theorem unpM_other {k : UInt8} {tl : List UInt8} (hk : k ≠ 77) : unpM (k :: tl) = none := by
  cases tl with
  | nil => rfl
  | cons p r0 =>
    rw [unpM, if_neg]
    intro h
    simp only [Bool.and_eq_true, decide_eq_true_eq] at h
    obtain ⟨tl2, h2⟩ := packM_head ⟨tkReg r0, tkReg (tkRest r0), tkReg (tkRest (tkRest r0)), p.toNat⟩
    rw [h2] at h
    injection h.2 with h3
    exact hk h3.symm
theorem toB_back {z : Int} (h0 : 0 ≤ z) (h1 : z < 256) : ((toB z).toNat : Int) = z := by
  unfold toB
  rw [UInt8.toNat_ofNat']
  omega
theorem unpM_pack {t : Tri} (h : vmach t = true) : unpM (packM t) = some t := by
  obtain ⟨k1, k2, k3, c0, c1⟩ := vmach_five h
  obtain ⟨more, hm⟩ : ∃ more, packM t = 77 :: toB t.carry :: ((regB t.a.base t.a.digits ++ regB t.b.base t.b.digits ++ regB t.s.base t.s.digits) ++ more) := ⟨_, rfl⟩
  have hm2 : packM t = 77 :: toB t.carry :: (regB t.a.base t.a.digits ++ (regB t.b.base t.b.digits ++ (regB t.s.base t.s.digits ++ more))) := by rw [hm]; simp only [List.append_assoc]
  obtain ⟨-, a2, a3, -⟩ := tk_regB t.a.base t.a.digits (regB t.b.base t.b.digits ++ (regB t.s.base t.s.digits ++ more)) k1
  obtain ⟨-, b2, b3, -⟩ := tk_regB t.b.base t.b.digits (regB t.s.base t.s.digits ++ more) k2
  obtain ⟨-, d2, d3, -⟩ := tk_regB t.s.base t.s.digits more k3
  rw [hm2, unpM, a3, a2, b3, b2, d2, toB_back c0 (by omega)]
  rw [if_pos]
  rw [Bool.and_eq_true]
  exact ⟨h, decide_eq_true hm2⟩
theorem unpP_pack {xs : List Ins} (h : vprog xs = true) : unpP (packP xs) = some xs := (unpP_iff _ _).2 ⟨h, rfl⟩
theorem kind_R {b : Int} {ds : List Int} (h : vreg b ds = true) : kindB (packR b ds) = ⟨#[114, 101, 103, 105, 115, 116, 101, 114]⟩ := by
  unfold kindB; rw [unpR_pack h]; rfl
theorem kind_M {t : Tri} (h : vmach t = true) : kindB (packM t) = ⟨#[109, 97, 99, 104, 105, 110, 101]⟩ := by
  obtain ⟨tl, ht⟩ := packM_head t
  have h1 := unpR_other (k := 77) (tl := tl) (by decide)
  rw [← ht] at h1
  unfold kindB; rw [h1, unpM_pack h]; rfl
theorem kind_P {xs : List Ins} (h : vprog xs = true) : kindB (packP xs) = ⟨#[112, 114, 111, 103, 114, 97, 109]⟩ := by
  obtain ⟨tl, ht⟩ := packP_head xs
  have h1 := unpR_other (k := 80) (tl := tl) (by decide)
  have h2 := unpM_other (k := 80) (tl := tl) (by decide)
  rw [← ht] at h1 h2
  unfold kindB; rw [h1, h2, unpP_pack h]; rfl
theorem sealB_len (bs : List UInt8) : (sealB bs).length = bs.length + 2 := by unfold sealB; simp
theorem packR_len {b : Int} {ds : List Int} (h : vreg b ds = true) : (packR b ds).length ≤ 1000 := by
  obtain ⟨-, ⟨n1, n2⟩, -⟩ := vreg_iff.1 h
  unfold packR
  rw [sealB_len, List.length_cons, regB_len]
  omega
theorem packM_len {t : Tri} (h : vmach t = true) : (packM t).length ≤ 1000 := by
  obtain ⟨k1, k2, k3, c0, c1⟩ := vmach_five h
  have h1 := regB_le k1
  have h2 := regB_le k2
  have h3 := regB_le k3
  unfold packM
  rw [sealB_len]
  simp only [List.length_cons, List.length_append]
  omega
theorem packP_len {xs : List Ins} (h : vprog xs = true) : (packP xs).length ≤ 1000 := by
  obtain ⟨h1, h2⟩ := vprog_each h
  have h3 := flat_len h2
  unfold packP
  rw [sealB_len]
  unfold progB
  simp only [List.length_cons]
  omega
theorem PackRegister_any (b : Int) (A : Option Addr) (n c : Nat) (ds : List Int) (w : World) (hr : RI w A n ds) (hm : n ≤ 1000000) : Calls Try.prog 26 #[.agg #[.int .i64 b, .slice A n c]] w (PKRet (prS b ds) (prC b ds) w) := by
  unfold PKRet prS prC
  cases hv : vreg b ds with
  | true => exact PackRegister_true b A n c ds w hr hv
  | false => exact PackRegister_false b A n c ds w hr hm hv
theorem PackMachine_any (t : Tri) (A1 A2 A3 : Option Addr) (c1 c2 c3 : Nat) (w : World) (r1 : RI w A1 t.a.digits.length t.a.digits) (r2 : RI w A2 t.b.digits.length t.b.digits) (r3 : RI w A3 t.s.digits.length t.s.digits) (hs : SmallTri t) : Calls Try.prog 29 #[.agg #[.int .i64 t.a.base, .slice A1 t.a.digits.length c1, .int .i64 t.b.base, .slice A2 t.b.digits.length c2, .int .i64 t.s.base, .slice A3 t.s.digits.length c3, .int .i64 t.carry]] w (PKRet (pmS t) (pmC t) w) := by
  unfold PKRet pmS pmC
  cases hv : vmach t with
  | true => exact PackMachine_true t A1 A2 A3 c1 c2 c3 w r1 r2 r3 hv
  | false => exact PackMachine_false t A1 A2 A3 c1 c2 c3 w r1 r2 r3 hs hv
theorem PackProgram_any (A : Option Addr) (n c : Nat) (xs : List Ins) (w : World) (hr : RL InsM 2 w A n xs) (hm : n ≤ 9223372036854775807) : Calls Try.prog 32 #[.slice A n c] w (PKRet (ppS xs) (ppC xs) w) := by
  unfold PKRet ppS ppC
  cases hv : vprog xs with
  | true => exact PackProgram_true A n c xs w hr hv
  | false => exact PackProgram_false A n c xs w hr hm hv
set_option maxRecDepth 100000 in
set_option maxHeartbeats 1600000 in
theorem specPackProgram_any (A : Option Addr) (n c : Nat) (xs : List Ins) (w : World) (hr : RL InsM 2 w A n xs) (hm : n ≤ 9223372036854775807) : Calls Try.prog 33 #[.slice A n c] w (PKRet (ppS xs) (ppC xs) w) := by
  unfold PKRet ppS ppC
  have KO := l11Ok_any A n c xs w hr hm
  cases hv : vprog xs with
  | true =>
    rw [hv] at KO
    have KO := Lib.hid KO
    have KP := Lib.hid (fun W (hW : Below w.heap.size w W) => l27Program_any A n c xs W (hr.below steady_InsM hW) hv)
    clear hv
    go_enter Try.func33, Try.ntmps33
    go_wp2_with fail
    refine KO.out.mono ?_; rintro e w1 ⟨rfl, q, rfl⟩
    have K1 := (Kn.nil w).drewN q
    go_wp2_with fail
    refine (KP.out _ K1.below).mono ?_; rintro e w2 ⟨rfl, hw⟩
    have K2 := K1.keep hw
    go_wp2_with fail
    go_ret2
    exact ⟨rfl, K2.below⟩
  | false =>
    rw [hv] at KO
    have KO := Lib.hid KO
    clear hv
    go_enter Try.func33, Try.ntmps33
    go_wp2_with fail
    refine KO.out.mono ?_; rintro e w1 ⟨rfl, q, rfl⟩
    have K1 := (Kn.nil w).drewN q
    go_wp2_with fail
    go_ret2
    exact ⟨rfl, K1.below⟩
set_option maxRecDepth 100000 in
set_option maxHeartbeats 1600000 in
theorem specPackRegister_any (b : Int) (A : Option Addr) (n c : Nat) (ds : List Int) (w : World) (hr : RI w A n ds) (hm : n ≤ 1000000) : Calls Try.prog 27 #[.agg #[.int .i64 b, .slice A n c]] w (PKRet (prS b ds) (prC b ds) w) := by
  unfold PKRet prS prC
  have HR := Lib.hid (fun W (hW : Below w.heap.size w W) => hr.below hW)
  have KO := (fun W hp (hW : Below w.heap.size w W) => l02Ok_any ⟨w.heap.size, 0, none⟩ b A n c ds W hp (hr.below hW) (by omega))
  cases hv : vreg b ds with
  | true =>
    rw [hv] at KO
    have KO := Lib.hid KO
    obtain ⟨⟨b1, b2⟩, ⟨n1, n2⟩, hd, -⟩ := vreg_iff.1 hv
    have hln := hr.1
    have HD := Lib.hid hd
    have HPL := Lib.hid (show sealB ([82] ++ regB b ds) = packR b ds from rfl)
    clear hv hr hd
    go_enter Try.func27, Try.ntmps27
    go_wp2_with fail
    refine Calls.kn ((Kn.nil w).al [.int .i64 b, .slice A n c] 26) ?_; intro w1 K1
    refine (KO.out _ (box2 K1) K1.below).mono ?_; rintro e w2 ⟨rfl, q, rfl⟩
    have K2 := K1.drewN q
    generalize w1.drewN q = w2 at K2 ⊢
    clear K1
    go_wp2_with fail
    refine Calls.kn (K2.al [.int .u8 82] 5) ?_; intro w3 K3
    have K4 : Kn w (rowB _ [82] :: _) w3 := kn_litB (zs := [82]) (bs := [82]) K3 rfl (by decide)
    refine (l27Digits_any (m := [.blk w.heap.size [.int .i64 b, .slice A n c] 26]) _ [82] w.heap.size 0 b A n c ds w3 K4 ⟨fun v bs W h => ⟨(box2 (h.front 1 rfl)).1, (box2 (h.front 1 rfl)).2, HR.out W h.below⟩⟩ (by decide) b1 b2 (by omega) (by omega) HD.out).mono ?_; rintro e w5 ⟨v5, rfl, K5⟩
    clear K2 K3 K4
    have ho := K5.ownB
    obtain ⟨A5, c5, rfl, -⟩ := ho.reads
    have hpl2 : ([82] ++ regB b ds).length ≤ 1000000 := by rw [List.length_append, regB_len]; simp; omega
    have KS := Lib.hid (l27Ended_any w.heap.size A5 _ c5 _ w5 ho hpl2 K5.size)
    clear ho
    go_wp2_with fail
    refine KS.out.mono ?_; rintro e w7 ⟨rfl, hw⟩
    have HB := Lib.hid (K5.below.trans hw)
    clear hw
    go_wp2_with fail
    go_ret2
    exact ⟨by rw [← HPL.out]; rfl, HB.out⟩
  | false =>
    rw [hv] at KO
    have KO := Lib.hid KO
    clear hv hr
    go_enter Try.func27, Try.ntmps27
    go_wp2_with fail
    refine Calls.kn ((Kn.nil w).al [.int .i64 b, .slice A n c] 26) ?_; intro w1 K1
    refine (KO.out _ (box2 K1) K1.below).mono ?_; rintro e w2 ⟨rfl, q, rfl⟩
    have K2 := K1.drewN q
    go_wp2_with fail
    go_ret2
    exact ⟨rfl, K2.below⟩
set_option maxRecDepth 100000 in
set_option maxHeartbeats 3200000 in
theorem l27Machine_any {w0 : World} (g : Nat) (t : Tri) (A1 A2 A3 : Option Addr) (c1 c2 c3 : Nat) (w : World) (hK : Kn w0 [.blk g [.int .i64 t.a.base, .slice A1 t.a.digits.length c1, .int .i64 t.b.base, .slice A2 t.b.digits.length c2, .int .i64 t.s.base, .slice A3 t.s.digits.length c3, .int .i64 t.carry] 28] w) (r1 : RI w0 A1 t.a.digits.length t.a.digits) (r2 : RI w0 A2 t.b.digits.length t.b.digits) (r3 : RI w0 A3 t.s.digits.length t.s.digits) (hv : vmach t = true) :
    Calls Try.prog 96 #[.pointer (some ⟨g, 0, none⟩)] w fun e w' => e = .returned (.string ⟨(packM t).toArray⟩) ∧ Below w0.heap.size w0 w' := by
  obtain ⟨k1, k2, k3, p0, p1⟩ := vmach_five hv
  obtain ⟨⟨b1, b2⟩, ⟨n1, n2⟩, d1, -⟩ := vreg_iff.1 k1
  obtain ⟨⟨b3, b4⟩, ⟨n3, n4⟩, d2, -⟩ := vreg_iff.1 k2
  obtain ⟨⟨b5, b6⟩, ⟨n5, n6⟩, d3, -⟩ := vreg_iff.1 k3
  have l1 := (regB_le k1).2
  have l2 := (regB_le k2).2
  have l3 := (regB_le k3).2
  have y0 : IntKind.u8.wrap t.carry = t.carry := wrapB (by omega)
  have HPM := Lib.hid (show sealB ((([77, toB t.carry] ++ regB t.a.base t.a.digits) ++ regB t.b.base t.b.digits) ++ regB t.s.base t.s.digits) = packM t by unfold packM; simp)
  have KD1 := Lib.hid (fun v pre W (h : Kn w0 (rowB v pre :: [.blk g [.int .i64 t.a.base, .slice A1 t.a.digits.length c1, .int .i64 t.b.base, .slice A2 t.b.digits.length c2, .int .i64 t.s.base, .slice A3 t.s.digits.length c3, .int .i64 t.carry] 28]) W) hl => l27Digits_any (m := [.blk g [.int .i64 t.a.base, .slice A1 t.a.digits.length c1, .int .i64 t.b.base, .slice A2 t.b.digits.length c2, .int .i64 t.s.base, .slice A3 t.s.digits.length c3, .int .i64 t.carry] 28]) v pre g 0 t.a.base A1 t.a.digits.length c1 t.a.digits W h ⟨fun v bs W h => ⟨(box7at h 1 rfl).1, (box7at h 1 rfl).2.1, r1.below h.below⟩⟩ hl b1 b2 (by omega) (by omega) d1)
  have KD2 := Lib.hid (fun v pre W (h : Kn w0 (rowB v pre :: [.blk g [.int .i64 t.a.base, .slice A1 t.a.digits.length c1, .int .i64 t.b.base, .slice A2 t.b.digits.length c2, .int .i64 t.s.base, .slice A3 t.s.digits.length c3, .int .i64 t.carry] 28]) W) hl => l27Digits_any (m := [.blk g [.int .i64 t.a.base, .slice A1 t.a.digits.length c1, .int .i64 t.b.base, .slice A2 t.b.digits.length c2, .int .i64 t.s.base, .slice A3 t.s.digits.length c3, .int .i64 t.carry] 28]) v pre g 2 t.b.base A2 t.b.digits.length c2 t.b.digits W h ⟨fun v bs W h => ⟨(box7at h 1 rfl).2.2.1, (box7at h 1 rfl).2.2.2.1, r2.below h.below⟩⟩ hl b3 b4 (by omega) (by omega) d2)
  have KD3 := Lib.hid (fun v pre W (h : Kn w0 (rowB v pre :: [.blk g [.int .i64 t.a.base, .slice A1 t.a.digits.length c1, .int .i64 t.b.base, .slice A2 t.b.digits.length c2, .int .i64 t.s.base, .slice A3 t.s.digits.length c3, .int .i64 t.carry] 28]) W) hl => l27Digits_any (m := [.blk g [.int .i64 t.a.base, .slice A1 t.a.digits.length c1, .int .i64 t.b.base, .slice A2 t.b.digits.length c2, .int .i64 t.s.base, .slice A3 t.s.digits.length c3, .int .i64 t.carry] 28]) v pre g 4 t.s.base A3 t.s.digits.length c3 t.s.digits W h ⟨fun v bs W h => ⟨(box7at h 1 rfl).2.2.2.2.1, (box7at h 1 rfl).2.2.2.2.2.1, r3.below h.below⟩⟩ hl b5 b6 (by omega) (by omega) d3)
  have hlit : [(77 : Int), t.carry].map (Value.int .u8) = [77, toB t.carry].map byteV := by
    simp only [List.map_cons, List.map_nil]
    rw [ofNat_byte p0 (show t.carry < 256 by omega)]
    rfl
  have HLIT := Lib.hid hlit
  clear hlit d1 d2 d3 r1 r2 r3 k1 k2 k3 hv
  obtain ⟨a1, a2, a3, -⟩ := hK.cells
  go_enter Try.func96, Try.ntmps96
  go_upto_region 2 with fail
  refine Code.wp.kn (hK.al [.int .u8 77, .int .u8 t.carry] 5) ?_; intro w1 K1
  clear a1 a2 a3
  have K2 : Kn w0 (rowB _ [77, toB t.carry] :: _) w1 := kn_litB (zs := [77, t.carry]) (bs := [77, toB t.carry]) K1 HLIT.out (by simp)
  go_wp2_with fail
  refine (KD1.out _ _ _ K2 (by simp)).mono ?_; rintro e w3 ⟨v3, rfl, K3⟩
  clear K1 K2 KD1
  go_wp2_with fail
  refine (KD2.out _ _ _ K3 (by rw [List.length_append]; simp; omega)).mono ?_; rintro e w4 ⟨v4, rfl, K4⟩
  clear K3 KD2
  go_wp2_with fail
  refine (KD3.out _ _ _ K4 (by rw [List.length_append, List.length_append]; simp; omega)).mono ?_; rintro e w5 ⟨v5, rfl, K5⟩
  clear K4 KD3
  have hpl2 : ((([77, toB t.carry] ++ regB t.a.base t.a.digits) ++ regB t.b.base t.b.digits) ++ regB t.s.base t.s.digits).length ≤ 1000000 := by simp only [List.length_append, List.length_cons, List.length_nil]; omega
  have hpm := HPM.out
  obtain ⟨L, hL⟩ : ∃ L, ((([77, toB t.carry] ++ regB t.a.base t.a.digits) ++ regB t.b.base t.b.digits) ++ regB t.s.base t.s.digits) = L := ⟨_, rfl⟩
  rw [hL] at K5 hpl2 hpm
  have HPM2 := Lib.hid hpm
  clear hL hpm HPM
  have ho := K5.ownB
  obtain ⟨A5, c5, rfl, -⟩ := ho.reads
  have KS := Lib.hid (l27Ended_any w0.heap.size A5 _ c5 _ w5 ho hpl2 K5.size)
  clear ho
  go_wp2_with fail
  refine KS.out.mono ?_; rintro e w7 ⟨rfl, hw⟩
  have HB := Lib.hid (K5.below.trans hw)
  clear hw
  go_wp2_with fail
  go_ret
  exact ⟨by rw [← HPM2.out]; rfl, HB.out⟩
set_option maxRecDepth 100000 in
set_option maxHeartbeats 1600000 in
theorem specPackMachine_any (t : Tri) (A1 A2 A3 : Option Addr) (c1 c2 c3 : Nat) (w : World) (r1 : RI w A1 t.a.digits.length t.a.digits) (r2 : RI w A2 t.b.digits.length t.b.digits) (r3 : RI w A3 t.s.digits.length t.s.digits) (hs : SmallTri t) : Calls Try.prog 30 #[.agg #[.int .i64 t.a.base, .slice A1 t.a.digits.length c1, .int .i64 t.b.base, .slice A2 t.b.digits.length c2, .int .i64 t.s.base, .slice A3 t.s.digits.length c3, .int .i64 t.carry]] w (PKRet (pmS t) (pmC t) w) := by
  unfold PKRet pmS pmC
  have KO := (fun W (hK : Kn w [.blk w.heap.size [.int .i64 t.a.base, .slice A1 t.a.digits.length c1, .int .i64 t.b.base, .slice A2 t.b.digits.length c2, .int .i64 t.s.base, .slice A3 t.s.digits.length c3, .int .i64 t.carry] 28] W) => l10Ok_any ⟨w.heap.size, 0, none⟩ t W (TriC.tri (A1 := A1) (c1 := c1) (A2 := A2) (c2 := c2) (A3 := A3) (c3 := c3) ⟨box7' hK, r1.below hK.below, r2.below hK.below, r3.below hK.below⟩) hs)
  cases hv : vmach t with
  | true =>
    rw [hv] at KO
    have KO := Lib.hid KO
    have KM := Lib.hid (fun W h => l27Machine_any (w0 := w) w.heap.size t A1 A2 A3 c1 c2 c3 W h r1 r2 r3 hv)
    clear hv r1 r2 r3
    go_enter Try.func30, Try.ntmps30
    go_wp2_with fail
    refine Calls.kn ((Kn.nil w).al [.int .i64 t.a.base, .slice A1 t.a.digits.length c1, .int .i64 t.b.base, .slice A2 t.b.digits.length c2, .int .i64 t.s.base, .slice A3 t.s.digits.length c3, .int .i64 t.carry] 28) ?_; intro w1 K1
    refine (KO.out _ K1).mono ?_; rintro e w2 ⟨rfl, q, rfl⟩
    have K2 := K1.drewN q
    go_wp2_with fail
    refine (KM.out _ K2).mono ?_; rintro e w3 ⟨rfl, hw⟩
    go_wp2_with fail
    go_ret2
    exact ⟨rfl, hw⟩
  | false =>
    rw [hv] at KO
    have KO := Lib.hid KO
    clear hv r1 r2 r3
    go_enter Try.func30, Try.ntmps30
    go_wp2_with fail
    refine Calls.kn ((Kn.nil w).al [.int .i64 t.a.base, .slice A1 t.a.digits.length c1, .int .i64 t.b.base, .slice A2 t.b.digits.length c2, .int .i64 t.s.base, .slice A3 t.s.digits.length c3, .int .i64 t.carry] 28) ?_; intro w1 K1
    refine (KO.out _ K1).mono ?_; rintro e w2 ⟨rfl, q, rfl⟩
    have K2 := K1.drewN q
    go_wp2_with fail
    go_ret2
    exact ⟨rfl, K2.below⟩
set_option maxRecDepth 100000 in
theorem DrawPackRegister_any (A : Option Addr) (n c : Nat) (bs : List UInt8) (w : World) (hb : RB w A n bs) (hn : n ≤ 9223372036854775807) :
    Calls Try.prog 25 #[.slice A n c] w (DrawsReg w) := by
  unfold DrawsReg
  have HB := Lib.hid hb
  clear hb
  go_enter Try.func25, Try.ntmps25
  go_wp2_with fail
  refine Calls.kn ((Kn.nil w).al [.int .i64 0, .slice none 0 0] 26) ?_; intro w1 K1
  refine (l00From_any A n c bs w1 (HB.out.below K1.below) hn).mono ?_; rintro e w2 ⟨rfl, hs, hb2⟩
  have D2 := DR.nil hs
  clear HB hs
  have KD := Lib.hid (l02Bent_dr _ _ w2 D2.src (by omega))
  unfold DReg2 at KD
  go_wp2_with fail
  refine KD.out.mono ?_; rintro e w3 ⟨bs, A, c, ds, rfl, hl, h3⟩
  have K3 := K1.join (Kn.ofDR hb2 (Nat.le_refl _) h3)
  clear K1 D2 h3 hb2 KD
  obtain ⟨a1, a2, a3, -⟩ := (K3.front 1 rfl).cells
  go_wp2_with fail
  refine bodyPost.kn (((K3.front 1 rfl).st 0 (.int .i64 bs)).st 1 (.slice A ds.length c)) ?_; intro w9 K9
  clear a1 a2 a3
  obtain ⟨a1, a2, a3, -⟩ := K9.cells
  exact bodyPost_ret (v := .agg #[.int .i64 bs, .slice A ds.length c]) (by simp [results, Try.results25, go_sem, a1]) rfl ⟨bs, A, c, ds, rfl, hl, K9.sel [1] 99 (by decide) (by decide)⟩
set_option maxRecDepth 100000 in
set_option maxHeartbeats 1600000 in
theorem DrawPackMachine_any (A : Option Addr) (n c : Nat) (bs : List UInt8) (w : World) (hb : RB w A n bs) (hn : n ≤ 9223372036854775807) :
    Calls Try.prog 28 #[.slice A n c] w fun e w' => ∃ (t : Tri) (A1 : Option Addr) (c1 : Nat) (A2 : Option Addr) (c2 : Nat) (A3 : Option Addr) (c3 : Nat), e = .returned (.agg #[.int .i64 t.a.base, .slice A1 t.a.digits.length c1, .int .i64 t.b.base, .slice A2 t.b.digits.length c2, .int .i64 t.s.base, .slice A3 t.s.digits.length c3, .int .i64 t.carry]) ∧ (t.a.digits.length ≤ 22 ∧ t.b.digits.length ≤ 22 ∧ t.s.digits.length ≤ 22) ∧ Kn w [rowI A3 c3 t.s.digits, rowI A2 c2 t.b.digits, rowI A1 c1 t.a.digits] w' := by
  have HB := Lib.hid hb
  clear hb
  go_enter Try.func28, Try.ntmps28
  go_wp2_with fail
  refine Calls.kn ((Kn.nil w).al [.int .i64 0, .slice none 0 0, .int .i64 0, .slice none 0 0, .int .i64 0, .slice none 0 0, .int .i64 0] 28) ?_; intro w1 K1
  refine (l00From_any A n c bs w1 (HB.out.below K1.below) hn).mono ?_; rintro e w2 ⟨rfl, hs, hb2⟩
  have D2 := DR.nil hs
  clear HB hs
  have KD := Lib.hid (l10Bent_dr _ _ w2 D2.src (by omega))
  unfold DBent at KD
  go_wp2_with fail
  refine KD.out.mono ?_; rintro e w3 ⟨t, A1, c1, A2, c2, A3, c3, rfl, hl, h3⟩
  have K3 := K1.join (Kn.ofDR hb2 (Nat.le_refl _) h3)
  clear K1 D2 h3 hb2 KD
  obtain ⟨a1, a2, a3, -⟩ := (K3.front 3 rfl).cells
  go_wp2_with fail
  refine bodyPost.kn ((((((((K3.front 3 rfl).st 0 (.int .i64 t.a.base)).st 1 (.slice A1 t.a.digits.length c1)).st 2 (.int .i64 t.b.base)).st 3 (.slice A2 t.b.digits.length c2)).st 4 (.int .i64 t.s.base)).st 5 (.slice A3 t.s.digits.length c3)).st 6 (.int .i64 t.carry)) ?_; intro w9 K9
  clear a1 a2 a3
  obtain ⟨a1, a2, a3, -⟩ := K9.cells
  exact bodyPost_ret (v := .agg #[.int .i64 t.a.base, .slice A1 t.a.digits.length c1, .int .i64 t.b.base, .slice A2 t.b.digits.length c2, .int .i64 t.s.base, .slice A3 t.s.digits.length c3, .int .i64 t.carry]) (by simp [results, Try.results28, go_sem, a1]) rfl ⟨t, A1, c1, A2, c2, A3, c3, rfl, hl, K9.sel [1, 2, 3] 99 (by decide) (by decide)⟩
set_option maxRecDepth 100000 in
theorem DrawPackProgram_any (A : Option Addr) (n c : Nat) (bs : List UInt8) (w : World) (hb : RB w A n bs) (hn : n ≤ 9223372036854775807) :
    Calls Try.prog 31 #[.slice A n c] w fun e w' => ∃ (B : Option Addr) (d : Nat) (xs : List Ins), e = .returned (.slice B xs.length d) ∧ xs.length ≤ 168 ∧ Kn w [rowIns (.slice B xs.length d) xs] w' := by
  have HB := Lib.hid hb
  clear hb
  go_enter Try.func31, Try.ntmps31
  go_wp2_with fail
  refine (l00From_any A n c bs w HB.out hn).mono ?_; rintro e w2 ⟨rfl, hs, hb2⟩
  have D2 := DR.nil hs
  clear HB hs
  have KD := Lib.hid (l11Bent_dr _ _ w2 D2.src (by omega))
  unfold DIns at KD
  go_wp2_with fail
  refine KD.out.mono ?_; rintro e w3 ⟨g, c, xs, rfl, hl, h3⟩
  have K3 := (Kn.nil w).join (Kn.ofDR hb2 (Nat.le_refl _) h3)
  clear D2 h3 hb2 KD
  go_wp2_with fail
  go_ret
  exact ⟨_, c, xs, rfl, hl, K3⟩
end Go.Proofs.Ytkfbfainhmkkdaa

namespace Go.Proofs.Ytkfbfainhmkkdaa
open Go.RowKit Go.Sort
/-- what stands between two bytes of an argument, whatever it is -/
def capOk (a : Int) (c : Nat) : Prop := c = 0 ∨ (a < 9223372036854775808 ∧ a < 128 ^ (11 - c))
theorem cap_c {a : Int} {c : Nat} (h : capOk a c) (ha : 0 ≤ a) : c ≤ 10 ∨ a < 128 := by
  rcases h with h | h
  · omega
  · rcases Nat.lt_or_ge 10 c with h1 | h1
    · right
      rw [show 11 - c = 0 by omega] at h
      omega
    · exact .inl h1
theorem wrap_up (x : Int) : IntKind.i64.wrap x < 9223372036854775808 := by
  rw [IntKind.wrap_i64]; omega
theorem cap_step {a q : Int} {c : Nat} (h : capOk a c) (ha : 128 ≤ a) (hq : IntKind.i64.wrap (Int.tdiv a 128) = q) : c ≤ 9 ∧ q < a ∧ capOk q (c + 1) := by
  have hw := wrap_up (Int.tdiv a 128)
  rw [hq] at hw
  have ht : Int.tdiv a 128 = a / 128 := Int.tdiv_eq_ediv_of_nonneg (by omega)
  rcases h with rfl | ⟨h1, h2⟩
  · refine ⟨by omega, ?_, .inr ⟨hw, Int.lt_trans hw (by decide)⟩⟩
    rw [ht, IntKind.wrap_i64] at hq
    omega
  · rw [ht, wrapI (by omega)] at hq
    subst hq
    have hc : c ≤ 9 := by
      rcases Nat.lt_or_ge 9 c with h3 | h3
      · rcases (show 11 - c = 0 ∨ 11 - c = 1 by omega) with h4 | h4 <;> rw [h4] at h2 <;> omega
      · exact h3
    refine ⟨hc, by omega, .inr ⟨hw, ?_⟩⟩
    rw [show 11 - c = (11 - (c + 1)) + 1 by omega, Int.pow_succ] at h2
    generalize (128 : Int) ^ (11 - (c + 1)) = p at h2 ⊢
    omega
theorem wrap_byte (x : Int) : 0 ≤ IntKind.u8.wrap x ∧ IntKind.u8.wrap x < 256 := by
  rw [IntKind.wrap_u8]; omega
set_option maxRecDepth 100000 in
set_option maxHeartbeats 3200000 in
theorem l27Program_sz (A : Option Addr) (n c : Nat) (xs : List Ins) (w : World) (hr : RL InsM 2 w A n xs) (hn : n ≤ 200) :
    Calls Try.prog 97 #[.slice A n c] w fun e w' => ∃ s : ByteArray, e = .returned (.string s) ∧ (4 ≤ s.size ∧ s.size ≤ 5000) ∧ Below w.heap.size w w' := by
  have y0 : IntKind.u8.wrap (n : Int) = (n : Int) := wrapB (by omega)
  go_enter Try.func97, Try.ntmps97
  have hK2 := kn_litB (zs := [80, (n : Int)]) (bs := [80, UInt8.ofNat n]) ((Kn.nil w).al [.int .u8 80, .int .u8 n] 5) (by simp [byteV]; omega) (by simp)
  go_wp2_with fail
  go_loopw [3, 4] (fun out ii wr => ∃ (k : Nat) (bs : List UInt8), k ≤ n ∧ ii = .int .i64 k ∧ Hid (2 ≤ bs.length ∧ bs.length ≤ 2 + 13 * k) ∧ Kn w [rowB out bs] wr) (fun _ i _ => n - (intOf i).toNat)
  case atStart => exact ⟨0, _, Nat.zero_le _, rfl, Lib.hid (by simp), hK2⟩
  case round =>
    rename_i out _
    obtain ⟨k, bs, hk, rfl, HBL, hK⟩ := hrel
    obtain ⟨wo, rfl⟩ : ∃ wo : World, wo = wr := ⟨_, rfl⟩
    have hbl := HBL.out
    have hpl : bs.length ≤ 100000 := by omega
    clear hK2 hbl
    by_cases hkn : k < n
    · obtain ⟨ad, hA, hlt, hkl, hx⟩ := (hr.below steady_InsM hK.below).at_ hkn
      obtain ⟨ad', hA', hlt0, hkl', hx0⟩ := hr.at_ hkn
      obtain rfl : ad = ad' := by rw [hA] at hA'; injection hA'
      obtain ⟨x1, x2⟩ := hx
      obtain ⟨z1, z2⟩ := hx0
      obtain ⟨x, hxe⟩ : ∃ x, xs[k] = x := ⟨_, rfl⟩
      rw [hxe] at x1 x2 z1 z2
      have hi0 : (0 : Int) ≤ (k : Int) := by omega
      have hi1 : (k : Int) < (n : Int) := by omega
      have hob := wrap_byte x.op
      obtain ⟨ob, y1⟩ : ∃ z, IntKind.u8.wrap x.op = z := ⟨_, rfl⟩
      rw [y1] at hob
      have Z2 := Lib.hid z2
      clear hxe hA' z1 z2
      subst hA
      go_wp2_with (at_builtin; refine kn_pushB rfl _ _ rfl _ _ rfl rfl (hK.al [.int .u8 ob] 5) (by omega) (by omega) ?_; intro v5 w6 hK3; have x3 := (hK3.below.cell (p := ⟨(ad.add (k * 2)).block, (ad.add (k * 2)).off + 1, none⟩) (by rw [block_of_add]; exact hlt0)).trans Z2.out)
      go_loopw [3, 5] (fun out aa wi => ∃ (a : Int) (j : Nat) (bs2 : List UInt8), aa = .int .i64 a ∧ Hid (capOk a j) ∧ Hid (bs2.length = bs.length + 1 + j ∧ j ≤ 10) ∧ Kn w [rowB out bs2] wi) (fun _ a _ => (intOf a).toNat)
      case atStart => exact ⟨x.arg, 0, _, rfl, Lib.hid (.inl rfl), Lib.hid ⟨by simp, by omega⟩, hK3⟩
      case round =>
        rename_i out2 _
        obtain ⟨a, j, bs2, rfl, HC, HL2, hKi⟩ := hrel
        have hl2 := HL2.out
        have hbl := HBL.out
        have hpl2 : bs2.length ≤ 100000 := by omega
        clear hl2 hbl hK hK3
        by_cases h128 : 128 ≤ a
        · obtain ⟨q, hq⟩ : ∃ q, IntKind.i64.wrap (Int.tdiv a 128) = q := ⟨_, rfl⟩
          obtain ⟨hc9, hqa, HC2⟩ := cap_step HC.out h128 hq
          have hq2 : IntKind.i64.wrap (a / 128) = q := by rw [← hq, Int.tdiv_eq_ediv_of_nonneg (by omega)]
          have HC2 := Lib.hid HC2
          obtain ⟨r, hr1⟩ : ∃ r, Int.tmod a 128 = r := ⟨_, rfl⟩
          have hr2 : a % 128 = r := by rw [← hr1, Int.tmod_eq_emod_of_nonneg (by omega)]
          have hrb : 0 ≤ r ∧ r < 128 := by omega
          have y3 : IntKind.i64.wrap (128 + r) = 128 + r := wrapI (by omega)
          have y4 : IntKind.u8.wrap (128 + r) = 128 + r := wrapB (by omega)
          clear HC
          go_wp2_with (at_builtin; refine kn_pushB rfl _ _ rfl _ _ rfl rfl (hKi.al [.int .u8 (128 + r)] 5) (by omega) (by omega) ?_; intro v7 w7 hK7)
          go_roundw
          case rel => exact ⟨q, j + 1, _, rfl, HC2, Lib.hid ⟨by rw [List.length_append, HL2.out.1]; simp; omega, by omega⟩, hK7⟩
          case measure => simp [intOf]; omega
        · have hab := wrap_byte a
          obtain ⟨ab, y1⟩ : ∃ z, IntKind.u8.wrap a = z := ⟨_, rfl⟩
          rw [y1] at hab
          have i1 : ¬ (127 : Int) < a := by omega
          go_wp2_with (at_builtin; refine kn_pushB rfl _ _ rfl _ _ rfl rfl (hKi.al [.int .u8 ab] 5) (by omega) (by omega) ?_; intro v7 w7 hK7)
          go_roundw
          case rel => exact ⟨k + 1, _, by omega, by go_num, Lib.hid (by have := HBL.out; have := HL2.out; rw [List.length_append]; simp; omega), hK7⟩
          case measure => simp [intOf]; omega
    · have ho := hK.ownB
      obtain ⟨A5, c5, rfl, -⟩ := ho.reads
      have hpl2 : bs.length ≤ 1000000 := by omega
      have KS := Lib.hid (l27Ended_any w.heap.size A5 _ c5 _ wo ho hpl2 hK.size)
      clear ho
      go_wp2_with fail
      refine KS.out.mono ?_; rintro e w7 ⟨rfl, hw⟩
      have HB := Lib.hid (hK.below.trans hw)
      clear hw
      have HZ : Hid (4 ≤ (sealB bs).length ∧ (sealB bs).length ≤ 5000) := by
        have := HBL.out
        simp only [Hid, sealB, List.length_append]
        simp; omega
      go_wp2_with fail
      go_ret
      exact ⟨_, rfl, by rw [size_mk]; exact HZ.out, HB.out⟩
end Go.Proofs.Ytkfbfainhmkkdaa

namespace Go.Proofs.Ytkfbfainhmkkdaa
open Go.RowKit Go.Sort
/-! rows of bytes made of a string: the block bears a mark behind its cells -/
def MkB (w : World) (base : Nat) (v : Value) (n : Nat) : Prop := ∃ (g cap : Nat) (cur : Array Value) (fz : Nat × Nat) (bs : List UInt8), v = .slice (some ⟨g, 0, none⟩) n cap ∧ base ≤ g ∧ w.heap[g]? = some (.cells cur 5 fz) ∧ (fz = (0, 0) ∨ cur.size ≤ fz.1) ∧ n ≤ cap ∧ cap ≤ maxLen ∧ cur.size = cap ∧ bs.length = n ∧ cur.toList.take n = bs.map byteV
theorem add_off (g o i : Nat) : (⟨g, o, none⟩ : Addr).add i = ⟨g, o + i, none⟩ := by unfold Addr.add; split <;> simp_all
theorem unfroz {w : World} {g : Nat} {cur : Array Value} {t : TypeId} {fz : Nat × Nat} (hg : w.heap[g]? = some (.cells cur t fz)) (hfz : fz = (0, 0) ∨ cur.size ≤ fz.1) {j : Nat} (hj : j < cur.size) : w.frozen? ⟨g, j, none⟩ = false := by
  obtain ⟨lo, hi⟩ := fz
  simp only [World.frozen?, hg, Bool.and_eq_false_iff, decide_eq_false_iff_not]
  rcases hfz with h | h
  · right
    have h2 := congrArg Prod.snd h
    simp only at h2
    omega
  · left
    simp only at h
    omega
/-- storing cells one after another into a row whose mark lies behind it -/
theorem storesM (g o : Nat) (t : TypeId) (fz : Nat × Nat) : ∀ (vs : List Value) (i : Nat) (cur : Array Value) (w : World), w.heap[g]? = some (.cells cur t fz) → (fz = (0, 0) ∨ cur.size ≤ fz.1) → o + i + vs.length ≤ cur.size → (∀ v ∈ vs, v.oneCell' = true) →
    (storeCells ⟨g, o, none⟩ vs i).run Try.prog w = .ok () (w.setRow g (cur.toList.take (o + i) ++ vs ++ cur.toList.drop (o + i + vs.length)).toArray)
  | [], i, cur, w, hg, _, _, _ => by
    simp only [storeCells, List.append_nil, List.length_nil, Nat.add_zero, List.take_append_drop, Array.toArray_toList]
    rw [setRow_self w g cur t fz hg]
    rfl
  | v :: rest, i, cur, w, hg, hfz, hl, h1 => by
    have hi : o + i < cur.size := by simp at hl; omega
    have hcell : w.cell? ⟨g, o + i, none⟩ = some cur[o + i] := by simp [World.cell?, hg, hi]
    have hfro := unfroz hg hfz hi
    have hst : (store ((⟨g, o, none⟩ : Addr).add i) v).run Try.prog w = .ok () (w.setRow g (cur.setIfInBounds (o + i) v)) := by
      rw [add_off, run_store Try.prog w _ v _ (h1 v (by simp)), hcell]
      simp [hfro, setCell_eq_setRow w g (o + i) cur t fz v hg]
    have ih := storesM g o t fz rest (i + 1) (cur.setIfInBounds (o + i) v) (w.setRow g (cur.setIfInBounds (o + i) v)) (setRow_heap w g cur _ t _ hg) (by simpa using hfz) (by simp at hl ⊢; omega) (fun x hx => h1 x (by simp [hx]))
    simp only [storeCells, Sem.run_bind, hst, Result.andThen_ok, ih, setRow_setRow]
    congr 3
    have e := list_seg_step cur.toList (o + i) v rest (by simp at hl ⊢; omega)
    simpa [Array.toList_setIfInBounds, Nat.add_assoc] using e
theorem appendM (w : World) (base : Nat) (ty : TypeId) (v : Value) (n : Nat) (hown : MkB w base v n) (ad : Addr) (c : Nat) (zs : List UInt8) (hnews : ∀ j u, (zs.map byteV)[j]? = some u → w.cell? (ad.add j) = some u) (hn : n + zs.length ≤ 10000000) (hbase : base ≤ w.heap.size) :
    ∃ v' w', (Builtin.append_ #[22, 22] ty #[v, .slice (some ad) zs.length c]).run Try.prog w = .ok v' w' ∧ MkB w' base v' (n + zs.length) ∧ w.grownBy w' v.ownBlock ∧ (v'.ownBlock = v.ownBlock ∨ v'.ownBlock = some w.heap.size) := by
  obtain ⟨i, hi, hz0, hz1, hz2⟩ := info_parts tpB.info
  obtain ⟨g, cap, cur, fz, bs, rfl, hbg, hg, hfz, hnc, hcm, hcs, hbl, htake⟩ := hown
  have h1 : ∀ u ∈ zs.map byteV, u.oneCell' = true := bytes_one zs
  have hnl : (zs.map byteV).length = zs.length * i.size := by rw [hz1, List.length_map, Nat.mul_one]
  have htk : (bs.map byteV ++ zs.map byteV) = (bs ++ zs).map byteV := by rw [List.map_append]
  have hzl : (zs.map byteV).length = zs.length := List.length_map ..
  by_cases hroom : n + zs.length ≤ cap
  · have hf := run_firstCells_some (P := Try.prog) w i.size zs.length ad zs.length c (zs.map byteV) hnl hnews
    have hst := storesM g n 5 fz (zs.map byteV) 0 cur w hg hfz (by rw [hzl]; omega) h1
    simp only [Nat.add_zero] at hst
    have hr : (Builtin.append_ #[22, 22] ty #[.slice (some ⟨g, 0, none⟩) n cap, .slice (some ad) zs.length c]).run Try.prog w = .ok (.slice (some ⟨g, 0, none⟩) (n + zs.length) cap) (w.setRow g (cur.toList.take n ++ zs.map byteV ++ cur.toList.drop (n + (zs.map byteV).length)).toArray) := by
      simp [Builtin.append_, run_underlying tpB.under, sizeOf, typeInfo, hi, hz1, Builtin.lenOf, hroom, Addr.add_lit]
      rw [hz1] at hf
      simp [hf, hst]
    refine ⟨_, _, hr, ⟨g, cap, _, fz, bs ++ zs, rfl, hbg, setRow_heap w g cur _ _ _ hg, ?_, hroom, hcm, ?_, by rw [List.length_append, hbl], ?_⟩, ⟨rfl, rfl, rfl, by simp, fun k _ hk => setRow_other w g k _ (fun e => hk (by simp [Value.ownBlock, e]))⟩, Or.inl rfl⟩
    · rcases hfz with h | h
      · exact .inl h
      · right
        simp only [List.size_toArray, List.length_append, List.length_take, List.length_drop, Array.length_toList, hzl]
        omega
    · simp only [List.size_toArray, List.length_append, List.length_take, List.length_drop, Array.length_toList, hzl]
      omega
    · rw [htake, htk]
      have hl2 : ((bs ++ zs).map byteV).length = n + zs.length := by simp [hbl]
      simp only
      rw [← hl2]
      exact List.take_left
  · have holds : ∀ j u, (bs.map byteV)[j]? = some u → w.cell? ((⟨g, 0, none⟩ : Addr).add j) = some u := by
      intro j u hu
      rw [add_off, Nat.zero_add, cell_of_row w g j cur _ fz hg]
      rw [← htake, List.getElem?_take] at hu
      split at hu
      · simpa using hu
      · cases hu
    have hr := run_append_grow (P := Try.prog) w 22 ty 5 i _ tpB.under hi hz0 ⟨g, 0, none⟩ n cap (bs.map byteV) (by rw [hz1, List.length_map, hbl, Nat.mul_one]) holds ad zs.length c (zs.map byteV) hnl hnews (by omega) (by omega) (growslice_fits (by omega) (by rw [hz2]; omega))
    have hge := grownCap_ge w (n + zs.length) cap 5
    have hcm2 : grownCap w (n + zs.length) cap 5 ≤ maxLen := grownCap_le_maxLen w (n + zs.length) cap _ (by simp only [maxLen]; omega)
    refine ⟨_, _, hr, ⟨w.heap.size, _, _, (0, 0), bs ++ zs, rfl, hbase, heap_alloc_new w.drew _, .inl rfl, hge, hcm2, ?_, by rw [List.length_append, hbl], ?_⟩, ⟨rfl, rfl, rfl, by simp, fun k hk _ => Go.heap_alloc_old w.drew _ hk⟩, Or.inr rfl⟩
    · have hzc : (Value.int IntKind.u8 0).cells.size = 1 := rfl
      simp only [Array.size_append, List.size_toArray, size_zeroCells, tpB.zc, List.length_map, hbl]
      omega
    · simp only [Array.toList_append, List.append_assoc]
      rw [← List.append_assoc, htk]
      have hl2 : ((bs ++ zs).map byteV).length = n + zs.length := by simp [hbl]
      rw [← hl2]
      exact List.take_left

theorem MkB.reads {w : World} {base n : Nat} {v : Value} (h : MkB w base v n) : ∃ (g c : Nat) (bs : List UInt8), v = .slice (some ⟨g, 0, none⟩) n c ∧ base ≤ g ∧ bs.length = n ∧ RB w (some ⟨g, 0, none⟩) n bs := by
  obtain ⟨g, cap, cur, fz, bs, rfl, hbg, hg, hfz, hnc, hcm, hcs, hbl, htake⟩ := h
  refine ⟨g, cap, bs, rfl, hbg, hbl, hbl, fun _ => ⟨_, rfl, (Array.getElem?_eq_some_iff.1 hg).1, fun j u hu => ?_⟩⟩
  rw [add_off, Nat.zero_add, cell_of_row w g j cur _ fz hg]
  have h2 : (bs.map byteV)[j]? = some (byteV u) := by rw [List.getElem?_map, hu]; rfl
  rw [← htake, List.getElem?_take] at h2
  split at h2
  · simpa using h2
  · cases h2
theorem MkB.stable {v : Value} {n : Nat} (w w' : World) (h : MkB w 0 v n) (_ : w.heap.size ≤ w'.heap.size) (hb : ∀ k, v.ownBlock = some k → w'.heap[k]? = w.heap[k]?) : MkB w' 0 v n := by
  obtain ⟨g, cap, cur, fz, bs, rfl, hbg, hg, rest⟩ := h
  exact ⟨g, cap, cur, fz, bs, rfl, hbg, by rw [hb g rfl]; exact hg, rest⟩
/-- such a row as a thing that the call owns -/
def mkE (v : Value) (n : Nat) : Ent := .any (fun k => v.ownBlock = some k) (fun w => MkB w 0 v n) MkB.stable
section
variable {w w0 w' : World} {m : List Ent} {v v' : Value} {n n' : Nat}
theorem MkB.lt {base : Nat} (h : MkB w base v n) {k : Nat} (hk : v.ownBlock = some k) : k < w.heap.size ∧ base ≤ k := by
  obtain ⟨g, cap, cur, fz, bs, rfl, hbg, hg, rest⟩ := h
  simp only [Value.ownBlock, Option.some.injEq] at hk
  subst hk
  exact ⟨(Array.getElem?_eq_some_iff.1 hg).1, hbg⟩
theorem MkB.zero {base : Nat} (h : MkB w base v n) : MkB w 0 v n := by
  obtain ⟨g, cap, cur, fz, bs, rfl, -, rest⟩ := h
  exact ⟨g, cap, cur, fz, bs, rfl, Nat.zero_le _, rest⟩
theorem Kn.mk0 (h : Kn w0 (mkE v n :: m) w) : MkB w w0.heap.size v n := by
  have h1 : MkB w 0 v n := (h.at0).1
  have h2 := h.own _ (List.mem_cons_self ..)
  obtain ⟨g, cap, cur, fz, bs, rfl, -, rest⟩ := h1
  exact ⟨g, cap, cur, fz, bs, rfl, h2 g rfl, rest⟩
theorem mkE_holds (h : MkB w 0 v n) : (mkE v n).holds w := ⟨h, fun _ hk => (h.lt hk).1⟩
theorem Kn.growM (h : Kn w0 (mkE v n :: m) w) (hg : w.grownBy w' v.ownBlock) (ho : MkB w' 0 v' n') (hv : v'.ownBlock = v.ownBlock ∨ v'.ownBlock = some w.heap.size) : Kn w0 (mkE v' n' :: m) w' :=
  h.upd (e' := mkE v' n') ⟨hg.os, hg.tape, hg.output, hg.size, fun k hk hne => hg.block k hk (fun e => hne e.symm)⟩ (mkE_holds ho) (fun k hk => by
    have hk' : v'.ownBlock = some k := hk
    rcases hv with h1 | h1
    · left; show v.ownBlock = some k; rw [← h1]; exact hk'
    · right; rw [h1] at hk'; injection hk' with hk'; omega)
theorem MkB.set {base g c : Nat} (h : MkB w base (.slice (some ⟨g, 0, none⟩) n c) n) {j : Nat} (_ : j < n) {z : Int} (hz : 0 ≤ z ∧ z < 256) : MkB (w.setCell ⟨g, j, none⟩ (.int .u8 z)) base (.slice (some ⟨g, 0, none⟩) n c) n := by
  obtain ⟨g', cap, cur, fz, bs, e, hbg, hg, hfz, hnc, hcm, hcs, hbl, htake⟩ := h
  injection e with e1 e2 e3
  injection e1 with e1
  injection e1 with e1
  subst e1
  subst e3
  refine ⟨g, c, cur.setIfInBounds j (.int .u8 z), fz, bs.set j (UInt8.ofNat z.toNat), rfl, hbg, ?_, by simpa using hfz, hnc, hcm, by simpa using hcs, by simpa using hbl, ?_⟩
  · rw [setCell_eq_setRow w g j cur _ fz _ hg]
    exact setRow_heap w g cur _ _ _ hg
  · rw [List.map_set, ← ofNat_byte hz.1 hz.2, ← htake, Array.toList_setIfInBounds, List.take_set]
theorem Kn.setM {g c : Nat} (h : Kn w0 (mkE (.slice (some ⟨g, 0, none⟩) n c) n :: m) w) {j : Nat} (hj : j < n) {z : Int} (hz : 0 ≤ z ∧ z < 256) : Kn w0 (mkE (.slice (some ⟨g, 0, none⟩) n c) n :: m) (w.setCell ⟨g, j, none⟩ (.int .u8 z)) := by
  have h1 : MkB w 0 (.slice (some ⟨g, 0, none⟩) n c) n := (h.at0).1
  refine h.upd (e' := mkE (.slice (some ⟨g, 0, none⟩) n c) n) ⟨rfl, rfl, rfl, by simp [World.setCell], fun k _ hne => Below.heap_setCell _ _ _ _ (fun e => hne (by show some g = some k; rw [e]))⟩ (mkE_holds (h1.set hj hz)) (fun k hk => .inl hk)
theorem MkB.cellAt {base g c : Nat} (h : MkB w base (.slice (some ⟨g, 0, none⟩) n c) n) {j : Nat} (hj : j < n) : (∃ z : UInt8, w.cell? ⟨g, j, none⟩ = some (byteV z)) ∧ w.frozen? ⟨g, j, none⟩ = false := by
  obtain ⟨g', cap, cur, fz, bs, e, hbg, hg, hfz, hnc, hcm, hcs, hbl, htake⟩ := h
  injection e with e1 e2 e3
  injection e1 with e1
  injection e1 with e1
  subst e1
  subst e3
  refine ⟨⟨bs[j]'(by omega), ?_⟩, unfroz hg hfz (by omega)⟩
  rw [cell_of_row w g j cur _ fz hg]
  have h2 : (bs.map byteV)[j]? = some (byteV (bs[j]'(by omega))) := by rw [List.getElem?_map, List.getElem?_eq_getElem]; rfl
  rw [← htake, List.getElem?_take, if_pos hj] at h2
  simpa using h2
theorem Kn.preM {g c : Nat} (h : Kn w0 (mkE (.slice (some ⟨g, 0, none⟩) n c) n :: m) w) {j : Nat} (hj : j ≤ n) : Kn w0 (mkE (.slice (some ⟨g, 0, none⟩) j c) j :: m) w := by
  have h1 : MkB w 0 (.slice (some ⟨g, 0, none⟩) n c) n := (h.at0).1
  refine h.growM ⟨rfl, rfl, rfl, Nat.le_refl _, fun _ _ _ => rfl⟩ ?_ (.inl rfl)
  obtain ⟨g', cap, cur, fz, bs, e, hbg, hg, hfz, hnc, hcm, hcs, hbl, htake⟩ := h1
  injection e with e1 e2 e3
  injection e1 with e1
  injection e1 with e1
  subst e1
  subst e3
  refine ⟨g, c, cur, fz, bs.take j, rfl, hbg, hg, hfz, by omega, hcm, hcs, by rw [List.length_take]; omega, ?_⟩
  rw [List.map_take, ← htake, List.take_take, Nat.min_eq_left hj]
/-- what a conversion of a string lays -/
theorem Kn.convM (h : Kn w0 m w) (s : ByteArray) (hs : s.size ≤ 10000000) : Kn w0 (mkE (.slice (some ⟨w.heap.size, 0, none⟩) s.size (grownCap w s.size 0 5)) s.size :: m) (w.drew.alloc (.cells (bytesRow s (grownCap w s.size 0 5)) 5 ((bytesRow s (grownCap w s.size 0 5)).size, (bytesRow s (grownCap w s.size 0 5)).size + 1))) := by
  have hge := grownCap_ge w s.size 0 5
  have hcm := grownCap_le_maxLen w s.size 0 5 (by simp only [maxLen]; omega)
  have hsz : s.data.size = s.size := rfl
  refine h.drew.add ((Below.refl _ _).alloc (Nat.le_refl _) _) (mkE_holds ⟨w.heap.size, _, _, _, s.data.toList, rfl, Nat.zero_le _, heap_alloc_new w.drew _, .inr (Nat.le_refl _), hge, hcm, ?_, rfl, ?_⟩) (fun k hk => ?_)
  · unfold bytesRow
    rw [Array.size_append, Array.size_map, Array.size_replicate, hsz]
    omega
  · unfold bytesRow
    rw [Array.toList_append, Array.toList_map]
    have hl : (s.data.toList.map byteV).length = s.size := by rw [List.length_map]; rfl
    rw [← hl]
    exact List.take_left
  · have hk' : some w.heap.size = some k := hk
    injection hk' with hk'
    show w.heap.size ≤ k
    omega
end
end Go.Proofs.Ytkfbfainhmkkdaa

namespace Go.Proofs.Ytkfbfainhmkkdaa
open Go.RowKit Go.Sort
section
variable {o : Oper} {a : Act} {K : Act → World → Prop} {Q : Exit → Act → World → Prop} {w w0 : World} {m : List Ent}
theorem appGoM (s x : Operand) (ho : o.op = .call { callee := .builtin .append, args := #[s, x], argTypes := #[22, 22] })
    (base : Nat) (v : Value) (n : Nat) (hs : a.eval s = v) (hown : MkB w base v n) (ad : Addr) (k c : Nat) (zs : List UInt8) (hk : zs.length = k) (hx : a.eval x = .slice (some ad) k c)
    (hnews : ∀ j u, (zs.map byteV)[j]? = some u → w.cell? (ad.add j) = some u) (hn : n + k ≤ 10000000) (hbase : base ≤ w.heap.size)
    (h : ∀ v' w', MkB w' base v' (n + k) → w.grownBy w' v.ownBlock → (v'.ownBlock = v.ownBlock ∨ v'.ownBlock = some w.heap.size) → K (a.put o.dst v') w') : Oper.wp Try.prog o a w K Q := by
  subst hk
  obtain ⟨v', w', hrun, h2, h3, h5⟩ := appendM w base o.type v n hown ad c zs hnews hn hbase
  unfold Oper.wp execOp
  simp only [ho, resolve, invoke, builtin, Sem.run_bind, Sem.run_pure, Result.andThen_ok, List.map_toArray, List.map_cons, List.map_nil, hs, hx, hrun]
  exact h v' w' h2 h3 h5
theorem kn_pushMo (s x : Operand) (ho : o.op = .call { callee := .builtin .append, args := #[s, x], argTypes := #[22, 22] })
    (v : Value) (n : Nat) (hs : a.eval s = v) {g c : Nat} {T' : TypeId} {z : Int} (hx : a.eval x = .slice (some ⟨g, 0, none⟩) 1 c)
    (hK : Kn w0 (.blk g [.int .u8 z] T' :: mkE v n :: m) w) (hz : 0 ≤ z ∧ z < 256) (hn : n ≤ 1000000)
    (h : ∀ v' w', Kn w0 (mkE v' (n + 1) :: m) w' → K (a.put o.dst v') w') : Oper.wp Try.prog o a w K Q := by
  have hK2 := hK.sw1
  have h0 := hK.blkAt
  refine appGoM s x ho 0 v n hs (hK2.at0).1 ⟨g, 0, none⟩ 1 c [UInt8.ofNat z.toNat] rfl hx (fun j u hu => ?_) (by omega) (Nat.zero_le _) (fun v' w' ho' hg hv => ?_)
  · rw [add_zero_block, h0.1 j, ← hu, List.map_cons, List.map_nil, ← ofNat_byte hz.1 hz.2]
  · exact h v' w' (hK2.drop1.growM hg ho' hv)
end
section
variable {ops : Array Oper} {rest : List Oper} {o : Oper} {a : Act} {Q : Exit → Act → World → Prop} {w : World}
theorem appM (hgd : o.guard = none) (s x : Operand) (ho : o.op = .call { callee := .builtin .append, args := #[s, x], argTypes := #[22, 22] })
    (base : Nat) (v : Value) (n : Nat) (hs : a.eval s = v) (hown : MkB w base v n) (ad : Addr) (k c : Nat) (zs : List UInt8) (hk : zs.length = k) (hx : a.eval x = .slice (some ad) k c)
    (hnews : ∀ j u, (zs.map byteV)[j]? = some u → w.cell? (ad.add j) = some u) (hn : n + k ≤ 10000000) (hbase : base ≤ w.heap.size)
    (h : ∀ v' w', MkB w' base v' (n + k) → w.grownBy w' v.ownBlock → (v'.ownBlock = v.ownBlock ∨ v'.ownBlock = some w.heap.size) → wpList Try.prog ops Q rest (a.put o.dst v') w') : wpList Try.prog ops Q (o :: rest) a w := by
  refine wpList_plain hgd fun K hK => ?_
  exact appGoM s x ho base v n hs hown ad k c zs hk hx hnews hn hbase fun v' w' h1 h2 h3 => hK _ _ (h v' w' h1 h2 h3)
end
set_option maxRecDepth 100000 in
set_option maxHeartbeats 800000 in
theorem l27EndedM (base : Nat) (A : Option Addr) (n c : Nat) (w : World) (ho : MkB w base (.slice A n c) n) (hm : n ≤ 1000000) (hb : base ≤ w.heap.size) :
    Calls Try.prog 93 #[.slice A n c] w fun e w' => ∃ s : ByteArray, e = .returned (.string s) ∧ s.size = n + 2 ∧ Below base w w' := by
  obtain ⟨g, c', bs, e, hbg, hbl, hrb⟩ := ho.reads
  injection e with e1 _ e3
  subst e1
  subst e3
  have hcv := conv_bytes w _ n c bs hrb
  obtain ⟨s0, s1⟩ := sumB_bd bs
  have HS := Lib.hid (strB_mk bs)
  have HO := Lib.hid ho
  obtain ⟨sm, hsm⟩ : ∃ sm, sm = sumB bs := ⟨_, rfl⟩
  have HSM := Lib.hid hsm
  rw [← hsm] at s0 s1
  have hkl : (⟨bs.toArray⟩ : ByteArray).size ≤ 140737488355328 := by rw [size_mk]; omega
  have KS := Lib.hid (l27Sum_any ⟨bs.toArray⟩ w hkl)
  have HB1 := Lib.hid (show [UInt8.ofNat (sm / 256).toNat, UInt8.ofNat (sm % 256).toNat].map byteV = [.int .u8 (sm / 256), .int .u8 (sm % 256)] by
    rw [List.map_cons, List.map_cons, List.map_nil, ← ofNat_byte (by omega) (by omega), ← ofNat_byte (by omega) (by omega)])
  have HOA := Lib.hid (show MkB (w.alloc (.cells #[.int .u8 (sm / 256), .int .u8 (sm % 256)] 5)) base (.slice (some ⟨g, 0, none⟩) n c) n by
    obtain ⟨g', cap, cur, fz, bs, e, hbg, hg, rest⟩ := ho
    exact ⟨g', cap, cur, fz, bs, e, hbg, (Go.heap_alloc_old w _ (Array.getElem?_eq_some_iff.1 hg).1).trans hg, rest⟩)
  clear ho hsm hkl hbl hrb
  go_enter Try.func93, Try.ntmps93
  go_wp2_with (first | (go_at_call 109; refine KS.out.mono ?_; rintro e w' ⟨rfl, rfl⟩; rw [HS.out, ← HSM.out]) | (at_builtin; refine appM rfl _ _ rfl base _ n rfl HOA.out ⟨w.heap.size, 0, none⟩ 2 2 [UInt8.ofNat (sm / 256).toNat, UInt8.ofNat (sm % 256).toNat] rfl rfl (by rw [HB1.out]; exact World.news_of_block (heap_alloc_new _ _)) (by omega) (by simp; omega) ?_; intro v1 w1 hown1 hg1 hv1; obtain ⟨g1, c1, bs1, rfl, -, hl1, hr1⟩ := hown1.reads; have hcv2 := conv_bytes w1 _ _ c1 _ hr1))
  go_ret
  exact ⟨_, rfl, by rw [size_mk]; exact hl1, ((Below.refl _ _).alloc hb _).grown hg1 (by simp; omega) (fun k hk => (HO.out.lt (k := k) hk).2)⟩
end Go.Proofs.Ytkfbfainhmkkdaa

namespace Go.Proofs.Ytkfbfainhmkkdaa
open Go.RowKit Go.Sort
/-- what the drawing of a string returns -/
def DStr (b M L : Nat) (w : World) (e : Ending) (w' : World) : Prop := ∃ s : ByteArray, e = .returned (.string s) ∧ s.size ≤ L ∧ DR b M w [] w'
theorem DR.convM {b N : Nat} {w wi : World} {m : List Ent} (h : DR b N w m wi) (s : ByteArray) (hs : s.size ≤ 10000000) : DR b N w (mkE (.slice (some ⟨wi.heap.size, 0, none⟩) s.size (grownCap wi s.size 0 5)) s.size :: m) (wi.drew.alloc (.cells (bytesRow s (grownCap wi s.size 0 5)) 5 ((bytesRow s (grownCap wi s.size 0 5)).size, (bytesRow s (grownCap wi s.size 0 5)).size + 1))) := h.kn (fun _ hK => hK.convM s hs)
theorem DR.mkAt {b N : Nat} {w wi : World} {m : List Ent} {v : Value} {n : Nat} (h : DR b N w (mkE v n :: m) wi) : MkB wi w.heap.size v n := by
  obtain ⟨u, tw, -, hK⟩ := h
  have := hK.mk0
  rw [tw.2] at this
  exact this
theorem DR.setM {b N : Nat} {w wi : World} {m : List Ent} {n g c : Nat} (h : DR b N w (mkE (.slice (some ⟨g, 0, none⟩) n c) n :: m) wi) {j : Nat} (hj : j < n) {z : Int} (hz : 0 ≤ z ∧ z < 256) : DR b N w (mkE (.slice (some ⟨g, 0, none⟩) n c) n :: m) (wi.setCell ⟨g, j, none⟩ (.int .u8 z)) := h.kn (fun _ hK => hK.setM hj hz)
theorem DR.preM {b N : Nat} {w wi : World} {m : List Ent} {n g c : Nat} (h : DR b N w (mkE (.slice (some ⟨g, 0, none⟩) n c) n :: m) wi) {j : Nat} (hj : j ≤ n) : DR b N w (mkE (.slice (some ⟨g, 0, none⟩) j c) j :: m) wi := h.kn (fun _ hK => hK.preM hj)
theorem DR.bare {b N : Nat} {w wi : World} {m : List Ent} (h : DR b N w m wi) : DR b N w [] wi := h.kn (fun _ hK => hK.bare)
theorem DR.le {b N : Nat} {w wi : World} {m : List Ent} (h : DR b N w m wi) : w.heap.size ≤ wi.heap.size := by
  obtain ⟨u, tw, -, hK⟩ := h
  rw [← tw.2]
  exact hK.size
theorem DR.endM {b N : Nat} {w wi w' : World} {m : List Ent} {v : Value} {n : Nat} (h : DR b N w (mkE v n :: m) wi) (hb : Below w.heap.size wi w') : DR b N w [] w' := by
  obtain ⟨u, tw, hs, hK⟩ := h
  exact ⟨u, tw, hs, (Kn.nil u).keep (hK.below.trans (by rw [tw.2]; exact hb))⟩
set_option maxRecDepth 100000 in
set_option maxHeartbeats 3200000 in
theorem l27Bytes0_dr (b N : Nat) (w : World) (h : Src w b N) (hN : N ≤ 600000) : Calls Try.prog 101 #[.pointer (some ⟨b, 0, none⟩), .int .i64 0] w (DStr b (N + 1020) 5001 w) := by
  unfold DStr
  have D0 := DR.nil h
  have KR := Lib.hid (l02Draw7_dr b N w h (by omega))
  unfold DReg7 at KR
  clear h
  go_enter Try.func101, Try.ntmps101
  go_wp2_with fail
  refine KR.out.mono ?_; rintro e w1 ⟨bs, A, c, ds, rfl, ⟨b1, b2, n1, n2, hd⟩, h1⟩
  have D1 : DR b _ w [rowI A c ds] w1 := D0.add h1
  have HD := Lib.hid hd
  clear D0 h1 KR hd
  go_upto_region 9 with fail
  refine Code.wp.dr (D1.al [.int .i64 bs, .slice A ds.length c] 26) ?_; intro w2 D2
  obtain ⟨g, hg⟩ : ∃ g, w1.heap.size = g := ⟨_, rfl⟩
  rw [hg] at D2 ⊢
  clear hg D1
  go_upto_region 13 with (first
    | (go_at_call 94; refine Calls.dr (D2.al [.int .u8 82] 5) ?_; intro w3 D3; obtain ⟨u, tw, hsu, hK⟩ := D3; have hK2 : Kn u (rowB _ [82] :: _) w3 := kn_litB (zs := [82]) (bs := [82]) hK (by simp [byteV]) (by simp); refine (l27Digits_any (m := [.blk g [.int .i64 bs, .slice A ds.length c] 26, rowI A c ds]) _ [82] g 0 bs A ds.length c ds w3 hK2 ⟨fun v l W h => ⟨(h.drop.blkAt).1 0, (h.drop.blkAt).1 1, h.drop.drop.riv⟩⟩ (by simp) b1 (by omega) n1 (by omega) HD.out).mono ?_; rintro e w4 ⟨v4, rfl, hK4⟩)
    | (go_at_call 93; obtain ⟨A4, c4, rfl, hl4, -⟩ := hK4.ownB.reads; refine (l27Ended_any u.heap.size A4 _ c4 _ w4 hK4.ownB (by rw [List.length_append, regB_len]; simp; omega) hK4.size).mono ?_; rintro e w5 ⟨rfl, hw5⟩; have D5 : DR b _ w [] w5 := ⟨u, tw, hsu, (Kn.nil u).keep (hK4.below.trans hw5)⟩; obtain ⟨S, hS⟩ : ∃ S, (⟨(sealB ([82] ++ regB bs ds)).toArray⟩ : ByteArray) = S := ⟨_, rfl⟩; have hs : 4 ≤ S.size ∧ S.size ≤ 5000 := (by rw [← hS, size_mk]; simp only [sealB, List.length_append, regB_len]; simp; omega); rw [hS]; clear hS hw5 hK4 hK2 hK tw hsu HD))
  have hcv := run_bytes_of_string (P := Try.prog) w5 9 22 5 S Try.underlying9 Try.underlying22 Try.underlying5
  go_upto_region 16 with (go_at_call 74; refine Calls.dr (D5.convM S (by omega)) ?_; intro w2 D2; have hcap := grownCap_ge w5 (S).size 0 5; generalize grownCap w5 (S).size 0 5 = cp at D2 hcap ⊢; generalize (w5).heap.size = gg at D2 ⊢; refine (pick_dr b _ _ _ D2.src (by omega)).mono ?_; rintro e w3 ⟨x, rfl, hx, hD⟩; have D3 := D2.add hD; clear hD D2 hcv)
  by_cases x0 : x = 0
  · subst x0
    clear hx
    go_wp2_with (first
      | (go_at_call 74; (with_reducible refine (pick_dr b _ _ _ D3.src (by omega)).mono ?_); rintro e w4 ⟨y, rfl, hy, hD⟩; have D4 := D3.add hD; clear hD; obtain ⟨j, rfl⟩ : ∃ q : Nat, y = q := ⟨y.toNat, by omega⟩; have hj : j < S.size := (by omega); have hi0 : (0 : Int) ≤ (j : Int) := (by omega); have hi1 : (j : Int) < (S.size : Int) := (by omega))
      | (go_at_call 74; (with_reducible refine (pick_dr b _ _ _ D4.src (by omega)).mono ?_); rintro e w5 ⟨z, rfl, hz, hD⟩; have D5 := D4.add hD; clear hD; have y1 : IntKind.u8.wrap z = z := wrapB (by omega); have hz1 : 0 ≤ z ∧ z < 256 := (by omega); obtain ⟨⟨u8, hu⟩, hfz⟩ := (D5.front 0 rfl).mkAt.cellAt hj; have D6 := (D5.front 0 rfl).setM hj hz1; have hlt := World.block_lt_of_cell? w5 _ hu; obtain ⟨g6, c6, bs6, e6, -, hl6, hr6⟩ := D6.mkAt.reads; injection e6 with e6 _ e7; injection e6 with e6; injection e6 with e6; subst e6; subst e7; have hcv6 := conv_bytes _ _ _ cp _ hr6))
    go_ret
    exact ⟨_, rfl, by rw [size_mk]; omega, D6.bare.mono (by omega)⟩
  by_cases x1 : x = 1
  · subst x1
    clear hx
    go_wp2_with (go_at_call 74; (with_reducible refine (pick_dr b _ _ _ D3.src (by omega)).mono ?_); rintro e w4 ⟨y, rfl, hy, hD⟩; have D4 := D3.add hD; clear hD; obtain ⟨j, rfl⟩ : ∃ q : Nat, y = q := ⟨y.toNat, by omega⟩; have hj : j < S.size := (by omega); have hi0 : (0 : Int) ≤ (j : Int) := (by omega); have hi1 : (j : Int) < (S.size : Int) := (by omega); have hi2 : (j : Int) ≤ (S.size : Int) := (by omega))
    go_ret
    exact ⟨_, rfl, by simp [ByteArray.size_extract]; omega, D4.bare.mono (by omega)⟩
  by_cases x2 : x = 2
  · subst x2
    clear hx
    have hw2 : IntKind.i64.wrap ((S.size : Int) - 2) = ((S.size - 2 : Nat) : Int) := by rw [wrapI (by omega)]; omega
    have hc2 : ((S.size - 2 : Nat) : Int) ≤ (cp : Int) := by omega
    have hc3 : S.size - 2 ≤ cp := by omega
    go_wp2_with (first
      | (go_at_call 74; (with_reducible refine (pick_dr b _ _ _ D3.src (by omega)).mono ?_); rintro e w4 ⟨y, rfl, hy, hD⟩; have D4 := D3.add hD; clear hD; obtain ⟨j, rfl⟩ : ∃ q : Nat, y = q := ⟨y.toNat, by omega⟩; have hj : j < S.size := (by omega); have hi0 : (0 : Int) ≤ (j : Int) := (by omega); have hi1 : (j : Int) < (S.size : Int) := (by omega))
      | (go_at_call 74; (with_reducible refine (pick_dr b _ _ _ D4.src (by omega)).mono ?_); rintro e w5 ⟨z, rfl, hz, hD⟩; have D5 := D4.add hD; clear hD; have y1 : IntKind.u8.wrap z = z := wrapB (by omega); have hz1 : 0 ≤ z ∧ z < 256 := (by omega); obtain ⟨⟨u8, hu⟩, hfz⟩ := (D5.front 0 rfl).mkAt.cellAt hj; have D6 := (D5.front 0 rfl).setM hj hz1; have hlt := World.block_lt_of_cell? w5 _ hu; have D7 := D6.preM (j := S.size - 2) (by omega))
      | (go_at_call 93; refine (l27EndedM w.heap.size _ _ cp _ D7.mkAt (by omega) D7.le).mono ?_; rintro e w6 ⟨T, rfl, hT, hw6⟩; have D8 := D7.endM hw6))
    go_ret
    exact ⟨_, rfl, by omega, D8.mono (by omega)⟩
  by_cases x3 : x = 3
  · subst x3
    clear hx
    have hw2 : IntKind.i64.wrap ((S.size : Int) - 2) = ((S.size - 2 : Nat) : Int) := by rw [wrapI (by omega)]; omega
    have hc2 : ((S.size - 2 : Nat) : Int) ≤ (cp : Int) := by omega
    have hc3 : S.size - 2 ≤ cp := by omega
    go_wp2_with fail
    go_region_held3 (fun _ => True) (first | trivial) (first
      | (go_at_call 74; (with_reducible refine (pick_dr b _ _ _ D3.drew.src (by omega)).mono ?_); rintro e w4 ⟨z, rfl, hz, hD⟩; have D4 := D3.drew.add hD; clear hD; have y1 : IntKind.u8.wrap z = z := wrapB (by omega); have hz1 : 0 ≤ z ∧ z < 256 := (by omega); have D5 := (D4.front 0 rfl).preM (j := S.size - 2) (by omega); obtain ⟨u5, tw5, hsu5, hK5⟩ := (D5.al [.int .u8 z] 5))
      | (rw [if_pos (by kernel_rfl)]; refine kn_pushMo _ _ rfl _ _ rfl rfl hK5 hz1 (by omega) ?_; intro v6 w6 hK6; have D6 : DR b _ w _ w6 := ⟨u5, tw5, hsu5, hK6⟩; obtain ⟨g6, c6, bs6, rfl, -, hl6, hr6⟩ := hK6.mk0.reads)
      | (go_at_call 93; refine (l27EndedM w.heap.size _ _ _ _ D6.mkAt (by omega) D6.le).mono ?_; rintro e w7 ⟨T, rfl, hT, hw7⟩; have D8 := D6.endM hw7))
    all_goals
      go_wp2_with fail
      go_ret
      exact ⟨_, rfl, by omega, D8.mono (by omega)⟩
  obtain ⟨g6, c6, bs6, e6, -, hl6, hr6⟩ := (D3.front 0 rfl).mkAt.reads
  injection e6 with e6 _ e7
  injection e6 with e6
  injection e6 with e6
  subst e6
  subst e7
  have hcv6 := conv_bytes _ _ _ cp _ hr6
  have z0 : (x == 0) = false := beq_eq_false_iff_ne.2 x0
  have z1 : (x == 1) = false := beq_eq_false_iff_ne.2 x1
  have z2 : (x == 2) = false := beq_eq_false_iff_ne.2 x2
  have z3 : (x == 3) = false := beq_eq_false_iff_ne.2 x3
  go_wp2_with fail
  go_ret
  exact ⟨_, rfl, by rw [size_mk]; omega, D3.bare.mono (by omega)⟩
end Go.Proofs.Ytkfbfainhmkkdaa

namespace Go.Proofs.Ytkfbfainhmkkdaa
open Go.RowKit Go.Sort
theorem packM_size {t : Tri} (hv : vmach t = true) : 4 ≤ (packM t).length ∧ (packM t).length ≤ 100 := by
  obtain ⟨k1, k2, k3, -, -⟩ := vmach_five hv
  have l1 := (regB_le k1).2
  have l2 := (regB_le k2).2
  have l3 := (regB_le k3).2
  unfold packM sealB
  simp
  omega
set_option maxRecDepth 100000 in
set_option maxHeartbeats 3200000 in
theorem l27Bytes1_dr (b N : Nat) (w : World) (h : Src w b N) (hN : N ≤ 600000) : Calls Try.prog 101 #[.pointer (some ⟨b, 0, none⟩), .int .i64 1] w (DStr b (N + 1020) 5001 w) := by
  unfold DStr
  have D0 := DR.nil h
  have KR := Lib.hid (l10Draw_dr b N w h (by omega))
  unfold DMach at KR
  clear h
  go_enter Try.func101, Try.ntmps101
  go_wp2_with fail
  refine KR.out.mono ?_; rintro e w1 ⟨t, A1, c1, A2, c2, A3, c3, rfl, hv, h1⟩
  have D1 : DR b _ w [rowI A3 c3 t.s.digits, rowI A2 c2 t.b.digits, rowI A1 c1 t.a.digits] w1 := D0.add h1
  have HV := Lib.hid hv
  clear D0 h1 KR hv
  go_upto_region 13 with (go_at_call 96; go_loud (have D1c := D1; obtain ⟨u, -, -, hK⟩ := D1c; refine (l27Machine_any (w0 := w1) w1.heap.size t A1 A2 A3 c1 c2 c3 _ ((Kn.nil w1).al [.int .i64 t.a.base, .slice A1 t.a.digits.length c1, .int .i64 t.b.base, .slice A2 t.b.digits.length c2, .int .i64 t.s.base, .slice A3 t.s.digits.length c3, .int .i64 t.carry] 28) hK.drop.drop.riv hK.drop.riv hK.riv HV.out).mono ?_; rintro e w5 ⟨rfl, hw5⟩; have D5 := D1.bare.keep hw5; obtain ⟨S, hS⟩ : ∃ S, (⟨(packM t).toArray⟩ : ByteArray) = S := ⟨_, rfl⟩; have hs : 4 ≤ S.size ∧ S.size ≤ 5000 := (by rw [← hS, size_mk]; have := packM_size HV.out; omega); rw [hS]; clear hS hw5 hK D1 HV))
  have hcv := run_bytes_of_string (P := Try.prog) w5 9 22 5 S Try.underlying9 Try.underlying22 Try.underlying5
  go_upto_region 16 with (go_at_call 74; refine Calls.dr (D5.convM S (by omega)) ?_; intro w2 D2; have hcap := grownCap_ge w5 (S).size 0 5; generalize grownCap w5 (S).size 0 5 = cp at D2 hcap ⊢; generalize (w5).heap.size = gg at D2 ⊢; refine (pick_dr b _ _ _ D2.src (by omega)).mono ?_; rintro e w3 ⟨x, rfl, hx, hD⟩; have D3 := D2.add hD; clear hD D2 hcv)
  by_cases x0 : x = 0
  · subst x0
    clear hx
    go_wp2_with (first
      | (go_at_call 74; (with_reducible refine (pick_dr b _ _ _ D3.src (by omega)).mono ?_); rintro e w4 ⟨y, rfl, hy, hD⟩; have D4 := D3.add hD; clear hD; obtain ⟨j, rfl⟩ : ∃ q : Nat, y = q := ⟨y.toNat, by omega⟩; have hj : j < S.size := (by omega); have hi0 : (0 : Int) ≤ (j : Int) := (by omega); have hi1 : (j : Int) < (S.size : Int) := (by omega))
      | (go_at_call 74; (with_reducible refine (pick_dr b _ _ _ D4.src (by omega)).mono ?_); rintro e w5 ⟨z, rfl, hz, hD⟩; have D5 := D4.add hD; clear hD; have y1 : IntKind.u8.wrap z = z := wrapB (by omega); have hz1 : 0 ≤ z ∧ z < 256 := (by omega); obtain ⟨⟨u8, hu⟩, hfz⟩ := (D5.front 0 rfl).mkAt.cellAt hj; have D6 := (D5.front 0 rfl).setM hj hz1; have hlt := World.block_lt_of_cell? w5 _ hu; obtain ⟨g6, c6, bs6, e6, -, hl6, hr6⟩ := D6.mkAt.reads; injection e6 with e6 _ e7; injection e6 with e6; injection e6 with e6; subst e6; subst e7; have hcv6 := conv_bytes _ _ _ cp _ hr6))
    go_ret
    exact ⟨_, rfl, by rw [size_mk]; omega, D6.bare.mono (by omega)⟩
  by_cases x1 : x = 1
  · subst x1
    clear hx
    go_wp2_with (go_at_call 74; (with_reducible refine (pick_dr b _ _ _ D3.src (by omega)).mono ?_); rintro e w4 ⟨y, rfl, hy, hD⟩; have D4 := D3.add hD; clear hD; obtain ⟨j, rfl⟩ : ∃ q : Nat, y = q := ⟨y.toNat, by omega⟩; have hj : j < S.size := (by omega); have hi0 : (0 : Int) ≤ (j : Int) := (by omega); have hi1 : (j : Int) < (S.size : Int) := (by omega); have hi2 : (j : Int) ≤ (S.size : Int) := (by omega))
    go_ret
    exact ⟨_, rfl, by simp [ByteArray.size_extract]; omega, D4.bare.mono (by omega)⟩
  by_cases x2 : x = 2
  · subst x2
    clear hx
    have hw2 : IntKind.i64.wrap ((S.size : Int) - 2) = ((S.size - 2 : Nat) : Int) := by rw [wrapI (by omega)]; omega
    have hc2 : ((S.size - 2 : Nat) : Int) ≤ (cp : Int) := by omega
    have hc3 : S.size - 2 ≤ cp := by omega
    go_wp2_with (first
      | (go_at_call 74; (with_reducible refine (pick_dr b _ _ _ D3.src (by omega)).mono ?_); rintro e w4 ⟨y, rfl, hy, hD⟩; have D4 := D3.add hD; clear hD; obtain ⟨j, rfl⟩ : ∃ q : Nat, y = q := ⟨y.toNat, by omega⟩; have hj : j < S.size := (by omega); have hi0 : (0 : Int) ≤ (j : Int) := (by omega); have hi1 : (j : Int) < (S.size : Int) := (by omega))
      | (go_at_call 74; (with_reducible refine (pick_dr b _ _ _ D4.src (by omega)).mono ?_); rintro e w5 ⟨z, rfl, hz, hD⟩; have D5 := D4.add hD; clear hD; have y1 : IntKind.u8.wrap z = z := wrapB (by omega); have hz1 : 0 ≤ z ∧ z < 256 := (by omega); obtain ⟨⟨u8, hu⟩, hfz⟩ := (D5.front 0 rfl).mkAt.cellAt hj; have D6 := (D5.front 0 rfl).setM hj hz1; have hlt := World.block_lt_of_cell? w5 _ hu; have D7 := D6.preM (j := S.size - 2) (by omega))
      | (go_at_call 93; refine (l27EndedM w.heap.size _ _ cp _ D7.mkAt (by omega) D7.le).mono ?_; rintro e w6 ⟨T, rfl, hT, hw6⟩; have D8 := D7.endM hw6))
    go_ret
    exact ⟨_, rfl, by omega, D8.mono (by omega)⟩
  by_cases x3 : x = 3
  · subst x3
    clear hx
    have hw2 : IntKind.i64.wrap ((S.size : Int) - 2) = ((S.size - 2 : Nat) : Int) := by rw [wrapI (by omega)]; omega
    have hc2 : ((S.size - 2 : Nat) : Int) ≤ (cp : Int) := by omega
    have hc3 : S.size - 2 ≤ cp := by omega
    go_wp2_with fail
    go_region_held3 (fun _ => True) (first | trivial) (first
      | (go_at_call 74; (with_reducible refine (pick_dr b _ _ _ D3.drew.src (by omega)).mono ?_); rintro e w4 ⟨z, rfl, hz, hD⟩; have D4 := D3.drew.add hD; clear hD; have y1 : IntKind.u8.wrap z = z := wrapB (by omega); have hz1 : 0 ≤ z ∧ z < 256 := (by omega); have D5 := (D4.front 0 rfl).preM (j := S.size - 2) (by omega); obtain ⟨u5, tw5, hsu5, hK5⟩ := (D5.al [.int .u8 z] 5))
      | (rw [if_pos (by kernel_rfl)]; refine kn_pushMo _ _ rfl _ _ rfl rfl hK5 hz1 (by omega) ?_; intro v6 w6 hK6; have D6 : DR b _ w _ w6 := ⟨u5, tw5, hsu5, hK6⟩; obtain ⟨g6, c6, bs6, rfl, -, hl6, hr6⟩ := hK6.mk0.reads)
      | (go_at_call 93; refine (l27EndedM w.heap.size _ _ _ _ D6.mkAt (by omega) D6.le).mono ?_; rintro e w7 ⟨T, rfl, hT, hw7⟩; have D8 := D6.endM hw7))
    all_goals
      go_wp2_with fail
      go_ret
      exact ⟨_, rfl, by omega, D8.mono (by omega)⟩
  obtain ⟨g6, c6, bs6, e6, -, hl6, hr6⟩ := (D3.front 0 rfl).mkAt.reads
  injection e6 with e6 _ e7
  injection e6 with e6
  injection e6 with e6
  subst e6
  subst e7
  have hcv6 := conv_bytes _ _ _ cp _ hr6
  have z0 : (x == 0) = false := beq_eq_false_iff_ne.2 x0
  have z1 : (x == 1) = false := beq_eq_false_iff_ne.2 x1
  have z2 : (x == 2) = false := beq_eq_false_iff_ne.2 x2
  have z3 : (x == 3) = false := beq_eq_false_iff_ne.2 x3
  go_wp2_with fail
  go_ret
  exact ⟨_, rfl, by rw [size_mk]; omega, D3.bare.mono (by omega)⟩
set_option maxRecDepth 100000 in
set_option maxHeartbeats 3200000 in
theorem l27Bytes2_dr (b N : Nat) (w : World) (k : Int) (hk : 2 ≤ k) (h : Src w b N) (hN : N ≤ 400000) : Calls Try.prog 101 #[.pointer (some ⟨b, 0, none⟩), .int .i64 k] w (DStr b (N + 1020) 5001 w) := by
  have k0 : (k == 0) = false := beq_eq_false_iff_ne.2 (by omega)
  have k1 : (k == 1) = false := beq_eq_false_iff_ne.2 (by omega)
  have k0' : ¬ k = 0 := by omega
  have k1' : ¬ k = 1 := by omega
  unfold DStr
  have D0 := DR.nil h
  have KR := Lib.hid (l11Draw_dr b N w h (by omega))
  unfold DIns at KR
  clear h
  go_enter Try.func101, Try.ntmps101
  go_wp2_with fail
  refine KR.out.mono ?_; rintro e w1 ⟨g, c, xs, rfl, hl, h1⟩
  have D1 : DR b _ w [rowIns (.slice (some ⟨g, 0, none⟩) xs.length c) xs] w1 := D0.add h1
  clear D0 h1 KR hk
  go_wp2_with fail
  refine (one_dr b _ 4 w1 D1.src (by omega)).mono ?_; rintro e w2 ⟨yes, rfl, hD⟩
  have D2 : DR b _ w [rowIns (.slice (some ⟨g, 0, none⟩) xs.length c) xs] w2 := D1.add hD
  clear D1 hD
  rcases yes with _ | _
  · go_upto_region 13 with (go_at_call 97; go_loud (have D2c := D2; obtain ⟨u, -, -, hK⟩ := D2c; refine (l27Program_sz _ _ _ xs _ hK.rlIns.2 (by omega)).mono ?_; rintro e w5 ⟨S, rfl, hs, hw5⟩; have D5 := D2.bare.keep hw5; clear D2 hw5 hK))
    have hcv := run_bytes_of_string (P := Try.prog) w5 9 22 5 S Try.underlying9 Try.underlying22 Try.underlying5
    go_upto_region 16 with (go_at_call 74; refine Calls.dr (D5.convM S (by omega)) ?_; intro w2 D2; have hcap := grownCap_ge w5 (S).size 0 5; generalize grownCap w5 (S).size 0 5 = cp at D2 hcap ⊢; generalize (w5).heap.size = gg at D2 ⊢; refine (pick_dr b _ _ _ D2.src (by omega)).mono ?_; rintro e w3 ⟨x, rfl, hx, hD⟩; have D3 := D2.add hD; clear hD D2 hcv)
    by_cases x0 : x = 0
    · subst x0
      clear hx
      go_wp2_with (first
        | (go_at_call 74; (with_reducible refine (pick_dr b _ _ _ D3.src (by omega)).mono ?_); rintro e w4 ⟨y, rfl, hy, hD⟩; have D4 := D3.add hD; clear hD; obtain ⟨j, rfl⟩ : ∃ q : Nat, y = q := ⟨y.toNat, by omega⟩; have hj : j < S.size := (by omega); have hi0 : (0 : Int) ≤ (j : Int) := (by omega); have hi1 : (j : Int) < (S.size : Int) := (by omega))
        | (go_at_call 74; (with_reducible refine (pick_dr b _ _ _ D4.src (by omega)).mono ?_); rintro e w5 ⟨z, rfl, hz, hD⟩; have D5 := D4.add hD; clear hD; have y1 : IntKind.u8.wrap z = z := wrapB (by omega); have hz1 : 0 ≤ z ∧ z < 256 := (by omega); obtain ⟨⟨u8, hu⟩, hfz⟩ := (D5.front 0 rfl).mkAt.cellAt hj; have D6 := (D5.front 0 rfl).setM hj hz1; have hlt := World.block_lt_of_cell? w5 _ hu; obtain ⟨g6, c6, bs6, e6, -, hl6, hr6⟩ := D6.mkAt.reads; injection e6 with e6 _ e7; injection e6 with e6; injection e6 with e6; subst e6; subst e7; have hcv6 := conv_bytes _ _ _ cp _ hr6))
      go_ret
      exact ⟨_, rfl, by rw [size_mk]; omega, D6.bare.mono (by omega)⟩
    by_cases x1 : x = 1
    · subst x1
      clear hx
      go_wp2_with (go_at_call 74; (with_reducible refine (pick_dr b _ _ _ D3.src (by omega)).mono ?_); rintro e w4 ⟨y, rfl, hy, hD⟩; have D4 := D3.add hD; clear hD; obtain ⟨j, rfl⟩ : ∃ q : Nat, y = q := ⟨y.toNat, by omega⟩; have hj : j < S.size := (by omega); have hi0 : (0 : Int) ≤ (j : Int) := (by omega); have hi1 : (j : Int) < (S.size : Int) := (by omega); have hi2 : (j : Int) ≤ (S.size : Int) := (by omega))
      go_ret
      exact ⟨_, rfl, by simp [ByteArray.size_extract]; omega, D4.bare.mono (by omega)⟩
    by_cases x2 : x = 2
    · subst x2
      clear hx
      have hw2 : IntKind.i64.wrap ((S.size : Int) - 2) = ((S.size - 2 : Nat) : Int) := by rw [wrapI (by omega)]; omega
      have hc2 : ((S.size - 2 : Nat) : Int) ≤ (cp : Int) := by omega
      have hc3 : S.size - 2 ≤ cp := by omega
      go_wp2_with (first
        | (go_at_call 74; (with_reducible refine (pick_dr b _ _ _ D3.src (by omega)).mono ?_); rintro e w4 ⟨y, rfl, hy, hD⟩; have D4 := D3.add hD; clear hD; obtain ⟨j, rfl⟩ : ∃ q : Nat, y = q := ⟨y.toNat, by omega⟩; have hj : j < S.size := (by omega); have hi0 : (0 : Int) ≤ (j : Int) := (by omega); have hi1 : (j : Int) < (S.size : Int) := (by omega))
        | (go_at_call 74; (with_reducible refine (pick_dr b _ _ _ D4.src (by omega)).mono ?_); rintro e w5 ⟨z, rfl, hz, hD⟩; have D5 := D4.add hD; clear hD; have y1 : IntKind.u8.wrap z = z := wrapB (by omega); have hz1 : 0 ≤ z ∧ z < 256 := (by omega); obtain ⟨⟨u8, hu⟩, hfz⟩ := (D5.front 0 rfl).mkAt.cellAt hj; have D6 := (D5.front 0 rfl).setM hj hz1; have hlt := World.block_lt_of_cell? w5 _ hu; have D7 := D6.preM (j := S.size - 2) (by omega))
        | (go_at_call 93; refine (l27EndedM w.heap.size _ _ cp _ D7.mkAt (by omega) D7.le).mono ?_; rintro e w6 ⟨T, rfl, hT, hw6⟩; have D8 := D7.endM hw6))
      go_ret
      exact ⟨_, rfl, by omega, D8.mono (by omega)⟩
    by_cases x3 : x = 3
    · subst x3
      clear hx
      have hw2 : IntKind.i64.wrap ((S.size : Int) - 2) = ((S.size - 2 : Nat) : Int) := by rw [wrapI (by omega)]; omega
      have hc2 : ((S.size - 2 : Nat) : Int) ≤ (cp : Int) := by omega
      have hc3 : S.size - 2 ≤ cp := by omega
      go_wp2_with fail
      go_region_held3 (fun _ => True) (first | trivial) (first
        | (go_at_call 74; (with_reducible refine (pick_dr b _ _ _ D3.drew.src (by omega)).mono ?_); rintro e w4 ⟨z, rfl, hz, hD⟩; have D4 := D3.drew.add hD; clear hD; have y1 : IntKind.u8.wrap z = z := wrapB (by omega); have hz1 : 0 ≤ z ∧ z < 256 := (by omega); have D5 := (D4.front 0 rfl).preM (j := S.size - 2) (by omega); obtain ⟨u5, tw5, hsu5, hK5⟩ := (D5.al [.int .u8 z] 5))
        | (rw [if_pos (by kernel_rfl)]; refine kn_pushMo _ _ rfl _ _ rfl rfl hK5 hz1 (by omega) ?_; intro v6 w6 hK6; have D6 : DR b _ w _ w6 := ⟨u5, tw5, hsu5, hK6⟩; obtain ⟨g6, c6, bs6, rfl, -, hl6, hr6⟩ := hK6.mk0.reads)
        | (go_at_call 93; refine (l27EndedM w.heap.size _ _ _ _ D6.mkAt (by omega) D6.le).mono ?_; rintro e w7 ⟨T, rfl, hT, hw7⟩; have D8 := D6.endM hw7))
      all_goals
        go_wp2_with fail
        go_ret
        exact ⟨_, rfl, by omega, D8.mono (by omega)⟩
    obtain ⟨g6, c6, bs6, e6, -, hl6, hr6⟩ := (D3.front 0 rfl).mkAt.reads
    injection e6 with e6 _ e7
    injection e6 with e6
    injection e6 with e6
    subst e6
    subst e7
    have hcv6 := conv_bytes _ _ _ cp _ hr6
    have z0 : (x == 0) = false := beq_eq_false_iff_ne.2 x0
    have z1 : (x == 1) = false := beq_eq_false_iff_ne.2 x1
    have z2 : (x == 2) = false := beq_eq_false_iff_ne.2 x2
    have z3 : (x == 3) = false := beq_eq_false_iff_ne.2 x3
    go_wp2_with fail
    go_ret
    exact ⟨_, rfl, by rw [size_mk]; omega, D3.bare.mono (by omega)⟩
  · go_upto_region 13 with (first
      | (go_at_call 122; refine Calls.dr (D2.al [.int .i64 127, .int .i64 128, .int .i64 16383, .int .i64 16384, .int .i64 1000000000000] 2) ?_; intro w3 D3; obtain ⟨hr, hA⟩ := DR.lit (ds := [127, 128, 16383, 16384, 1000000000000]) D3 (by decide); refine (among_dr b _ _ 5 5 _ w3 D3.src (by omega) hr hA (by omega) (by omega)).mono ?_; rintro e w4 ⟨ar, rfl, -, hD⟩; have D4 := (D3.add hD).front 1 rfl; obtain ⟨u4, tw4, hsu4, hK4⟩ := D4; clear hD D3 hr hA)
      | (at_builtin; refine kn_pushIns (ys := [⟨1, ar⟩]) rfl _ _ rfl _ xs rfl rfl (hK4.al [.int .i64 1, .int .i64 ar] 46) (by simp; omega) ?_; intro v9 w6 hK9; obtain ⟨g5, c5, rfl⟩ := row_pos hK9.at0 (by simp); have D9 : DR b _ w _ w6 := ⟨u4, tw4, hsu4, hK9⟩)
      | (go_at_call 97; go_loud (refine (l27Program_sz _ _ _ (xs ++ [⟨1, ar⟩]) _ (by have h9 := hK9.rlIns.2; rw [List.length_append] at h9; exact h9) (by omega)).mono ?_; rintro e w5 ⟨S, rfl, hs, hw5⟩; have D5 := D9.bare.keep hw5; clear D9 hw5 hK9)))
    have hcv := run_bytes_of_string (P := Try.prog) w5 9 22 5 S Try.underlying9 Try.underlying22 Try.underlying5
    go_upto_region 16 with (go_at_call 74; refine Calls.dr (D5.convM S (by omega)) ?_; intro w2 D2; have hcap := grownCap_ge w5 (S).size 0 5; generalize grownCap w5 (S).size 0 5 = cp at D2 hcap ⊢; generalize (w5).heap.size = gg at D2 ⊢; refine (pick_dr b _ _ _ D2.src (by omega)).mono ?_; rintro e w3 ⟨x, rfl, hx, hD⟩; have D3 := D2.add hD; clear hD D2 hcv)
    by_cases x0 : x = 0
    · subst x0
      clear hx
      go_wp2_with (first
        | (go_at_call 74; (with_reducible refine (pick_dr b _ _ _ D3.src (by omega)).mono ?_); rintro e w4 ⟨y, rfl, hy, hD⟩; have D4 := D3.add hD; clear hD; obtain ⟨j, rfl⟩ : ∃ q : Nat, y = q := ⟨y.toNat, by omega⟩; have hj : j < S.size := (by omega); have hi0 : (0 : Int) ≤ (j : Int) := (by omega); have hi1 : (j : Int) < (S.size : Int) := (by omega))
        | (go_at_call 74; (with_reducible refine (pick_dr b _ _ _ D4.src (by omega)).mono ?_); rintro e w5 ⟨z, rfl, hz, hD⟩; have D5 := D4.add hD; clear hD; have y1 : IntKind.u8.wrap z = z := wrapB (by omega); have hz1 : 0 ≤ z ∧ z < 256 := (by omega); obtain ⟨⟨u8, hu⟩, hfz⟩ := (D5.front 0 rfl).mkAt.cellAt hj; have D6 := (D5.front 0 rfl).setM hj hz1; have hlt := World.block_lt_of_cell? w5 _ hu; obtain ⟨g6, c6, bs6, e6, -, hl6, hr6⟩ := D6.mkAt.reads; injection e6 with e6 _ e7; injection e6 with e6; injection e6 with e6; subst e6; subst e7; have hcv6 := conv_bytes _ _ _ cp _ hr6))
      go_ret
      exact ⟨_, rfl, by rw [size_mk]; omega, D6.bare.mono (by omega)⟩
    by_cases x1 : x = 1
    · subst x1
      clear hx
      go_wp2_with (go_at_call 74; (with_reducible refine (pick_dr b _ _ _ D3.src (by omega)).mono ?_); rintro e w4 ⟨y, rfl, hy, hD⟩; have D4 := D3.add hD; clear hD; obtain ⟨j, rfl⟩ : ∃ q : Nat, y = q := ⟨y.toNat, by omega⟩; have hj : j < S.size := (by omega); have hi0 : (0 : Int) ≤ (j : Int) := (by omega); have hi1 : (j : Int) < (S.size : Int) := (by omega); have hi2 : (j : Int) ≤ (S.size : Int) := (by omega))
      go_ret
      exact ⟨_, rfl, by simp [ByteArray.size_extract]; omega, D4.bare.mono (by omega)⟩
    by_cases x2 : x = 2
    · subst x2
      clear hx
      have hw2 : IntKind.i64.wrap ((S.size : Int) - 2) = ((S.size - 2 : Nat) : Int) := by rw [wrapI (by omega)]; omega
      have hc2 : ((S.size - 2 : Nat) : Int) ≤ (cp : Int) := by omega
      have hc3 : S.size - 2 ≤ cp := by omega
      go_wp2_with (first
        | (go_at_call 74; (with_reducible refine (pick_dr b _ _ _ D3.src (by omega)).mono ?_); rintro e w4 ⟨y, rfl, hy, hD⟩; have D4 := D3.add hD; clear hD; obtain ⟨j, rfl⟩ : ∃ q : Nat, y = q := ⟨y.toNat, by omega⟩; have hj : j < S.size := (by omega); have hi0 : (0 : Int) ≤ (j : Int) := (by omega); have hi1 : (j : Int) < (S.size : Int) := (by omega))
        | (go_at_call 74; (with_reducible refine (pick_dr b _ _ _ D4.src (by omega)).mono ?_); rintro e w5 ⟨z, rfl, hz, hD⟩; have D5 := D4.add hD; clear hD; have y1 : IntKind.u8.wrap z = z := wrapB (by omega); have hz1 : 0 ≤ z ∧ z < 256 := (by omega); obtain ⟨⟨u8, hu⟩, hfz⟩ := (D5.front 0 rfl).mkAt.cellAt hj; have D6 := (D5.front 0 rfl).setM hj hz1; have hlt := World.block_lt_of_cell? w5 _ hu; have D7 := D6.preM (j := S.size - 2) (by omega))
        | (go_at_call 93; refine (l27EndedM w.heap.size _ _ cp _ D7.mkAt (by omega) D7.le).mono ?_; rintro e w6 ⟨T, rfl, hT, hw6⟩; have D8 := D7.endM hw6))
      go_ret
      exact ⟨_, rfl, by omega, D8.mono (by omega)⟩
    by_cases x3 : x = 3
    · subst x3
      clear hx
      have hw2 : IntKind.i64.wrap ((S.size : Int) - 2) = ((S.size - 2 : Nat) : Int) := by rw [wrapI (by omega)]; omega
      have hc2 : ((S.size - 2 : Nat) : Int) ≤ (cp : Int) := by omega
      have hc3 : S.size - 2 ≤ cp := by omega
      go_wp2_with fail
      go_region_held3 (fun _ => True) (first | trivial) (first
        | (go_at_call 74; (with_reducible refine (pick_dr b _ _ _ D3.drew.src (by omega)).mono ?_); rintro e w4 ⟨z, rfl, hz, hD⟩; have D4 := D3.drew.add hD; clear hD; have y1 : IntKind.u8.wrap z = z := wrapB (by omega); have hz1 : 0 ≤ z ∧ z < 256 := (by omega); have D5 := (D4.front 0 rfl).preM (j := S.size - 2) (by omega); obtain ⟨u5, tw5, hsu5, hK5⟩ := (D5.al [.int .u8 z] 5))
        | (rw [if_pos (by kernel_rfl)]; refine kn_pushMo _ _ rfl _ _ rfl rfl hK5 hz1 (by omega) ?_; intro v6 w6 hK6; have D6 : DR b _ w _ w6 := ⟨u5, tw5, hsu5, hK6⟩; obtain ⟨g6, c6, bs6, rfl, -, hl6, hr6⟩ := hK6.mk0.reads)
        | (go_at_call 93; refine (l27EndedM w.heap.size _ _ _ _ D6.mkAt (by omega) D6.le).mono ?_; rintro e w7 ⟨T, rfl, hT, hw7⟩; have D8 := D6.endM hw7))
      all_goals
        go_wp2_with fail
        go_ret
        exact ⟨_, rfl, by omega, D8.mono (by omega)⟩
    obtain ⟨g6, c6, bs6, e6, -, hl6, hr6⟩ := (D3.front 0 rfl).mkAt.reads
    injection e6 with e6 _ e7
    injection e6 with e6
    injection e6 with e6
    subst e6
    subst e7
    have hcv6 := conv_bytes _ _ _ cp _ hr6
    have z0 : (x == 0) = false := beq_eq_false_iff_ne.2 x0
    have z1 : (x == 1) = false := beq_eq_false_iff_ne.2 x1
    have z2 : (x == 2) = false := beq_eq_false_iff_ne.2 x2
    have z3 : (x == 3) = false := beq_eq_false_iff_ne.2 x3
    go_wp2_with fail
    go_ret
    exact ⟨_, rfl, by rw [size_mk]; omega, D3.bare.mono (by omega)⟩
theorem l27Bytes_dr (b N : Nat) (w : World) (k : Int) (h0 : 0 ≤ k) (h : Src w b N) (hN : N ≤ 400000) : Calls Try.prog 101 #[.pointer (some ⟨b, 0, none⟩), .int .i64 k] w (DStr b (N + 1020) 5001 w) := by
  by_cases k0 : k = 0
  · subst k0; exact l27Bytes0_dr b N w h (by omega)
  by_cases k1 : k = 1
  · subst k1; exact l27Bytes1_dr b N w h (by omega)
  exact l27Bytes2_dr b N w k (by omega) h hN
end Go.Proofs.Ytkfbfainhmkkdaa

namespace Go.Proofs.Ytkfbfainhmkkdaa
open Go.RowKit Go.Sort
/-! hexadecimal digits -/
def hexD (n : Nat) : UInt8 := if n < 10 then UInt8.ofNat (48 + n) else UInt8.ofNat (87 + n)
def hexB (bs : List UInt8) : List UInt8 := bs.flatMap fun b => [hexD (b.toNat / 16), hexD (b.toNat % 16)]
theorem hexB_snoc (l : List UInt8) (b : UInt8) : hexB (l ++ [b]) = hexB l ++ [hexD (b.toNat / 16), hexD (b.toNat % 16)] := by simp [hexB]
theorem hexB_len (l : List UInt8) : (hexB l).length = 2 * l.length := by
  induction l with
  | nil => rfl
  | cons b l ih => unfold hexB at *; rw [List.flatMap_cons, List.length_append, ih]; simp; omega
section
variable {o : Oper} {a : Act} {K : Act → World → Prop} {Q : Exit → Act → World → Prop} {w w0 : World} {m : List Ent}
theorem kn_push2Bo (s x : Operand) (ho : o.op = .call { callee := .builtin .append, args := #[s, x], argTypes := #[22, 22] })
    (v : Value) (bs : List UInt8) (hs : a.eval s = v) {g c : Nat} {T' : TypeId} {z1 z2 : UInt8} (hx : a.eval x = .slice (some ⟨g, 0, none⟩) 2 c)
    (hK : Kn w0 (.blk g [byteV z1, byteV z2] T' :: rowB v bs :: m) w) (hl : bs.length ≤ 10000000)
    (h : ∀ v' w', Kn w0 (rowB v' (bs ++ [z1, z2]) :: m) w' → K (a.put o.dst v') w') : Oper.wp Try.prog o a w K Q := by
  have hK2 := hK.sw1
  have h0 := hK.blkAt
  refine appGo tpB s x ho 0 v bs.length (bs.map byteV) hs hK2.at0 ⟨g, 0, none⟩ 2 c [byteV z1, byteV z2] hx rfl (fun j u hu => ?_) (by simp [Value.oneCell', byteV]) (by omega) (by omega) (Nat.zero_le _) (fun v' w' ho' hg hv => ?_)
  · rw [add_zero_block]; rw [h0.1 j]; exact hu
  · refine h v' w' ?_
    have hK' := hK2.drop1.grow hg ho' hv
    unfold rowB
    rw [List.length_append, List.map_append]
    exact hK'
end
theorem hex_get (n : Nat) (h : n < 16) : (⟨#[48, 49, 50, 51, 52, 53, 54, 55, 56, 57, 97, 98, 99, 100, 101, 102]⟩ : ByteArray)[n]'h = hexD n := by
  have H : ∀ k : Fin 16, (⟨#[48, 49, 50, 51, 52, 53, 54, 55, 56, 57, 97, 98, 99, 100, 101, 102]⟩ : ByteArray)[k.val]'(k.isLt) = hexD k.val := by decide
  exact H ⟨n, h⟩
set_option maxRecDepth 100000 in
set_option maxHeartbeats 1600000 in
theorem HexOf_any (s : ByteArray) (w : World) (hs : s.size ≤ 1048576) : Calls Try.prog 53 #[.string s] w fun e w' => e = .returned (.string ⟨(hexB (strB s)).toArray⟩) ∧ Below w.heap.size w w' := by
  have HL := Lib.hid (strB_len s)
  go_enter Try.func53, Try.ntmps53
  go_wp2_with fail
  have hK1 : Kn w [rowB (.slice (some ⟨w.heap.size, 0, none⟩) 0 0) []] (w.alloc (.cells #[] 5)) := ((Kn.nil w).al [] 5).litRow (size := 1) (n := 0) rfl (by decide)
  go_loopw [3, 8] (fun vv ii wr => ∃ k : Nat, k ≤ s.size ∧ ii = .int .i64 k ∧ Kn w [rowB vv (hexB ((strB s).take k))] wr) (fun _ ii _ => s.size - (intOf ii).toNat)
  case atStart => exact ⟨0, Nat.zero_le _, rfl, hK1⟩
  case round =>
    clear hK1
    rename_i vv _
    obtain ⟨k, hk, rfl, hK⟩ := hrel
    by_cases hkn : k < s.size
    · have hkl : k < (strB s).length := by rw [HL.out]; exact hkn
      have hg := strB_get s hkn
      have HT := Lib.hid (List.take_succ_eq_append_getElem hkl)
      obtain ⟨b, hb⟩ : ∃ b, b = (strB s)[k] := ⟨_, rfl⟩
      rw [← hb] at hg HT
      have hi1 : (k : Int) < (s.size : Int) := by omega
      have hi0 : (0 : Int) ≤ (k : Int) := by omega
      have hb2 : b.toNat < 256 := UInt8.toNat_lt _
      have HX := Lib.hid (hexB_snoc ((strB s).take k) b)
      have hlen : (hexB ((strB s).take k)).length ≤ 10000000 := by rw [hexB_len, List.length_take]; omega
      obtain ⟨h, hh⟩ : ∃ h, b.toNat / 16 = h := ⟨_, rfl⟩
      obtain ⟨l, hl⟩ : ∃ h, b.toNat % 16 = h := ⟨_, rfl⟩
      have HX2 := HX.out
      rw [hh, hl] at HX2
      have HX2 := Lib.hid HX2
      have h16 : h < 16 := by omega
      have l16 : l < 16 := by omega
      have y1 : IntKind.u8.wrap ((b.toNat : Int) / 16) = (h : Int) := by rw [wrapB (by omega)]; omega
      have y2 : IntKind.u8.wrap ((b.toNat : Int) % 16) = (l : Int) := by rw [wrapB (by omega)]; omega
      have i1 : (h : Int) < 16 := by omega
      have i2 : (l : Int) < 16 := by omega
      have d1 := hex_get h h16
      have d2 := hex_get l l16
      have y3 : (b.toNat : Int) % 16 = (l : Int) := by omega
      have y4 : IntKind.u8.wrap (l : Int) = (l : Int) := wrapB (by omega)
      have y7 : Int.tmod (b.toNat : Int) 16 = (l : Int) := by rw [Int.tmod_eq_emod_of_nonneg (by omega)]; exact y3
      have y5 : (b.toNat : Int) / 16 = (h : Int) := by omega
      have y6 : IntKind.u8.wrap (h : Int) = (h : Int) := wrapB (by omega)
      clear hb hh hl HX
      go_wp2_with fail
      go_region_held3 (fun _ => True) (first | trivial) (first
        | (rw [if_pos (by kernel_rfl)]; refine kn_push2Bo _ _ rfl _ _ rfl rfl ((hK.al [byteV (hexD h), byteV (hexD l)] 5).drew) (by omega) ?_; intro v5 w5 hK5))
      all_goals
        go_wp2_with fail
        go_roundw
        case rel => exact ⟨k + 1, by omega, by go_num, by rw [HT.out, HX2.out]; exact hK5⟩
        case measure => simp [intOf]; omega
    · have hi1 : ¬ (k : Int) < (s.size : Int) := by omega
      have HF : Hid (hexB ((strB s).take k) = hexB (strB s)) := by simp only [Hid]; rw [List.take_of_length_le (by rw [HL.out]; omega)]
      rw [HF.out] at hK
      obtain ⟨L, hLL⟩ : ∃ L, hexB (strB s) = L := ⟨_, rfl⟩
      rw [hLL] at hK
      have ho := hK.ownB
      obtain ⟨A5, c5, rfl, hrb, -⟩ := ho.reads
      have hcv := conv_bytes wr A5 L.length c5 L hrb
      have HLL := Lib.hid hLL
      clear hLL
      go_wp2_with fail
      go_ret
      exact ⟨by rw [HLL.out]; rfl, hK.below⟩
set_option maxRecDepth 100000 in
set_option maxHeartbeats 1600000 in
theorem specHexOf_any (s : ByteArray) (w : World) (hs : s.size ≤ 1048576) : Calls Try.prog 54 #[.string s] w fun e w' => e = .returned (.string ⟨(hexB (strB s)).toArray⟩) ∧ Below w.heap.size w w' := by
  have HL := Lib.hid (strB_len s)
  go_enter Try.func54, Try.ntmps54
  go_wp2_with fail
  have hK1 : Kn w [rowB (.slice (some ⟨w.heap.size, 0, none⟩) 0 0) []] (w.alloc (.cells #[] 5)) := ((Kn.nil w).al [] 5).litRow (size := 1) (n := 0) rfl (by decide)
  go_loopw [4, 5] (fun vv ii wr => ∃ k : Nat, k ≤ s.size ∧ ii = .int .i64 k ∧ Kn w [rowB vv (hexB ((strB s).take k))] wr) (fun _ ii _ => s.size - (intOf ii).toNat)
  case atStart => exact ⟨0, Nat.zero_le _, rfl, hK1⟩
  case round =>
    clear hK1
    rename_i vv _
    obtain ⟨k, hk, rfl, hK⟩ := hrel
    by_cases hkn : k < s.size
    · have hkl : k < (strB s).length := by rw [HL.out]; exact hkn
      have hg := strB_get s hkn
      have HT := Lib.hid (List.take_succ_eq_append_getElem hkl)
      obtain ⟨b, hb⟩ : ∃ b, b = (strB s)[k] := ⟨_, rfl⟩
      rw [← hb] at hg HT
      have hi1 : (k : Int) < (s.size : Int) := by omega
      have hi0 : (0 : Int) ≤ (k : Int) := by omega
      have hb2 : b.toNat < 256 := UInt8.toNat_lt _
      have HX := Lib.hid (hexB_snoc ((strB s).take k) b)
      have hlen : (hexB ((strB s).take k)).length ≤ 10000000 := by rw [hexB_len, List.length_take]; omega
      obtain ⟨h, hh⟩ : ∃ h, b.toNat / 16 = h := ⟨_, rfl⟩
      obtain ⟨l, hl⟩ : ∃ h, b.toNat % 16 = h := ⟨_, rfl⟩
      have HX2 := HX.out
      rw [hh, hl] at HX2
      have HX2 := Lib.hid HX2
      have h16 : h < 16 := by omega
      have l16 : l < 16 := by omega
      have y1 : IntKind.u8.wrap ((b.toNat : Int) / 16) = (h : Int) := by rw [wrapB (by omega)]; omega
      have y2 : IntKind.u8.wrap ((b.toNat : Int) % 16) = (l : Int) := by rw [wrapB (by omega)]; omega
      have i1 : (h : Int) < 16 := by omega
      have i2 : (l : Int) < 16 := by omega
      have d1 := hex_get h h16
      have d2 := hex_get l l16
      have y3 : (b.toNat : Int) % 16 = (l : Int) := by omega
      have y4 : IntKind.u8.wrap (l : Int) = (l : Int) := wrapB (by omega)
      have y7 : Int.tmod (b.toNat : Int) 16 = (l : Int) := by rw [Int.tmod_eq_emod_of_nonneg (by omega)]; exact y3
      have y5 : (b.toNat : Int) / 16 = (h : Int) := by omega
      have y6 : IntKind.u8.wrap (h : Int) = (h : Int) := wrapB (by omega)
      clear hb hh hl HX
      go_wp2_with fail
      go_region_held3 (fun _ => True) (first | trivial) (first
        | (rw [if_pos (by kernel_rfl)]; refine kn_push2Bo _ _ rfl _ _ rfl rfl ((hK.al [byteV (hexD h), byteV (hexD l)] 5).drew) (by omega) ?_; intro v5 w5 hK5))
      all_goals
        go_wp2_with fail
        go_roundw
        case rel => exact ⟨k + 1, by omega, by go_num, by rw [HT.out, HX2.out]; exact hK5⟩
        case measure => simp [intOf]; omega
    · have hi1 : ¬ (k : Int) < (s.size : Int) := by omega
      have HF : Hid (hexB ((strB s).take k) = hexB (strB s)) := by simp only [Hid]; rw [List.take_of_length_le (by rw [HL.out]; omega)]
      rw [HF.out] at hK
      obtain ⟨L, hLL⟩ : ∃ L, hexB (strB s) = L := ⟨_, rfl⟩
      rw [hLL] at hK
      have ho := hK.ownB
      obtain ⟨A5, c5, rfl, hrb, -⟩ := ho.reads
      have hcv := conv_bytes wr A5 L.length c5 L hrb
      have HLL := Lib.hid hLL
      clear hLL
      go_wp2_with fail
      go_ret
      exact ⟨by rw [HLL.out]; rfl, hK.below⟩
end Go.Proofs.Ytkfbfainhmkkdaa

namespace Go.Proofs.Ytkfbfainhmkkdaa
open Go.RowKit Go.Sort
/-- what a hexadecimal digit means, -1 if it is none -/
def hexV (c : UInt8) : Int := if 48 ≤ c.toNat ∧ c.toNat ≤ 57 then (c.toNat : Int) - 48 else if 97 ≤ c.toNat ∧ c.toNat ≤ 102 then (c.toNat : Int) - 87 else -1
theorem hexV_bd (c : UInt8) : -1 ≤ hexV c ∧ hexV c ≤ 15 := by
  unfold hexV
  split
  · omega
  · split <;> omega
theorem hexD_nat {n : Nat} (h : n < 16) : (hexD n).toNat = if n < 10 then 48 + n else 87 + n := by
  have H : ∀ k : Fin 16, (hexD k.val).toNat = if k.val < 10 then 48 + k.val else 87 + k.val := by decide
  exact H ⟨n, h⟩
theorem hexV_hexD {n : Nat} (h : n < 16) : hexV (hexD n) = n := by
  have H : ∀ k : Fin 16, hexV (hexD k.val) = (k.val : Int) := by decide
  exact H ⟨n, h⟩
theorem hexV_none {c : UInt8} (h : ∀ j, j < 16 → ¬ hexD j = c) : hexV c = -1 := by
  unfold hexV
  split
  · rename_i hc
    exfalso
    refine h (c.toNat - 48) (by omega) (UInt8.toNat_inj.1 ?_)
    rw [hexD_nat (by omega), if_pos (by omega)]
    omega
  · split
    · rename_i hc
      exfalso
      refine h (c.toNat - 87) (by omega) (UInt8.toNat_inj.1 ?_)
      rw [hexD_nat (by omega), if_neg (by omega)]
      omega
    · rfl
set_option maxRecDepth 100000 in
set_option maxHeartbeats 800000 in
theorem hexDigit_any (c : UInt8) (w : World) : Calls Try.prog 107 #[.int .u8 (c.toNat : Int)] w fun e w' => e = .returned (.int .i64 (hexV c)) ∧ w = w' := by
  go_enter Try.func107, Try.ntmps107
  go_wp2_with fail
  go_loopw [4] (fun ii wr => ∃ k : Nat, k ≤ 16 ∧ ii = .int .i64 k ∧ Hid (∀ j, j < k → ¬ hexD j = c) ∧ w = wr) (fun ii _ => 16 - (intOf ii).toNat)
  case atStart => exact ⟨0, Nat.zero_le _, rfl, Lib.hid (fun j h => by omega), rfl⟩
  case round =>
    obtain ⟨k, hk, rfl, HN, rfl⟩ := hrel
    by_cases hk16 : k < 16
    · have hg := hex_get k hk16
      have hi1 : (k : Int) < 16 := by omega
      have hi0 : (0 : Int) ≤ (k : Int) := by omega
      by_cases he : hexD k = c
      · have HV := Lib.hid (show hexV c = (k : Int) by rw [← he]; exact hexV_hexD hk16)
        have e1 : (((hexD k).toNat : Int) == (c.toNat : Int)) = true := by rw [he]; exact beq_self_eq_true _
        have e2 : (hexD k).toNat = c.toNat := by rw [he]
        clear he
        go_wp2_with fail
        go_ret
        exact ⟨by rw [HV.out]; rfl, rfl⟩
      · have e2 : ¬ (hexD k).toNat = c.toNat := fun h => he (UInt8.toNat_inj.1 h)
        have e1 : (((hexD k).toNat : Int) == (c.toNat : Int)) = false := beq_eq_false_iff_ne.2 (by omega)
        have HN2 := Lib.hid (show ∀ j, j < k + 1 → ¬ hexD j = c from fun j hj => by
          rcases Nat.lt_or_ge j k with h | h
          · exact HN.out j h
          · obtain rfl : j = k := by omega
            exact he)
        clear he
        go_wp2_with fail
        go_roundw
        case rel => exact ⟨k + 1, by omega, by go_num, HN2, by first | trivial | rfl⟩
        case measure => simp [intOf]; omega
    · have hi1 : ¬ (k : Int) < 16 := by omega
      have HV := Lib.hid (hexV_none (c := c) (fun j hj => HN.out j (by omega)))
      go_wp2_with fail
      go_ret
      exact ⟨by rw [HV.out]; rfl, rfl⟩
theorem hexDigitS_any (c : UInt8) (w : World) : Calls Try.prog 108 #[.int .u8 (c.toNat : Int)] w fun e w' => e = .returned (.int .i64 (hexV c)) ∧ w = w' := by
  obtain ⟨z, hc⟩ : ∃ z, c.toNat = z := ⟨_, rfl⟩
  have hz : z < 256 := by rw [← hc]; exact c.toNat_lt
  have HV := Lib.hid (show hexV c = if 48 ≤ z ∧ z ≤ 57 then (z : Int) - 48 else if 97 ≤ z ∧ z ≤ 102 then (z : Int) - 87 else -1 by unfold hexV; rw [hc])
  rw [hc]
  by_cases h1 : 48 ≤ z ∧ z ≤ 57
  · have HV2 := Lib.hid (show hexV c = (z : Int) - 48 by rw [HV.out, if_pos h1])
    have i1 : (48 : Int) ≤ (z : Int) := by omega
    have i2 : (z : Int) ≤ 57 := by omega
    have y1 : IntKind.u8.wrap ((z : Int) - 48) = (z : Int) - 48 := wrapB (by omega)
    clear h1
    go_enter Try.func108, Try.ntmps108
    go_wp2_with fail
    go_ret
    exact ⟨ret_int HV2.out.symm, rfl⟩
  · by_cases h2 : 97 ≤ z ∧ z ≤ 102
    · have HV2 := Lib.hid (show hexV c = (z : Int) - 97 + 10 by rw [HV.out, if_neg h1, if_pos h2]; omega)
      have i1 : (48 : Int) ≤ (z : Int) := by omega
      have i2 : ¬ (z : Int) ≤ 57 := by omega
      have i3 : (97 : Int) ≤ (z : Int) := by omega
      have i4 : (z : Int) ≤ 102 := by omega
      have y1 : IntKind.u8.wrap ((z : Int) - 97) = (z : Int) - 97 := wrapB (by omega)
      clear h1 h2
      go_enter Try.func108, Try.ntmps108
      go_wp2_with fail
      go_ret
      exact ⟨ret_int HV2.out.symm, rfl⟩
    · have HV2 := Lib.hid (show hexV c = -1 by rw [HV.out, if_neg h1, if_neg h2])
      rw [HV2.out]
      clear HV HV2
      by_cases q1 : 48 ≤ z
      · have i1 : (48 : Int) ≤ (z : Int) := by omega
        have i2 : ¬ (z : Int) ≤ 57 := by omega
        by_cases q2 : 97 ≤ z
        · have i3 : (97 : Int) ≤ (z : Int) := by omega
          have i4 : ¬ (z : Int) ≤ 102 := by omega
          clear h1 h2 q1 q2
          go_enter Try.func108, Try.ntmps108
          go_wp2_with fail
          go_ret
          exact ⟨rfl, rfl⟩
        · have i3 : ¬ (97 : Int) ≤ (z : Int) := by omega
          clear h1 h2 q1 q2
          go_enter Try.func108, Try.ntmps108
          go_wp2_with fail
          go_ret
          exact ⟨rfl, rfl⟩
      · have i1 : ¬ (48 : Int) ≤ (z : Int) := by omega
        have i3 : ¬ (97 : Int) ≤ (z : Int) := by omega
        clear h1 h2 q1
        go_enter Try.func108, Try.ntmps108
        go_wp2_with fail
        go_ret
        exact ⟨rfl, rfl⟩
def unhex : List UInt8 → Option (List UInt8)
  | [] => some []
  | [_] => none
  | a :: b :: r => if hexV a < 0 ∨ hexV b < 0 then none else (unhex r).map (toB (16 * hexV a + hexV b) :: ·)
theorem unhex_odd : ∀ (n : Nat) (l : List UInt8), l.length = 2 * n + 1 → unhex l = none
  | 0, [a], _ => rfl
  | n + 1, a :: b :: r, h => by
    rw [unhex, unhex_odd n r (by simp at h; omega)]
    split <;> rfl
theorem unhex_hex : ∀ bs : List UInt8, unhex (hexB bs) = some bs
  | [] => rfl
  | b :: bs => by
    have hb : b.toNat < 256 := UInt8.toNat_lt _
    have h1 := hexV_hexD (n := b.toNat / 16) (by omega)
    have h2 := hexV_hexD (n := b.toNat % 16) (by omega)
    have e : hexB (b :: bs) = hexD (b.toNat / 16) :: hexD (b.toNat % 16) :: hexB bs := rfl
    rw [e, unhex, h1, h2, if_neg (by omega), unhex_hex bs, Option.map_some]
    congr 2
    unfold toB
    rw [show (16 * ((b.toNat / 16 : Nat) : Int) + ((b.toNat % 16 : Nat) : Int)).toNat = b.toNat by omega]
    exact UInt8.ofNat_toNat
def rhV (s : ByteArray) : ByteArray := ⟨((unhex (strB s)).getD []).toArray⟩
def rhOk (s : ByteArray) : Bool := (unhex (strB s)).isSome
theorem rh_none {s : ByteArray} (h : unhex (strB s) = none) : rhV s = ⟨#[]⟩ ∧ rhOk s = false := by unfold rhV rhOk; rw [h]; exact ⟨rfl, rfl⟩
theorem rh_some {s : ByteArray} {l : List UInt8} (h : unhex (strB s) = some l) : rhV s = ⟨l.toArray⟩ ∧ rhOk s = true := by unfold rhV rhOk; rw [h]; exact ⟨rfl, rfl⟩
def RHRet (s : ByteArray) (w : World) (e : Ending) (w' : World) : Prop := e = .returned (.tuple #[.string (rhV s), .bool (rhOk s)]) ∧ Below w.heap.size w w'
set_option maxRecDepth 100000 in
set_option maxHeartbeats 3200000 in
theorem ReadHex_any (s : ByteArray) (w : World) (hs : s.size ≤ 1048576) : Calls Try.prog 48 #[.string s] w (RHRet s w) := by
  unfold RHRet
  have hsl := strB_len s
  by_cases hodd : s.size % 2 = 1
  · obtain ⟨e1, e2⟩ := rh_none (unhex_odd (s.size / 2) (strB s) (by omega))
    rw [e1, e2]
    have t1 : Int.tmod (s.size : Int) 2 = 1 := by rw [Int.tmod_eq_emod_of_nonneg (by omega)]; omega
    clear e1 e2
    go_enter Try.func48, Try.ntmps48
    go_wp2_with fail
    go_ret2
    exact ⟨rfl, Below.refl _ _⟩
  · have HEV := Lib.hid (show s.size % 2 = 0 by omega)
    have HSL := Lib.hid hsl
    have t1 : Int.tmod (s.size : Int) 2 = 0 := by rw [Int.tmod_eq_emod_of_nonneg (by omega)]; omega
    clear hodd hsl
    go_enter Try.func48, Try.ntmps48
    go_wp2_with fail
    have hK1 : Kn w [rowB (.slice (some ⟨w.heap.size, 0, none⟩) 0 0) []] (w.alloc (.cells #[] 5)) := ((Kn.nil w).al [] 5).litRow (size := 1) (n := 0) rfl (by decide)
    go_loopw [4, 5] (fun vv ii wr => ∃ (k : Nat) (pre : List UInt8), k ≤ s.size ∧ ii = .int .i64 (k : Int) ∧ Hid (2 * pre.length = k) ∧ Hid (unhex (strB s) = (unhex ((strB s).drop k)).map (pre ++ ·)) ∧ Kn w [rowB vv pre] wr) (fun _ ii _ => s.size - (intOf ii).toNat)
    case atStart => exact ⟨0, [], Nat.zero_le _, rfl, Lib.hid rfl, Lib.hid (by simp), hK1⟩
    case round =>
      clear hK1
      rename_i vv _
      obtain ⟨k, pre, hk, rfl, HPL, HU, hK⟩ := hrel
      by_cases hkn : k < s.size
      · have hpl := HPL.out
        have hev := HEV.out
        have hsl := HSL.out
        have hpb : pre.length ≤ 10000000 := by omega
        have hk2 : k + 1 < s.size := by omega
        have g1 := strB_get s hkn
        have g2 := strB_get s hk2
        have hd := List.drop_eq_getElem_cons (l := strB s) (i := k) (by omega)
        have hd2 := List.drop_eq_getElem_cons (l := strB s) (i := k + 1) (by omega)
        obtain ⟨a, ha⟩ : ∃ a, (strB s)[k]'(by omega) = a := ⟨_, rfl⟩
        obtain ⟨b, hb⟩ : ∃ a, (strB s)[k + 1]'(by omega) = a := ⟨_, rfl⟩
        rw [ha] at g1 hd
        rw [hb] at g2 hd2
        rw [hd2] at hd
        have hu := HU.out
        rw [hd, unhex] at hu
        have va := hexV_bd a
        have vb := hexV_bd b
        have KA := (fun W => hexDigit_any a W)
        have KB := (fun W => hexDigit_any b W)
        obtain ⟨x, hx⟩ : ∃ x, hexV a = x := ⟨_, rfl⟩
        obtain ⟨y, hy⟩ : ∃ x, hexV b = x := ⟨_, rfl⟩
        rw [hx] at va KA hu
        rw [hy] at vb KB hu
        have KA := Lib.hid KA
        have KB := Lib.hid KB
        have HU2 := Lib.hid hu
        have hi0 : (0 : Int) ≤ (k : Int) := by omega
        have hi1 : (k : Int) < (s.size : Int) := by omega
        have hi2 : (k : Int) + 1 < (s.size : Int) := by omega
        have hi3 : (0 : Int) ≤ (k : Int) + 1 := by omega
        have hw1 : IntKind.i64.wrap ((k : Int) + 1) = (k : Int) + 1 := wrapI (by omega)
        have hi4 : ((k + 1 : Nat) : Int) < (s.size : Int) := by omega
        have hi5 : ((k : Int) + 1).toNat = k + 1 := by omega
        have HPL2 := Lib.hid (show 2 * (pre.length + 1) = k + 2 by omega)
        clear hd hd2 ha hb hu HU hx hy hpl hev hsl
        by_cases hx0 : x < 0
        · have HE := Lib.hid (show unhex (strB s) = none by have := HU2.out; rw [if_pos (.inl hx0)] at this; simpa using this)
          (go_upto_region 7 with fail; go_region_held3 (fun _ => True) (first | trivial) (first | (go_at_call 107; first | (with_reducible refine (KA.out _).mono ?_; rintro e w' ⟨rfl, rfl⟩) | (with_reducible refine (KB.out _).mono ?_; rintro e w' ⟨rfl, rfl⟩))))
          all_goals
            go_wp2_with fail
            go_ret2
            exact ⟨by rw [(rh_none HE.out).1, (rh_none HE.out).2]; rfl, (hK.drew).below⟩
        · by_cases hy0 : y < 0
          · have HE := Lib.hid (show unhex (strB s) = none by have := HU2.out; rw [if_pos (.inr hy0)] at this; simpa using this)
            (go_upto_region 7 with fail; go_region_held3 (fun _ => True) (first | trivial) (first | (go_at_call 107; first | (with_reducible refine (KA.out _).mono ?_; rintro e w' ⟨rfl, rfl⟩) | (with_reducible refine (KB.out _).mono ?_; rintro e w' ⟨rfl, rfl⟩))))
            all_goals
              go_wp2_with fail
              go_ret2
              exact ⟨by rw [(rh_none HE.out).1, (rh_none HE.out).2]; rfl, (hK.drew).below⟩
          · have HE := Lib.hid (show unhex (strB s) = (unhex ((strB s).drop (k + 2))).map ((pre ++ [toB (16 * x + y)]) ++ ·) by
              have := HU2.out
              rw [if_neg (by omega), Option.map_map] at this
              rw [this]
              congr 1
              funext l
              simp)
            have hw5 : IntKind.i64.wrap (16 * x) = 16 * x := wrapI (by omega)
            have hw6 : IntKind.i64.wrap (16 * x + y) = 16 * x + y := wrapI (by omega)
            have hw7 : IntKind.u8.wrap (16 * x + y) = 16 * x + y := wrapB (by omega)
            clear HU2
            (go_upto_region 7 with fail; go_region_held3 (fun _ => True) (first | trivial) (first | (go_at_call 107; first | (with_reducible refine (KA.out _).mono ?_; rintro e w' ⟨rfl, rfl⟩) | (with_reducible refine (KB.out _).mono ?_; rintro e w' ⟨rfl, rfl⟩))))
            all_goals
              go_wp2_with (at_builtin; refine kn_pushB rfl _ _ rfl _ _ rfl rfl ((hK.drew).al [.int .u8 (16 * x + y)] 5) (by omega) (by omega) ?_; intro v7 w7 hK7)
              go_roundw
              case rel => exact ⟨k + 2, pre ++ [toB (16 * x + y)], by omega, by go_num, Lib.hid (by rw [List.length_append]; exact HPL2.out), HE, hK7⟩
              case measure => simp [intOf]; omega
      · have hi1 : ¬ (k : Int) < (s.size : Int) := by omega
        have hsl := HSL.out
        have hu := HU.out
        rw [List.drop_of_length_le (by omega), unhex, Option.map_some, List.append_nil] at hu
        have HE := Lib.hid (rh_some hu)
        have ho := hK.ownB
        obtain ⟨A5, c5, rfl, hrb, -⟩ := ho.reads
        have hcv := conv_bytes wr A5 pre.length c5 pre hrb
        clear hu HU hsl
        go_wp2_with fail
        go_ret2
        exact ⟨by rw [HE.out.1, HE.out.2]; rfl, hK.below⟩
set_option maxRecDepth 100000 in
set_option maxHeartbeats 3200000 in
theorem specReadHex_any (s : ByteArray) (w : World) (hs : s.size ≤ 1048576) : Calls Try.prog 49 #[.string s] w (RHRet s w) := by
  unfold RHRet
  have hsl := strB_len s
  by_cases hodd : s.size % 2 = 1
  · obtain ⟨e1, e2⟩ := rh_none (unhex_odd (s.size / 2) (strB s) (by omega))
    rw [e1, e2]
    have t1 : Int.tmod (s.size : Int) 2 = 1 := by rw [Int.tmod_eq_emod_of_nonneg (by omega)]; omega
    clear e1 e2
    go_enter Try.func49, Try.ntmps49
    go_wp2_with fail
    go_ret2
    exact ⟨rfl, Below.refl _ _⟩
  · have HEV := Lib.hid (show s.size % 2 = 0 by omega)
    have HSL := Lib.hid hsl
    have t1 : Int.tmod (s.size : Int) 2 = 0 := by rw [Int.tmod_eq_emod_of_nonneg (by omega)]; omega
    clear hodd hsl
    go_enter Try.func49, Try.ntmps49
    go_wp2_with fail
    have hK1 : Kn w [rowB (.slice (some ⟨w.heap.size, 0, none⟩) 0 0) []] (w.alloc (.cells #[] 5)) := ((Kn.nil w).al [] 5).litRow (size := 1) (n := 0) rfl (by decide)
    go_loopw [4, 5] (fun vv ii wr => ∃ (k : Nat) (pre : List UInt8), k ≤ s.size ∧ ii = .int .i64 (k : Int) ∧ Hid (2 * pre.length = k) ∧ Hid (unhex (strB s) = (unhex ((strB s).drop k)).map (pre ++ ·)) ∧ Kn w [rowB vv pre] wr) (fun _ ii _ => s.size - (intOf ii).toNat)
    case atStart => exact ⟨0, [], Nat.zero_le _, rfl, Lib.hid rfl, Lib.hid (by simp), hK1⟩
    case round =>
      clear hK1
      rename_i vv _
      obtain ⟨k, pre, hk, rfl, HPL, HU, hK⟩ := hrel
      by_cases hkn : k < s.size
      · have hpl := HPL.out
        have hev := HEV.out
        have hsl := HSL.out
        have hpb : pre.length ≤ 10000000 := by omega
        have hk2 : k + 1 < s.size := by omega
        have g1 := strB_get s hkn
        have g2 := strB_get s hk2
        have hd := List.drop_eq_getElem_cons (l := strB s) (i := k) (by omega)
        have hd2 := List.drop_eq_getElem_cons (l := strB s) (i := k + 1) (by omega)
        obtain ⟨a, ha⟩ : ∃ a, (strB s)[k]'(by omega) = a := ⟨_, rfl⟩
        obtain ⟨b, hb⟩ : ∃ a, (strB s)[k + 1]'(by omega) = a := ⟨_, rfl⟩
        rw [ha] at g1 hd
        rw [hb] at g2 hd2
        rw [hd2] at hd
        have hu := HU.out
        rw [hd, unhex] at hu
        have va := hexV_bd a
        have vb := hexV_bd b
        have KA := (fun W => hexDigitS_any a W)
        have KB := (fun W => hexDigitS_any b W)
        obtain ⟨x, hx⟩ : ∃ x, hexV a = x := ⟨_, rfl⟩
        obtain ⟨y, hy⟩ : ∃ x, hexV b = x := ⟨_, rfl⟩
        rw [hx] at va KA hu
        rw [hy] at vb KB hu
        have KA := Lib.hid KA
        have KB := Lib.hid KB
        have HU2 := Lib.hid hu
        have hi0 : (0 : Int) ≤ (k : Int) := by omega
        have hi1 : (k : Int) < (s.size : Int) := by omega
        have hi2 : (k : Int) + 1 < (s.size : Int) := by omega
        have hi3 : (0 : Int) ≤ (k : Int) + 1 := by omega
        have hw1 : IntKind.i64.wrap ((k : Int) + 1) = (k : Int) + 1 := wrapI (by omega)
        have hi4 : ((k + 1 : Nat) : Int) < (s.size : Int) := by omega
        have hi5 : ((k : Int) + 1).toNat = k + 1 := by omega
        have HPL2 := Lib.hid (show 2 * (pre.length + 1) = k + 2 by omega)
        clear hd hd2 ha hb hu HU hx hy hpl hev hsl
        by_cases hx0 : x < 0
        · have HE := Lib.hid (show unhex (strB s) = none by have := HU2.out; rw [if_pos (.inl hx0)] at this; simpa using this)
          (go_upto_region 9 with (go_at_call 108; first | (with_reducible refine (KA.out _).mono ?_; rintro e w' ⟨rfl, rfl⟩) | (with_reducible refine (KB.out _).mono ?_; rintro e w' ⟨rfl, rfl⟩)))
          all_goals
            go_wp2_with fail
            go_ret2
            exact ⟨by rw [(rh_none HE.out).1, (rh_none HE.out).2]; rfl, (hK).below⟩
        · by_cases hy0 : y < 0
          · have HE := Lib.hid (show unhex (strB s) = none by have := HU2.out; rw [if_pos (.inr hy0)] at this; simpa using this)
            (go_upto_region 9 with (go_at_call 108; first | (with_reducible refine (KA.out _).mono ?_; rintro e w' ⟨rfl, rfl⟩) | (with_reducible refine (KB.out _).mono ?_; rintro e w' ⟨rfl, rfl⟩)))
            all_goals
              go_wp2_with fail
              go_ret2
              exact ⟨by rw [(rh_none HE.out).1, (rh_none HE.out).2]; rfl, (hK).below⟩
          · have HE := Lib.hid (show unhex (strB s) = (unhex ((strB s).drop (k + 2))).map ((pre ++ [toB (16 * x + y)]) ++ ·) by
              have := HU2.out
              rw [if_neg (by omega), Option.map_map] at this
              rw [this]
              congr 1
              funext l
              simp)
            have hw5 : IntKind.i64.wrap (16 * x) = 16 * x := wrapI (by omega)
            have hw6 : IntKind.i64.wrap (16 * x + y) = 16 * x + y := wrapI (by omega)
            have hw7 : IntKind.u8.wrap (16 * x + y) = 16 * x + y := wrapB (by omega)
            clear HU2
            (go_upto_region 9 with (go_at_call 108; first | (with_reducible refine (KA.out _).mono ?_; rintro e w' ⟨rfl, rfl⟩) | (with_reducible refine (KB.out _).mono ?_; rintro e w' ⟨rfl, rfl⟩)))
            all_goals
              go_wp2_with (at_builtin; refine kn_pushB rfl _ _ rfl _ _ rfl rfl ((hK).al [.int .u8 (16 * x + y)] 5) (by omega) (by omega) ?_; intro v7 w7 hK7)
              go_roundw
              case rel => exact ⟨k + 2, pre ++ [toB (16 * x + y)], by omega, by go_num, Lib.hid (by rw [List.length_append]; exact HPL2.out), HE, hK7⟩
              case measure => simp [intOf]; omega
      · have hi1 : ¬ (k : Int) < (s.size : Int) := by omega
        have hsl := HSL.out
        have hu := HU.out
        rw [List.drop_of_length_le (by omega), unhex, Option.map_some, List.append_nil] at hu
        have HE := Lib.hid (rh_some hu)
        have ho := hK.ownB
        obtain ⟨A5, c5, rfl, hrb, -⟩ := ho.reads
        have hcv := conv_bytes wr A5 pre.length c5 pre hrb
        clear hu HU hsl
        go_wp2_with fail
        go_ret2
        exact ⟨by rw [HE.out.1, HE.out.2]; rfl, hK.below⟩
end Go.Proofs.Ytkfbfainhmkkdaa
