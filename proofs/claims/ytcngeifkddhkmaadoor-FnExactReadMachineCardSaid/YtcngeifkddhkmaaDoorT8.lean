import Derived.Test.YtcngeifkddhkmaaDoorT7
import Derived.Test.YtcngeifkddhkmaaDoorK1
namespace Go.Proofs.YtcngeifkddhkmaaDoor
open Go.RowKit Go.Sort
theorem Marks.chg {P : Nat → Prop} {w w' : World} (h : Marks P w w') : Chg P w w' := by
  induction h with
  | refl => exact ⟨rfl, rfl, rfl, Nat.le_refl _, fun _ _ _ => rfl⟩
  | step h hb j u ih =>
    refine ⟨ih.os, ih.tape, ih.output, Nat.le_trans ih.size (by simp [World.setCell]), fun k hk hn => ?_⟩
    rw [Below.heap_setCell _ _ _ _ (fun e => hn (by rw [e]; exact hb))]
    exact ih.block k hk hn
def rowN (A : Option Addr) (n c : Nat) (ds : List Int) : Ent := .row (.slice A n c) 2 1 n (ds.map (Value.int .i64))
theorem Kn.marks {w0 w w' : World} {m : List Ent} {A : Option Addr} {n c : Nat} {ds ds' : List Int} (h : Kn w0 (rowN A n c ds :: m) w) (hm : Marks (fun b => (Value.slice A n c).ownBlock = some b) w w') (ho : OwnI w' 0 (.slice A n c) ds') (hl : ds'.length = n) : Kn w0 (rowN A n c ds' :: m) w' := by
  subst hl
  exact h.upd (e' := rowN A ds'.length c ds') hm.chg ho (fun k hk => .inl hk)
theorem Kn.ownN {w0 w : World} {m : List Ent} {A : Option Addr} {n c : Nat} {ds : List Int} (h : Kn w0 (rowN A n c ds :: m) w) : OwnI w 0 (.slice A n c) ds ∧ ds.length = n := by
  have h1 : w.ownsRow 0 2 1 (.slice A n c) n (ds.map (Value.int .i64)) := h.at0
  have h2 := h1.1
  rw [List.length_map, Nat.mul_one] at h2
  subst h2
  exact ⟨h1, rfl⟩
theorem Kn.riN {w0 w : World} {m : List Ent} {A : Option Addr} {n c : Nat} {ds : List Int} (h : Kn w0 (rowN A n c ds :: m) w) : RI w A n ds := h.ownN.1.ri
theorem Kn.tail3 {w0 w : World} {m : List Ent} {a b c d : Ent} (h : Kn w0 (a :: b :: c :: d :: m) w) : Kn w0 (b :: c :: d :: a :: m) w := h.perm (List.perm_middle (a := a) (l₁ := [b, c, d]) (l₂ := m)).symm
theorem Kn.rot3 {w0 w : World} {m : List Ent} {b c d : Ent} (h : Kn w0 (b :: c :: d :: m) w) : Kn w0 (c :: d :: b :: m) w := h.perm (List.perm_middle (a := b) (l₁ := [c, d]) (l₂ := m)).symm
theorem markRegister_kn (w0 : World) (m : List Ent) (b : Int) (A : Option Addr) (n c : Nat) (ds : List Int) (k : Int) (w : World) (hK : Kn w0 (rowN A n c ds :: m) w) (h0 : 0 ≤ k) (hk : k + n ≤ 4611686018427387904) :
    Calls Tryd.prog 149 #[.agg #[.int .i64 b, .slice A n c], .int .i64 k] w fun e w' => e = .returned (.int .i64 (k + n)) ∧ Kn w0 (rowN A n c (upto k n) :: m) w' := by
  have hKa := hK.al_ (.cells #[.int .i64 b, .slice A n c] 26)
  go_enter Tryd.func149, Tryd.ntmps149
  go_wp2_with fail
  refine Calls.kn hKa ?_; intro w1 hK1
  obtain ⟨ho, hl⟩ := hK1.ownN
  refine (markInt64S_any 0 A n c ds k w1 ho hl h0 hk).mono ?_; rintro e w2 ⟨rfl, hm, ho2⟩
  have hK2 := hK1.marks hm ho2 (upto_len k n)
  clear ho hl hm ho2 hKa
  go_wp2_with fail
  go_ret
  exact ⟨rfl, hK2⟩
theorem heldRegister_any (b : Int) (A : Option Addr) (n c : Nat) (k : Int) (w : World) (hr : RI w A n (upto k n)) (h0 : 0 ≤ k) (hk : k + n ≤ 4611686018427387904) :
    Calls Tryd.prog 150 #[.agg #[.int .i64 b, .slice A n c], .int .i64 k] w fun e w' => e = .returned (.int .i64 (k + n)) ∧ Below w.heap.size w w' := by
  have hK := (Kn.nil w).al [.int .i64 b, .slice A n c] 26
  have hr' := hr.below hK.below
  have i0 : ¬ k + (n : Int) < 0 := by omega
  go_enter Tryd.func150, Tryd.ntmps150
  go_wp2_with fail
  refine (heldInt64S_any A n c k _ hr' h0 hk).mono ?_; rintro e w2 ⟨rfl, rfl⟩
  go_wp2_with fail
  go_ret
  exact ⟨rfl, hK.below⟩
set_option maxHeartbeats 800000 in
theorem markMachine_kn (w0 : World) (m : List Ent) (b1 b2 b3 cy : Int) (A1 A2 A3 : Option Addr) (n1 n2 n3 c1 c2 c3 : Nat) (d1 d2 d3 : List Int) (k : Int) (w : World) (hK : Kn w0 (rowN A3 n3 c3 d3 :: rowN A2 n2 c2 d2 :: rowN A1 n1 c1 d1 :: m) w) (h0 : 0 ≤ k) (hk : k + n1 + n2 + n3 ≤ 4611686018427387904) :
    Calls Tryd.prog 64 #[.agg #[.int .i64 b1, .slice A1 n1 c1, .int .i64 b2, .slice A2 n2 c2, .int .i64 b3, .slice A3 n3 c3, .int .i64 cy], .int .i64 k] w fun e w' => e = .returned (.int .i64 (k + n1 + n2 + n3)) ∧ Kn w0 (rowN A3 n3 c3 (upto (k + n1 + n2) n3) :: rowN A2 n2 c2 (upto (k + n1) n2) :: rowN A1 n1 c1 (upto k n1) :: m) w' := by
  have hKb := (hK.al [.int .i64 b1, .slice A1 n1 c1, .int .i64 b2, .slice A2 n2 c2, .int .i64 b3, .slice A3 n3 c3, .int .i64 cy] 91).sw3
  go_enter Tryd.func64, Tryd.ntmps64
  go_wp2_with fail
  refine (markRegister_kn w0 _ b1 A1 n1 c1 d1 k _ hKb h0 (by omega)).mono ?_; rintro e w1 ⟨rfl, hK1⟩
  obtain ⟨a1, a2, a3, -⟩ := hK1.cells
  go_wp2_with fail
  refine (markRegister_kn w0 _ b2 A2 n2 c2 d2 _ _ hK1.sw3 (by omega) (by omega)).mono ?_; rintro e w2 ⟨rfl, hK2⟩
  clear a1 a2 a3
  obtain ⟨a1, a2, a3, -⟩ := hK2.cells
  go_wp2_with fail
  refine (markRegister_kn w0 _ b3 A3 n3 c3 d3 _ _ hK2.sw3 (by omega) (by omega)).mono ?_; rintro e w3 ⟨rfl, hK3⟩
  go_wp2_with fail
  go_ret
  exact ⟨rfl, hK3.sw3.drop⟩
set_option maxHeartbeats 800000 in
theorem heldMachine_any (b1 b2 b3 cy : Int) (A1 A2 A3 : Option Addr) (n1 n2 n3 c1 c2 c3 : Nat) (k : Int) (w : World) (r1 : RI w A1 n1 (upto k n1)) (r2 : RI w A2 n2 (upto (k + n1) n2)) (r3 : RI w A3 n3 (upto (k + n1 + n2) n3)) (h0 : 0 ≤ k) (hk : k + n1 + n2 + n3 ≤ 4611686018427387904) :
    Calls Tryd.prog 65 #[.agg #[.int .i64 b1, .slice A1 n1 c1, .int .i64 b2, .slice A2 n2 c2, .int .i64 b3, .slice A3 n3 c3, .int .i64 cy], .int .i64 k] w fun e w' => e = .returned (.int .i64 (k + n1 + n2 + n3)) ∧ Below w.heap.size w w' := by
  have R1 := Lib.hid (fun W (hW : Below w.heap.size w W) => heldRegister_any b1 A1 n1 c1 k W (r1.below hW) h0 (by omega))
  have R2 := Lib.hid (fun W (hW : Below w.heap.size w W) => heldRegister_any b2 A2 n2 c2 (k + n1) W (r2.below hW) (by omega) (by omega))
  have R3 := Lib.hid (fun W (hW : Below w.heap.size w W) => heldRegister_any b3 A3 n3 c3 (k + n1 + n2) W (r3.below hW) (by omega) (by omega))
  have i1 : ¬ k + (n1 : Int) < 0 := by omega
  have i2 : ¬ k + (n1 : Int) + (n2 : Int) < 0 := by omega
  have i3 : ¬ k + (n1 : Int) + (n2 : Int) + (n3 : Int) < 0 := by omega
  have hKb := (Kn.nil w).al [.int .i64 b1, .slice A1 n1 c1, .int .i64 b2, .slice A2 n2 c2, .int .i64 b3, .slice A3 n3 c3, .int .i64 cy] 91
  clear r1 r2 r3
  go_enter Tryd.func65, Tryd.ntmps65
  go_wp2_with fail
  refine (R1.out _ hKb.below).mono ?_; rintro e w1 ⟨rfl, hw⟩
  have hK1 := hKb.keep hw
  clear hw hKb
  obtain ⟨a1, a2, a3, -⟩ := hK1.cells
  go_wp2_with fail
  refine (R2.out _ hK1.below).mono ?_; rintro e w2 ⟨rfl, hw⟩
  have hK2 := hK1.keep hw
  clear hw hK1 a1 a2 a3
  obtain ⟨a1, a2, a3, -⟩ := hK2.cells
  go_wp2_with fail
  refine (R3.out _ hK2.below).mono ?_; rintro e w3 ⟨rfl, hw⟩
  have hK3 := hK2.keep hw
  clear hw hK2 a1 a2 a3
  go_wp2_with fail
  go_ret
  exact ⟨rfl, hK3.below⟩
theorem eqM_same (b1 b2 b3 cy : Int) (A1 A2 A3 B1 B2 B3 : Option Addr) (n1 n2 n3 c1 c2 c3 e1 e2 e3 : Nat) (d1 d2 d3 : List Int) (w : World)
    (r1 : RI w A1 n1 d1) (r2 : RI w A2 n2 d2) (r3 : RI w A3 n3 d3) (s1 : RI w B1 n1 d1) (s2 : RI w B2 n2 d2) (s3 : RI w B3 n3 d3)
    (hm1 : n1 ≤ 1048576) (hm2 : n2 ≤ 1048576) (hm3 : n3 ≤ 1048576) :
    Calls Tryd.prog 63 #[.agg #[.int .i64 b1, .slice A1 n1 c1, .int .i64 b2, .slice A2 n2 c2, .int .i64 b3, .slice A3 n3 c3, .int .i64 cy], .agg #[.int .i64 b1, .slice B1 n1 e1, .int .i64 b2, .slice B2 n2 e2, .int .i64 b3, .slice B3 n3 e3, .int .i64 cy]] w fun e w' => e = .returned (.bool true) ∧ Below w.heap.size w w' :=
  (eqMachine_any b1 b2 b3 cy b1 b2 b3 cy A1 A2 A3 B1 B2 B3 n1 n2 n3 c1 c2 c3 n1 n2 n3 e1 e2 e3 d1 d2 d3 d1 d2 d3 w r1 r2 r3 s1 s2 s3 hm1 hm2 hm3 hm1 hm2 hm3).mono fun e w' ⟨h, hb⟩ => ⟨by rw [h]; simp, hb⟩
theorem rdMach_len (bs : List UInt8) : (rdMach bs).a.digits.length ≤ 16 ∧ (rdMach bs).b.digits.length ≤ 16 ∧ (rdMach bs).s.digits.length ≤ 16 := by
  cases h : rdM bs with
  | none => rw [(rdm_none h).1]; simp [zTri]
  | some t =>
    rw [(rdm_some h).1]
    obtain ⟨h1, h2, h3, -⟩ := vmach_parts (rdM_sound h).1
    exact ⟨(ok_bd h1).2.2, (ok_bd h2).2.2, (ok_bd h3).2.2⟩
set_option maxRecDepth 100000 in
set_option maxHeartbeats 1600000 in
theorem law_ReadMachine (s : ByteArray) (w : World) (_hs : s.size ≤ 9223372036854775807) (htb : TB w) :
    Calls Tryd.prog 8 #[.string s] w fun e w' => e = .returned (.bool true) ∧ Below w.heap.size w w' := by
  by_cases h : s.size ≤ 1048576
  · have KI := fun W hW => ReadMachine_any s W h hW
    have KS := fun W => specReadMachine_any s W h
    obtain ⟨m1, m2, m3⟩ := rdMach_len (strB s)
    have i1 : ¬ (1048576 : Int) < (s.size : Int) := by omega
    obtain ⟨t, ht⟩ : ∃ t, rdMach (strB s) = t := ⟨_, rfl⟩
    obtain ⟨ok, hok⟩ : ∃ b, (rdM (strB s)).isSome = b := ⟨_, rfl⟩
    rw [ht] at KI KS m1 m2 m3
    rw [hok] at KI KS
    clear ht hok
    obtain ⟨d1, hd1⟩ : ∃ d, t.a.digits = d := ⟨_, rfl⟩
    obtain ⟨d2, hd2⟩ : ∃ d, t.b.digits = d := ⟨_, rfl⟩
    obtain ⟨d3, hd3⟩ : ∃ d, t.s.digits = d := ⟨_, rfl⟩
    rw [hd1, hd2, hd3] at KI KS
    rw [hd1] at m1; rw [hd2] at m2; rw [hd3] at m3
    obtain ⟨n1, hn1⟩ : ∃ n, d1.length = n := ⟨_, rfl⟩
    obtain ⟨n2, hn2⟩ : ∃ n, d2.length = n := ⟨_, rfl⟩
    obtain ⟨n3, hn3⟩ : ∃ n, d3.length = n := ⟨_, rfl⟩
    unfold rowI at KI KS
    rw [hn1, hn2, hn3] at KI KS
    rw [hn1] at m1; rw [hn2] at m2; rw [hn3] at m3
    have KI := Lib.hid KI
    have KS := Lib.hid KS
    have HT := Lib.hid (fun W (hW : Below w.heap.size w W) => TB.below htb hW)
    obtain ⟨mk, hmk⟩ : ∃ mk : Int, (1 : Int) + n1 + n2 + n3 = mk := ⟨_, rfl⟩
    have hmk0 : ¬ mk < 0 := by omega
    have HMK := Lib.hid hmk
    clear hd1 hd2 hd3 hn1 hn2 hn3 htb hmk h
    go_enter Tryd.func8, Tryd.ntmps8
    go_wp2_with fail
    refine (KS.out w).mono ?_; rintro e w1 ⟨X1, x1, X2, x2, X3, x3, rfl, hK1⟩
    have hK2 := hK1.al [.int .i64 t.a.base, .slice X1 n1 x1, .int .i64 t.b.base, .slice X2 n2 x2, .int .i64 t.s.base, .slice X3 n3 x3, .int .i64 t.carry] 91
    go_wp2_with fail
    refine Calls.kn hK2 ?_; intro w2 hK3
    clear hK1 hK2
    refine (KI.out w2 (HT.out _ hK3.below)).mono ?_; rintro e w3 ⟨Y1, y1, Y2, y2, Y3, y3, rfl, hK⟩
    have hK4 := hK3.join hK
    clear hK hK3
    have hK5 := (hK4.al [.int .i64 t.a.base, .slice Y1 n1 y1, .int .i64 t.b.base, .slice Y2 n2 y2, .int .i64 t.s.base, .slice Y3 n3 y3, .int .i64 t.carry] 91).tail3
    obtain ⟨a1, a2, a3, -⟩ := hK4.cells
    go_wp2_with fail
    refine Calls.kn hK5 ?_; intro w4 hK6
    clear a1 a2 a3 hK4 hK5
    have G3 := hK6
    have G2 := G3.rot3
    have G1 := G2.rot3
    have E := hK6.drop.drop.drop.drop.drop
    refine (eqM_same t.a.base t.b.base t.s.base t.carry Y1 Y2 Y3 X1 X2 X3 n1 n2 n3 y1 y2 y3 x1 x2 x3 d1 d2 d3 w4 (Kn.riN (n := n1) G1) (Kn.riN (n := n2) G2) (Kn.riN (n := n3) G3) (Kn.riN (n := n1) E.drop.drop) (Kn.riN (n := n2) E.drop) (Kn.riN (n := n3) E) (by omega) (by omega) (by omega)).mono ?_; rintro e w5 ⟨rfl, hw⟩
    have hK7 := hK6.keep hw
    clear hw G3 G2 G1 E hK6
    obtain ⟨a1, a2, a3, b1, b2, b3, -⟩ := hK7.cells
    go_wp2_with fail
    refine (markMachine_kn w _ t.a.base t.b.base t.s.base t.carry Y1 Y2 Y3 n1 n2 n3 y1 y2 y3 d1 d2 d3 1 w5 hK7 (by decide) (by omega)).mono ?_; rintro e w6 ⟨rfl, hK8⟩
    clear a1 a2 a3 b1 b2 b3 hK7
    rw [HMK.out]
    obtain ⟨a1, a2, a3, b1, b2, b3, -⟩ := hK8.cells
    go_wp2_with fail
    have G3 := hK8
    have G2 := G3.rot3
    have G1 := G2.rot3
    refine (heldMachine_any t.a.base t.b.base t.s.base t.carry Y1 Y2 Y3 n1 n2 n3 y1 y2 y3 1 w6 (Kn.riN (n := n1) G1) (Kn.riN (n := n2) G2) (Kn.riN (n := n3) G3) (by decide) (by omega)).mono ?_; rintro e w7 ⟨rfl, hw⟩
    have hK9 := hK8.keep hw
    clear hw G3 G2 G1 hK8 a1 a2 a3 b1 b2 b3
    rw [HMK.out]
    go_wp2_with fail
    refine (KI.out w7 (HT.out _ hK9.below)).mono ?_; rintro e w8 ⟨Z1, z1, Z2, z2, Z3, z3, rfl, hK⟩
    have hK10 := hK9.join hK
    clear hK hK9
    have hK11 := (hK10.al [.int .i64 t.a.base, .slice Z1 n1 z1, .int .i64 t.b.base, .slice Z2 n2 z2, .int .i64 t.s.base, .slice Z3 n3 z3, .int .i64 t.carry] 91).tail3
    obtain ⟨a1, a2, a3, b1, b2, b3, -⟩ := hK10.cells
    go_wp2_with fail
    refine Calls.kn hK11 ?_; intro w9 hK12
    clear a1 a2 a3 b1 b2 b3 hK10 hK11
    have G3 := hK12
    have G2 := G3.rot3
    have G1 := G2.rot3
    have E := hK12.drop.drop.drop.drop.drop.drop.drop.drop.drop
    refine (eqM_same t.a.base t.b.base t.s.base t.carry Z1 Z2 Z3 X1 X2 X3 n1 n2 n3 z1 z2 z3 x1 x2 x3 d1 d2 d3 w9 (Kn.riN (n := n1) G1) (Kn.riN (n := n2) G2) (Kn.riN (n := n3) G3) (Kn.riN (n := n1) E.drop.drop) (Kn.riN (n := n2) E.drop) (Kn.riN (n := n3) E) (by omega) (by omega) (by omega)).mono ?_; rintro e w10 ⟨rfl, hw⟩
    have hK13 := hK12.keep hw
    clear hw G3 G2 G1 E hK12
    obtain ⟨a1, a2, a3, b1, b2, b3, -⟩ := hK13.cells
    go_wp2_with fail
    have F := hK13.drop.drop.drop.drop
    have G3 := F
    have G2 := G3.rot3
    have G1 := G2.rot3
    refine (heldMachine_any t.a.base t.b.base t.s.base t.carry Y1 Y2 Y3 n1 n2 n3 y1 y2 y3 1 w10 (Kn.riN (n := n1) G1) (Kn.riN (n := n2) G2) (Kn.riN (n := n3) G3) (by decide) (by omega)).mono ?_; rintro e w11 ⟨rfl, hw⟩
    have hK14 := hK13.keep hw
    clear hw G3 G2 G1 hK13 a1 a2 a3 b1 b2 b3 F
    rw [HMK.out]
    go_wp2_with fail
    go_ret
    exact ⟨rfl, hK14.below⟩
  · have i1 : (1048576 : Int) < (s.size : Int) := by omega
    go_enter Tryd.func8, Tryd.ntmps8
    go_wp2_with fail
    go_ret
    exact ⟨rfl, Below.refl _ _⟩
end Go.Proofs.YtcngeifkddhkmaaDoor
