/- Part 7: lemmas and contracts of the claim's functions. -/
import Derived.Test.YtikcifpdnbhpiaaDoorZC1
import Derived.Test.YtikcifpdnbhpiaaDoorZC2
import Derived.Test.YtikcifpdnbhpiaaDoorZC3
import Derived.Test.YtikcifpdnbhpiaaDoorZC4
import Derived.Test.YtikcifpdnbhpiaaDoorZC5
import Derived.Test.YtikcifpdnbhpiaaDoorZC6
import Derived.ProofKit
import Derived.Carry
import Derived.SliceStrings
import Derived.Test.YtikcifpdnbhpiaaDoorTie
import Derived.Test.YtikcifpdnbhpiaaDoorCards
import Derived.Deep.DeepHandedRow
import Derived.Lib.LaidTab
namespace Go.Proofs.YtikcifpdnbhpiaaDoor
open Go.RowKit Go.Sort
theorem Marks.chg {P : Nat → Prop} {w w' : World} (h : Marks P w w') : Chg P w w' := by
  induction h with
  | refl => exact ⟨rfl, rfl, rfl, Nat.le_refl _, fun _ _ _ => rfl⟩
  | step h hb j u ih =>
    refine ⟨ih.os, ih.tape, ih.output, Nat.le_trans ih.size (by simp [World.setCell]), fun k hk hn => ?_⟩
    rw [Below.heap_setCell _ _ _ _ (fun e => hn (by rw [e]; exact hb))]
    exact ih.block k hk hn
def rowN (A : Option Addr) (n c : Nat) (ds : List Int) : Ent := .row (.slice A n c) 2 1 n (ds.map (Value.int .i64))
theorem Kn.marks {w0 w w' : World} {m : List Ent} {A : Option Addr} {n c : Nat} {ds ds' : List Int} (h : Kn w0 (rowN A n c ds :: m) w) (hm : Marks (fun b => (Value.slice A n c).ownBlock = some b) w w') (ho : OwnI w' 0 (.slice A n c) ds') (hl : ds'.length = n) : Kn w0 (rowN A n c ds' :: m) w' := by
  subst hl
  exact h.upd (e' := rowN A ds'.length c ds') hm.chg ho (fun k hk => .inl hk)
theorem Kn.ownN {w0 w : World} {m : List Ent} {A : Option Addr} {n c : Nat} {ds : List Int} (h : Kn w0 (rowN A n c ds :: m) w) : OwnI w 0 (.slice A n c) ds ∧ ds.length = n := by
  have h1 : w.ownsRow 0 2 1 (.slice A n c) n (ds.map (Value.int .i64)) := h.at0
  have h2 := h1.1
  rw [List.length_map, Nat.mul_one] at h2
  subst h2
  exact ⟨h1, rfl⟩
theorem Kn.riN {w0 w : World} {m : List Ent} {A : Option Addr} {n c : Nat} {ds : List Int} (h : Kn w0 (rowN A n c ds :: m) w) : RI w A n ds := h.ownN.1.ri
theorem Kn.tail3 {w0 w : World} {m : List Ent} {a b c d : Ent} (h : Kn w0 (a :: b :: c :: d :: m) w) : Kn w0 (b :: c :: d :: a :: m) w := h.perm (List.perm_middle (a := a) (l₁ := [b, c, d]) (l₂ := m)).symm
theorem Kn.rot3 {w0 w : World} {m : List Ent} {b c d : Ent} (h : Kn w0 (b :: c :: d :: m) w) : Kn w0 (c :: d :: b :: m) w := h.perm (List.perm_middle (a := b) (l₁ := [c, d]) (l₂ := m)).symm
theorem markRegister_kn (w0 : World) (m : List Ent) (b : Int) (A : Option Addr) (n c : Nat) (ds : List Int) (k : Int) (w : World) (hK : Kn w0 (rowN A n c ds :: m) w) (h0 : 0 ≤ k) (hk : k + n ≤ 4611686018427387904) :
    Calls Tryd.prog 113 #[.agg #[.int .i64 b, .slice A n c], .int .i64 k] w fun e w' => e = .returned (.int .i64 (k + n)) ∧ Kn w0 (rowN A n c (upto k n) :: m) w' := by
  have hKa := hK.al_ (.cells #[.int .i64 b, .slice A n c] 28)
  go_enter Tryd.func113, Tryd.ntmps113
  go_wp2_with fail
  refine Calls.kn hKa ?_; intro w1 hK1
  obtain ⟨ho, hl⟩ := hK1.ownN
  refine (markInt64S_any 0 A n c ds k w1 ho hl h0 hk).mono ?_; rintro e w2 ⟨rfl, hm, ho2⟩
  have hK2 := hK1.marks hm ho2 (upto_len k n)
  clear ho hl hm ho2 hKa
  go_wp2_with fail
  go_ret
  exact ⟨rfl, hK2⟩
theorem heldRegister_any (b : Int) (A : Option Addr) (n c : Nat) (k : Int) (w : World) (hr : RI w A n (upto k n)) (h0 : 0 ≤ k) (hk : k + n ≤ 4611686018427387904) :
    Calls Tryd.prog 114 #[.agg #[.int .i64 b, .slice A n c], .int .i64 k] w fun e w' => e = .returned (.int .i64 (k + n)) ∧ Below w.heap.size w w' := by
  have hK := (Kn.nil w).al [.int .i64 b, .slice A n c] 28
  have hr' := hr.below hK.below
  have i0 : ¬ k + (n : Int) < 0 := by omega
  go_enter Tryd.func114, Tryd.ntmps114
  go_wp2_with fail
  refine (heldInt64S_any A n c k _ hr' h0 hk).mono ?_; rintro e w2 ⟨rfl, rfl⟩
  go_wp2_with fail
  go_ret
  exact ⟨rfl, hK.below⟩
set_option maxHeartbeats 800000 in
theorem markMachine_kn (w0 : World) (m : List Ent) (b1 b2 b3 cy : Int) (A1 A2 A3 : Option Addr) (n1 n2 n3 c1 c2 c3 : Nat) (d1 d2 d3 : List Int) (k : Int) (w : World) (hK : Kn w0 (rowN A3 n3 c3 d3 :: rowN A2 n2 c2 d2 :: rowN A1 n1 c1 d1 :: m) w) (h0 : 0 ≤ k) (hk : k + n1 + n2 + n3 ≤ 4611686018427387904) :
    Calls Tryd.prog 55 #[.agg #[.int .i64 b1, .slice A1 n1 c1, .int .i64 b2, .slice A2 n2 c2, .int .i64 b3, .slice A3 n3 c3, .int .i64 cy], .int .i64 k] w fun e w' => e = .returned (.int .i64 (k + n1 + n2 + n3)) ∧ Kn w0 (rowN A3 n3 c3 (upto (k + n1 + n2) n3) :: rowN A2 n2 c2 (upto (k + n1) n2) :: rowN A1 n1 c1 (upto k n1) :: m) w' := by
  have hKb := (hK.al [.int .i64 b1, .slice A1 n1 c1, .int .i64 b2, .slice A2 n2 c2, .int .i64 b3, .slice A3 n3 c3, .int .i64 cy] 58).sw3
  go_enter Tryd.func55, Tryd.ntmps55
  go_wp2_with fail
  refine (markRegister_kn w0 _ b1 A1 n1 c1 d1 k _ hKb h0 (by omega)).mono ?_; rintro e w1 ⟨rfl, hK1⟩
  obtain ⟨a1, a2, a3, -⟩ := hK1.cells
  go_wp2_with fail
  refine (markRegister_kn w0 _ b2 A2 n2 c2 d2 _ _ hK1.sw3 (by omega) (by omega)).mono ?_; rintro e w2 ⟨rfl, hK2⟩
  clear a1 a2 a3
  obtain ⟨a1, a2, a3, -⟩ := hK2.cells
  go_wp2_with fail
  refine (markRegister_kn w0 _ b3 A3 n3 c3 d3 _ _ hK2.sw3 (by omega) (by omega)).mono ?_; rintro e w3 ⟨rfl, hK3⟩
  go_wp2_with fail
  go_ret
  exact ⟨rfl, hK3.sw3.drop⟩
set_option maxHeartbeats 800000 in
theorem heldMachine_any (b1 b2 b3 cy : Int) (A1 A2 A3 : Option Addr) (n1 n2 n3 c1 c2 c3 : Nat) (k : Int) (w : World) (r1 : RI w A1 n1 (upto k n1)) (r2 : RI w A2 n2 (upto (k + n1) n2)) (r3 : RI w A3 n3 (upto (k + n1 + n2) n3)) (h0 : 0 ≤ k) (hk : k + n1 + n2 + n3 ≤ 4611686018427387904) :
    Calls Tryd.prog 56 #[.agg #[.int .i64 b1, .slice A1 n1 c1, .int .i64 b2, .slice A2 n2 c2, .int .i64 b3, .slice A3 n3 c3, .int .i64 cy], .int .i64 k] w fun e w' => e = .returned (.int .i64 (k + n1 + n2 + n3)) ∧ Below w.heap.size w w' := by
  have R1 := Lib.hid (fun W (hW : Below w.heap.size w W) => heldRegister_any b1 A1 n1 c1 k W (r1.below hW) h0 (by omega))
  have R2 := Lib.hid (fun W (hW : Below w.heap.size w W) => heldRegister_any b2 A2 n2 c2 (k + n1) W (r2.below hW) (by omega) (by omega))
  have R3 := Lib.hid (fun W (hW : Below w.heap.size w W) => heldRegister_any b3 A3 n3 c3 (k + n1 + n2) W (r3.below hW) (by omega) (by omega))
  have i1 : ¬ k + (n1 : Int) < 0 := by omega
  have i2 : ¬ k + (n1 : Int) + (n2 : Int) < 0 := by omega
  have i3 : ¬ k + (n1 : Int) + (n2 : Int) + (n3 : Int) < 0 := by omega
  have hKb := (Kn.nil w).al [.int .i64 b1, .slice A1 n1 c1, .int .i64 b2, .slice A2 n2 c2, .int .i64 b3, .slice A3 n3 c3, .int .i64 cy] 58
  clear r1 r2 r3
  go_enter Tryd.func56, Tryd.ntmps56
  go_wp2_with fail
  refine (R1.out _ hKb.below).mono ?_; rintro e w1 ⟨rfl, hw⟩
  have hK1 := hKb.keep hw
  clear hw hKb
  obtain ⟨a1, a2, a3, -⟩ := hK1.cells
  go_wp2_with fail
  refine (R2.out _ hK1.below).mono ?_; rintro e w2 ⟨rfl, hw⟩
  have hK2 := hK1.keep hw
  clear hw hK1 a1 a2 a3
  obtain ⟨a1, a2, a3, -⟩ := hK2.cells
  go_wp2_with fail
  refine (R3.out _ hK2.below).mono ?_; rintro e w3 ⟨rfl, hw⟩
  have hK3 := hK2.keep hw
  clear hw hK2 a1 a2 a3
  go_wp2_with fail
  go_ret
  exact ⟨rfl, hK3.below⟩
theorem eqM_same (b1 b2 b3 cy : Int) (A1 A2 A3 B1 B2 B3 : Option Addr) (n1 n2 n3 c1 c2 c3 e1 e2 e3 : Nat) (d1 d2 d3 : List Int) (w : World)
    (r1 : RI w A1 n1 d1) (r2 : RI w A2 n2 d2) (r3 : RI w A3 n3 d3) (s1 : RI w B1 n1 d1) (s2 : RI w B2 n2 d2) (s3 : RI w B3 n3 d3)
    (hm1 : n1 ≤ 1048576) (hm2 : n2 ≤ 1048576) (hm3 : n3 ≤ 1048576) :
    Calls Tryd.prog 54 #[.agg #[.int .i64 b1, .slice A1 n1 c1, .int .i64 b2, .slice A2 n2 c2, .int .i64 b3, .slice A3 n3 c3, .int .i64 cy], .agg #[.int .i64 b1, .slice B1 n1 e1, .int .i64 b2, .slice B2 n2 e2, .int .i64 b3, .slice B3 n3 e3, .int .i64 cy]] w fun e w' => e = .returned (.bool true) ∧ Below w.heap.size w w' :=
  (eqMachine_any b1 b2 b3 cy b1 b2 b3 cy A1 A2 A3 B1 B2 B3 n1 n2 n3 c1 c2 c3 n1 n2 n3 e1 e2 e3 d1 d2 d3 d1 d2 d3 w r1 r2 r3 s1 s2 s3 hm1 hm2 hm3 hm1 hm2 hm3).mono fun e w' ⟨h, hb⟩ => ⟨by rw [h]; simp, hb⟩
theorem Kn.addN {w0 w w' : World} {m : List Ent} {A : Option Addr} {n c : Nat} {ds : List Int} (h : Kn w0 m w) (hb : Below w.heap.size w w') (ho : OwnI w' w.heap.size (.slice A n c) ds) (hl : ds.length = n) : Kn w0 (rowN A n c ds :: m) w' := by
  subst hl
  exact h.addI hb ho
theorem toInt64S_kn (A : Option Addr) (n c : Nat) (ds : List Int) (w : World) (hr : RI w A n ds) (hm : n ≤ 1048576) :
    Calls Tryd.prog 157 #[.slice A n c] w fun e w' => ∃ X x, e = .returned (.slice X n x) ∧ Kn w [rowN X n x ds] w' :=
  (toInt64S_any A n c ds w hr hm).mono fun _ _ ⟨X, x, h1, ho, hb⟩ => ⟨X, x, h1, (Kn.nil w).addN hb ho hr.1⟩
theorem lf_small {left n : Int} (h : ¬ lft left n < 0) (hl : left ≤ 1048576) : n ≤ 1048576 := by unfold lft at h; split at h <;> omega
theorem lf3_small {n1 n2 n3 : Int} (p1 : 0 ≤ n1) (p2 : 0 ≤ n2) (_p3 : 0 ≤ n3) (h : ¬ lft3 1048576 n1 n2 n3 < 0) : n1 ≤ 1048576 ∧ n2 ≤ 1048576 ∧ n3 ≤ 1048576 := by
  unfold lft3 at h
  split at h
  · omega
  · rename_i k1
    split at h
    · omega
    · rename_i k2
      have h1 := lf_small k1 (Int.le_refl _)
      have b1 := lft_bd 1048576 n1 (by omega) p1
      have h2 := lf_small k2 b1.2
      have b2 := lft_bd _ n2 b1.1 p2
      have h3 := lf_small h (by omega)
      exact ⟨h1, h2, h3⟩
theorem lf3_lo (n1 n2 n3 : Int) (p1 : 0 ≤ n1) (p2 : 0 ≤ n2) (p3 : 0 ≤ n3) : lft3 1048576 n1 n2 n3 ≤ 1048576 ∧ -1 ≤ lft3 1048576 n1 n2 n3 := by
  unfold lft3
  have b1 := lft_bd 1048576 n1 (by omega) p1
  have b2 := lft_bd _ n2 b1.1 p2
  have b3 := lft_bd _ n3 b2.1 p3
  split
  · omega
  · split <;> omega
theorem eqI_same (A B : Option Addr) (n c d : Nat) (ds : List Int) (w : World) (hr : RI w A n ds) (hs : RI w B n ds) (hm : n ≤ 1048576) :
    Calls Tryd.prog 37 #[.slice A n c, .slice B n d] w fun e w' => e = .returned (.bool true) ∧ Below w.heap.size w w' :=
  (eqInt64S_any A B n c n d ds ds w hr hs (by omega) (by omega)).mono fun e w' ⟨h, q, hq⟩ => ⟨by rw [h]; simp, by rw [hq]; exact drewN_below q⟩
theorem markI_kn (w0 : World) (m : List Ent) (A : Option Addr) (n c : Nat) (ds : List Int) (k : Int) (w : World) (hK : Kn w0 (rowN A n c ds :: m) w) (h0 : 0 ≤ k) (hk : k + n ≤ 4611686018427387904) :
    Calls Tryd.prog 39 #[.slice A n c, .int .i64 k] w fun e w' => e = .returned (.int .i64 (k + n)) ∧ Kn w0 (rowN A n c (upto k n) :: m) w' := by
  obtain ⟨ho, hl⟩ := hK.ownN
  exact (markInt64S_any 0 A n c ds k w ho hl h0 hk).mono fun e w' ⟨h, hm, ho2⟩ => ⟨h, hK.marks hm ho2 (upto_len k n)⟩
set_option maxRecDepth 100000 in
set_option maxHeartbeats 1600000 in
theorem toMachine_kn (b1 b2 b3 cy : Int) (A1 A2 A3 : Option Addr) (n1 n2 n3 c1 c2 c3 : Nat) (d1 d2 d3 : List Int) (w : World) (r1 : RI w A1 n1 d1) (r2 : RI w A2 n2 d2) (r3 : RI w A3 n3 d3) (hm1 : n1 ≤ 1048576) (hm2 : n2 ≤ 1048576) (hm3 : n3 ≤ 1048576) :
    Calls Tryd.prog 52 #[.agg #[.int .i64 b1, .slice A1 n1 c1, .int .i64 b2, .slice A2 n2 c2, .int .i64 b3, .slice A3 n3 c3, .int .i64 cy]] w fun e w' => ∃ X1 x1 X2 x2 X3 x3, e = .returned (.agg #[.int .i64 b1, .slice X1 n1 x1, .int .i64 b2, .slice X2 n2 x2, .int .i64 b3, .slice X3 n3 x3, .int .i64 cy]) ∧
      Kn w [rowN X3 n3 x3 d3, rowN X2 n2 x2 d2, rowN X1 n1 x1 d1] w' := by
  have K1 := Lib.hid (fun W (hW : Below w.heap.size w W) => toRegister_any b1 A1 n1 c1 d1 W (r1.below hW) hm1)
  have K2 := Lib.hid (fun W (hW : Below w.heap.size w W) => toRegister_any b2 A2 n2 c2 d2 W (r2.below hW) hm2)
  have K3 := Lib.hid (fun W (hW : Below w.heap.size w W) => toRegister_any b3 A3 n3 c3 d3 W (r3.below hW) hm3)
  have L1 := Lib.hid r1.1
  have L2 := Lib.hid r2.1
  have L3 := Lib.hid r3.1
  clear r1 r2 r3
  go_enter Tryd.func52, Tryd.ntmps52
  go_wp2_with fail
  refine Calls.kn ((((Kn.nil w).al [.int .i64 b1, .slice A1 n1 c1, .int .i64 b2, .slice A2 n2 c2, .int .i64 b3, .slice A3 n3 c3, .int .i64 cy] 55).al [.int .i64 0, .slice none 0 0, .int .i64 0, .slice none 0 0, .int .i64 0, .slice none 0 0, .int .i64 0] 58).al [.int .i64 0, .slice none 0 0, .int .i64 0, .slice none 0 0, .int .i64 0, .slice none 0 0, .int .i64 0] 58) ?_; intro w1 hK1
  simp only [World.size_alloc] at hK1
  (with_reducible refine (K1.out _ hK1.below).mono ?_); rintro e w2 ⟨X1, x1, rfl, ho, hb⟩
  have hK2 := hK1.addN hb ho L1.out
  clear hK1 ho hb
  obtain ⟨a1, a2, a3, d1', d2', d3', e1, e2, e3, -⟩ := hK2.cells
  go_wp2_with fail
  refine Calls.kn ((hK2.sw1.st 0 (.int .i64 b1)).st 1 (.slice X1 n1 x1)) ?_; intro w3 hK3
  clear hK2 a1 a2 a3 d1' d2' d3' e1 e2 e3
  (with_reducible refine (K2.out _ hK3.below).mono ?_); rintro e w4 ⟨X2, x2, rfl, ho, hb⟩
  have hK4 := hK3.addN hb ho L2.out
  clear hK3 ho hb
  obtain ⟨a1, a2, a3, d1', d2', d3', e1, e2, e3, -⟩ := hK4.cells
  go_wp2_with fail
  refine Calls.kn ((hK4.sw1.st 2 (.int .i64 b2)).st 3 (.slice X2 n2 x2)) ?_; intro w5 hK5
  clear hK4 a1 a2 a3 d1' d2' d3' e1 e2 e3
  (with_reducible refine (K3.out _ hK5.below).mono ?_); rintro e w6 ⟨X3, x3, rfl, ho, hb⟩
  have hK6 := hK5.addN hb ho L3.out
  clear hK5 ho hb
  obtain ⟨a1, a2, a3, d1', d2', d3', e1, e2, e3, -⟩ := hK6.cells
  have ne1 := hK6.ne 1 5 rfl rfl (by decide)
  have ne2 := ne1.symm
  have ne3 := hK6.ne 1 4 rfl rfl (by decide)
  have ne4 := ne3.symm
  go_wp2_with fail
  refine bodyPost.kn ((((((((((hK6.sw1.st 4 (.int .i64 b3)).st 5 (.slice X3 n3 x3)).st 6 (.int .i64 cy)).front 4 rfl).st 0 (.int .i64 b1)).st 1 (.slice X1 n1 x1)).st 2 (.int .i64 b2)).st 3 (.slice X2 n2 x2)).st 4 (.int .i64 b3)).st 5 (.slice X3 n3 x3) |>.st 6 (.int .i64 cy)) ?_; intro w7 hK7
  clear a1 a2 a3 d1' d2' d3' e1 e2 e3
  obtain ⟨a1, a2, a3, -⟩ := hK7.cells
  refine bodyPost_ret (v := .agg #[.int .i64 b1, .slice X1 n1 x1, .int .i64 b2, .slice X2 n2 x2, .int .i64 b3, .slice X3 n3 x3, .int .i64 cy]) (by simp [results, Tryd.results52, go_sem, a1]) rfl ⟨X1, x1, X2, x2, X3, x3, rfl, ?_⟩
  exact hK7.sel [2, 3, 4] 99 (by decide) (by decide)
end Go.Proofs.YtikcifpdnbhpiaaDoor

namespace Go.Proofs.YtikcifpdnbhpiaaDoor
open Go.RowKit Go.Sort
theorem cellsIns_ext {xs : List Ins} {cs : List Value} (hl : cs.length = xs.length * 2) (h : ∀ (i : Nat) (h : i < xs.length), cs[i * 2]? = some (.int .i64 xs[i].op) ∧ cs[i * 2 + 1]? = some (.int .i64 xs[i].arg)) : cs = cellsIns xs := by
  apply List.ext_getElem?
  intro j
  by_cases hj : j < xs.length * 2
  · obtain ⟨h1, h2⟩ := h (j / 2) (by omega)
    obtain ⟨h3, h4⟩ := cellsIns_get xs (j / 2) (by omega)
    rcases Nat.mod_two_eq_zero_or_one j with he | he
    · have e : j / 2 * 2 = j := by omega
      rw [e] at h1 h3; rw [h1, h3]
    · have e : j / 2 * 2 + 1 = j := by omega
      rw [e] at h2 h4; rw [h2, h4]
  · rw [List.getElem?_eq_none (by omega), List.getElem?_eq_none (by rw [cellsIns_len]; omega)]
/-- the first j cells are marked -/
def markedV (k : Int) (cs : List Value) (j : Nat) : List Value := (upto k j).map (Value.int .i64) ++ cs.drop j
theorem markedV_set (k : Int) (cs : List Value) {j : Nat} (h : j < cs.length) : (markedV k cs j).set j (.int .i64 (k + j)) = markedV k cs (j + 1) := by
  unfold markedV
  rw [List.set_append_right _ _ (by rw [List.length_map, upto_len]; exact Nat.le_refl _), List.length_map, upto_len, Nat.sub_self, List.drop_eq_getElem_cons h, List.set_cons_zero]
  simp [upto, List.range_succ]
theorem markedV_len (k : Int) (cs : List Value) {j : Nat} (h : j ≤ cs.length) : (markedV k cs j).length = cs.length := by simp [markedV, upto_len]; omega
end Go.Proofs.YtikcifpdnbhpiaaDoor

namespace Go.Proofs.YtikcifpdnbhpiaaDoor
open Go.RowKit Go.ChangeShapes Go.WideShapes Go.ChangeAt
section
variable {H : Type} {enc : TypeId × Value → H} {w : World} {base : Nat} {spare : Nat → Bool} {held : Bool} {fuel : Nat} {cs : List Value} {x : DataW H × List MemPlace}
theorem cellsI64 : Tryd.prog.cellsOf 2 = 1 := by kernel_rfl
theorem cellsInts : Tryd.prog.cellsOf 26 = 1 := by kernel_rfl
theorem rd_i64 (h : DataW.trod enc Tryd.prog w base spare held fuel 2 cs = some x) : ∃ n, cs = [.int .i64 n] ∧ -9223372036854775808 ≤ n ∧ n ≤ 9223372036854775807 := by
  obtain ⟨n, rfl, _, hw⟩ := DataW.trod_int Tryd.underlying2 h
  refine ⟨n, rfl, ?_⟩
  have h1 : IntKind.i64.min = -9223372036854775808 := by decide
  have h2 : IntKind.i64.max = 9223372036854775807 := by decide
  simp [Lit.wf] at hw
  omega
theorem rd_ints (h : DataW.trod enc Tryd.prog w base spare held fuel 26 cs = some x) : ∃ A n c ds, cs = [.slice A n c] ∧ RI w A n ds ∧ n ≤ 9223372036854775807 := by
  rcases open_ints Tryd.underlying26 Tryd.underlying2 cellsI64 h with ⟨rfl, _⟩ | ⟨a, len, cap, zs, rfl, _, hl, hm, hz, _, hcell, _⟩
  · exact ⟨none, 0, 0, [], rfl, ⟨rfl, fun h => absurd h (by omega)⟩, by omega⟩
  · have hlen : len ≤ zs.length := by rw [hz]; split <;> omega
    refine ⟨some a, len, cap, zs.take len, rfl, ⟨by simp; omega, fun h0 => ⟨a, rfl, ?_, fun j u hu => ?_⟩⟩, by simp only [maxLen] at hm; omega⟩
    · have := World.block_lt_of_cell? w _ (hcell 0 (by omega)); rwa [block_of_add] at this
    · rw [List.getElem?_take] at hu
      split at hu
      · rw [hcell j (by omega)]; simp [List.getD, hu]
      · cases hu
theorem cellsLR : Tryd.prog.cellsOf 53 = 2 := by kernel_rfl
set_option maxRecDepth 100000 in
theorem rd_lreg (h : DataW.trod enc Tryd.prog w base spare held fuel 53 cs = some x) : ∃ b A n c ds, cs = [.int .i64 b, .slice A n c] ∧ RI w A n ds ∧ n ≤ 9223372036854775807 ∧ -9223372036854775808 ≤ b ∧ b ≤ 9223372036854775807 := by
  obtain ⟨xs, m, _, _, hl, hxl, hf⟩ := DataW.trod_struct Tryd.underlying53 h
  rw [cellsLR] at hl
  match cs, hl with
  | [c0, c1], _ =>
    obtain ⟨y0, hy0⟩ : ∃ y, xs[0]? = some y := ⟨_, List.getElem?_eq_getElem (by rw [hxl]; decide)⟩
    obtain ⟨y1, hy1⟩ : ∃ y, xs[1]? = some y := ⟨_, List.getElem?_eq_getElem (by rw [hxl]; decide)⟩
    have h0 : DataW.trod enc Tryd.prog w base spare held m 2 (([c0, c1].drop 0).take (Tryd.prog.cellsOf 2)) = xs[0]? := hf 0 _ rfl
    have h1 : DataW.trod enc Tryd.prog w base spare held m 26 (([c0, c1].drop 1).take (Tryd.prog.cellsOf 26)) = xs[1]? := hf 1 _ rfl
    simp only [cellsI64, cellsInts, List.drop_zero, List.drop_succ_cons, List.take_succ_cons, List.take_zero] at h0 h1
    rw [hy0] at h0
    rw [hy1] at h1
    obtain ⟨b, e0, hb1, hb2⟩ := rd_i64 h0
    obtain ⟨A, n, c, ds, e1, hr, hn⟩ := rd_ints h1
    injection e0 with e0
    injection e1 with e1
    exact ⟨b, A, n, c, ds, by rw [e0, e1], hr, hn, hb1, hb2⟩
end
end Go.Proofs.YtikcifpdnbhpiaaDoor

namespace Go.Proofs.YtikcifpdnbhpiaaDoor
open Go.RowKit Go.ChangeShapes Go.WideShapes Go.ChangeAt
section
variable {H : Type} {enc : TypeId × Value → H} {w : World} {base : Nat} {spare : Nat → Bool} {held : Bool} {fuel : Nat} {cs : List Value} {x : DataW H × List MemPlace}
theorem cellsStr : Tryd.prog.cellsOf 9 = 1 := by kernel_rfl
theorem rd_strings (h : DataW.trod enc Tryd.prog w base spare held fuel 41 cs = some x) : ∃ A n c ss, cs = [.slice A n c] ∧ RL StrM 1 w A n ss ∧ n ≤ 9223372036854775807 ∧ ∀ s ∈ ss, s.size ≤ 9223372036854775807 := by
  rcases open_strings Tryd.underlying41 Tryd.underlying9 cellsStr h with ⟨rfl, _⟩ | ⟨a, len, cap, ss, rfl, _, hl, hm, hz, _, hcell, hsz⟩
  · exact ⟨none, 0, 0, [], rfl, ⟨rfl, fun h => absurd h (by omega)⟩, by omega, fun s hs => by cases hs⟩
  · have hlen : len ≤ ss.length := by rw [hz]; split <;> omega
    refine ⟨some a, len, cap, ss.take len, rfl, ⟨by simp; omega, fun h0 => ⟨a, rfl, ?_, fun k hk => ?_⟩⟩, by simp only [maxLen] at hm; omega, fun s hs => ?_⟩
    · have := World.block_lt_of_cell? w _ (hcell 0 (by omega)); rwa [block_of_add] at this
    · have hk' : k < len := by simp at hk; omega
      have h1 := hcell k (by omega)
      unfold StrM
      rw [Nat.mul_one, h1, List.getD_eq_getElem?_getD, List.getElem?_eq_getElem (by omega), List.getElem_take]; rfl
    · have := hsz s (List.mem_of_mem_take hs)
      simp only [maxLen] at this; omega
end
end Go.Proofs.YtikcifpdnbhpiaaDoor

namespace Go.Proofs.YtikcifpdnbhpiaaDoor
open Go.RowKit Go.ChangeShapes Go.WideShapes Go.ChangeAt
theorem laid_tail {P : Program} {W : World} {x : String × DataW Unit} {rest : List (String × DataW Unit)} (h : laidMet P (x :: rest) W) : laidMet P rest W := by
  obtain ⟨ps, ⟨g, t, cs, fuel, p, q, h1, h2, h3, h4, h5, rfl⟩, hn, hr⟩ := h
  exact ⟨q, h5, (List.nodup_append.1 hn).2.1, fun b off hb => hr b off (List.mem_append_right _ hb)⟩
theorem cellsU64 : Tryd.prog.cellsOf 142 = 1 := by kernel_rfl
theorem cellsTab : Tryd.prog.cellsOf 192 = 20 := by kernel_rfl
theorem gTab : Tryd.prog.globalNamed "internal/strconv.uint64pow10" = some 0 := by kernel_rfl
theorem gTabType : (Tryd.prog.globals[0]?).map (·.type) = some 192 := by kernel_rfl
theorem tb_of_laid {W : World} (h : laidMetH Tryd.prog [("math/bits.deBruijn32tab", Rows.laid_math_bits_deBruijn32tab), ("math/bits.deBruijn64tab", Rows.laid_math_bits_deBruijn64tab), ("internal/strconv.uint64pow10", Rows.laid_internal_strconv_uint64pow10)] W) : TB W := by
  have h1 : laidMet Tryd.prog [("math/bits.deBruijn32tab", Rows.laid_math_bits_deBruijn32tab), ("math/bits.deBruijn64tab", Rows.laid_math_bits_deBruijn64tab), ("internal/strconv.uint64pow10", Rows.laid_internal_strconv_uint64pow10)] W := h
  exact Lib.tabIs_of_head (rest := []) gTab gTabType Tryd.underlying192 Tryd.underlying142 cellsU64 cellsTab (laid_tail (laid_tail h1))
def tabCells (l : DataW Unit) (k : IntKind) : Array Value := match l with
  | .agg ds => (ds.map fun d => match d with | .lit (.int _ n) => Value.int k n | _ => .int k 0).toArray
  | _ => #[]
def setTab (cs : Array Value) (o : Obj) : Obj := match o with
  | .cells _ t frozen => .cells cs t frozen
  | o => o
noncomputable def laidWorld (os : Os) : World :=
  { World.holding Tryd.prog os ⟨#[], #[], []⟩ with heap := (((World.holding Tryd.prog os ⟨#[], #[], []⟩).heap.modify 0 (setTab (tabCells Rows.laid_internal_strconv_uint64pow10 .u64))).modify 1 (setTab (tabCells Rows.laid_math_bits_deBruijn32tab .u8))).modify 2 (setTab (tabCells Rows.laid_math_bits_deBruijn64tab .u8)) }
theorem laid_met (os : Os) (args : Array Value) : laidMet Tryd.prog [("math/bits.deBruijn32tab", Rows.laid_math_bits_deBruijn32tab), ("math/bits.deBruijn64tab", Rows.laid_math_bits_deBruijn64tab), ("internal/strconv.uint64pow10", Rows.laid_internal_strconv_uint64pow10)] ((laidWorld os).forCall (fun _ _ => 0) ⟨#[], args, []⟩).memory :=
  laidMet_of_run' 8 (by kernel_rfl) (by kernel_rfl)
theorem own : ownKnob Tryd.prog.godebug = none := by kernel_rfl
theorem laidOut : laidOutB Tryd.prog = true := by kernel_rfl
end Go.Proofs.YtikcifpdnbhpiaaDoor
