/- Part 3: lemmas and contracts of the claim's functions. -/
import Derived.Test.YtgljafiegpjlkaaGreatDoorZC1
import Derived.Test.YtgljafiegpjlkaaGreatDoorZC2
import Derived.Deep.RegionHeld3
import Derived.ProofKit
import Derived.Carry
namespace Go.Proofs.YtgljafiegpjlkaaGreatDoor
open Go.RowKit Go.Sort
theorem power_B (b : Int) (n : Nat) (w : World) (hb1 : 2 ≤ b) (hb2 : b ≤ 16) (hn : n ≤ 9223372036854775807) :
    Calls Tryz.prog 283 #[.int .i64 b, .int .i64 n] w fun e w' => e = .returned (.int .i64 (powC b n)) ∧ Below w.heap.size w w' :=
  (power_any b n w hb1 hb2 hn).mono fun _ _ ⟨h, e⟩ => ⟨h, e ▸ Below.refl _ _⟩
theorem between_B (a b c : Int) (w : World) : Calls Tryz.prog 130 #[.int .i64 a, .int .i64 b, .int .i64 c] w fun e w' => e = .returned (.bool (betB a b c)) ∧ Below w.heap.size w w' :=
  (between_any a b c w).mono fun _ _ ⟨h, e⟩ => ⟨h, e ▸ Below.refl _ _⟩
theorem values_any (b : Int) (A : Option Addr) (n c : Nat) (w : World) (hb1 : 2 ≤ b) (hb2 : b ≤ 16) (hn : n ≤ 9223372036854775807) :
    Calls Tryz.prog 208 #[.agg #[.int .i64 b, .slice A n c]] w fun e w' => e = .returned (.int .i64 (powC b n)) ∧ Below w.heap.size w w' := by
  go_enter Tryz.func208, Tryz.ntmps208
  go_wp2_with fail
  obtain ⟨WW, hWW⟩ : ∃ W, W = w.alloc (.cells #[.int .i64 b, .slice A n c] 59) := ⟨_, rfl⟩
  rw [← hWW]
  have hWb : Below w.heap.size w WW := by rw [hWW]; exact (Below.refl _ _).alloc (Nat.le_refl _) _
  have x1 := cell_regrown (show WW.cell? ⟨w.heap.size, 0, none⟩ = some (.int .i64 b) by rw [hWW]; go_simp)
  have x2 := cell_regrown (show WW.cell? ⟨w.heap.size, 1, none⟩ = some (.slice A n c) by rw [hWW]; go_simp)
  clear hWW
  refine wp_region_quiet_below (by kernel_rfl) (by kernel_rfl) ?_
  repeat (go_big_quiet_step (first | (go_at_call 155; exact quietB (fun W _ => width_any _ _ _ _ W)) | (go_at_call 283; exact quietB (fun W _ => power_B _ _ W hb1 hb2 hn))))
  refine wpQuiet_nil ?_
  intro W1 hw'
  have hB1 : Below WW.heap.size WW W1 := by
    obtain ⟨⟨dq, osq⟩, hw''⟩ := hw'
    rw [hw'']; exact below_regrown _ _ _
  clear hw'
  go_wp2
  go_ret
  exact ⟨rfl, hWb.trans (hB1.mono hWb.size)⟩
def vplaces (t : Tri) : Int := min ((t.b.digits.length : Int) - t.a.digits.length + 1) t.s.digits.length
def fullB (r : Reg) : Bool := decide (pw r.base r.digits.length ≤ 1000000000001)
def vmach (t : Tri) : Bool := (t.a.ok && t.b.ok && t.s.ok) && ((t.a.base == t.b.base) && (t.s.base == t.b.base) && fullB t.b && fullB t.s) && (decide (t.a.digits.length ≤ t.b.digits.length) && betB t.carry 0 (vplaces t - 1))
def TriC (w : World) (p : Addr) (t : Tri) (A1 : Option Addr) (c1 : Nat) (A2 : Option Addr) (c2 : Nat) (A3 : Option Addr) (c3 : Nat) : Prop :=
  (w.cell? ⟨p.block, p.off, none⟩ = some (.int .i64 t.a.base) ∧ w.cell? ⟨p.block, p.off + 1, none⟩ = some (.slice A1 t.a.digits.length c1) ∧ w.cell? ⟨p.block, p.off + 2, none⟩ = some (.int .i64 t.b.base) ∧ w.cell? ⟨p.block, p.off + 3, none⟩ = some (.slice A2 t.b.digits.length c2) ∧
    w.cell? ⟨p.block, p.off + 4, none⟩ = some (.int .i64 t.s.base) ∧ w.cell? ⟨p.block, p.off + 5, none⟩ = some (.slice A3 t.s.digits.length c3) ∧ w.cell? ⟨p.block, p.off + 6, none⟩ = some (.int .i64 t.carry)) ∧
    RI w A1 t.a.digits.length t.a.digits ∧ RI w A2 t.b.digits.length t.b.digits ∧ RI w A3 t.s.digits.length t.s.digits
theorem TriC.below {w w' : World} {p : Addr} {t : Tri} {A1 A2 A3 : Option Addr} {c1 c2 c3 : Nat} (h : TriC w p t A1 c1 A2 c2 A3 c3) (hp : p.block < w.heap.size) (hb : Below w.heap.size w w') : TriC w' p t A1 c1 A2 c2 A3 c3 := by
  obtain ⟨⟨h1, h2, h3, h4, h5, h6, h7⟩, r1, r2, r3⟩ := h
  exact ⟨⟨by rw [hb.cell (by exact hp)]; exact h1, by rw [hb.cell (by exact hp)]; exact h2, by rw [hb.cell (by exact hp)]; exact h3, by rw [hb.cell (by exact hp)]; exact h4, by rw [hb.cell (by exact hp)]; exact h5, by rw [hb.cell (by exact hp)]; exact h6, by rw [hb.cell (by exact hp)]; exact h7⟩, r1.below hb, r2.below hb, r3.below hb⟩
theorem TriC.of_block {w : World} {g : Nat} {T : TypeId} {t : Tri} {A1 A2 A3 : Option Addr} {c1 c2 c3 : Nat}
    (hg : w.heap[g]? = some (.cells #[.int .i64 t.a.base, .slice A1 t.a.digits.length c1, .int .i64 t.b.base, .slice A2 t.b.digits.length c2, .int .i64 t.s.base, .slice A3 t.s.digits.length c3, .int .i64 t.carry] T (0, 0)))
    (r1 : RI w A1 t.a.digits.length t.a.digits) (r2 : RI w A2 t.b.digits.length t.b.digits) (r3 : RI w A3 t.s.digits.length t.s.digits) : TriC w ⟨g, 0, none⟩ t A1 c1 A2 c2 A3 c3 := by
  have hc : ∀ i v, #[Value.int .i64 t.a.base, .slice A1 t.a.digits.length c1, .int .i64 t.b.base, .slice A2 t.b.digits.length c2, .int .i64 t.s.base, .slice A3 t.s.digits.length c3, .int .i64 t.carry][i]? = some v → w.cell? ⟨g, i, none⟩ = some v := fun i v hv => by rw [cell_of_row w g i _ T (0, 0) hg]; exact hv
  exact ⟨⟨hc 0 _ rfl, hc 1 _ rfl, hc 2 _ rfl, hc 3 _ rfl, hc 4 _ rfl, hc 5 _ rfl, hc 6 _ rfl⟩, r1, r2, r3⟩
theorem TriC.tri {w : World} {b o : Nat} {t : Tri} {A1 A2 A3 : Option Addr} {c1 c2 c3 : Nat} (h : TriC w ⟨b, o, none⟩ t A1 c1 A2 c2 A3 c3) : TriM w ⟨b, o, none⟩ t := by
  obtain ⟨⟨h1, h2, h3, h4, h5, h6, h7⟩, r1, r2, r3⟩ := h
  exact ⟨⟨A1, c1, ⟨h1, h2⟩, r1⟩, ⟨A2, c2, ⟨h3, h4⟩, r2⟩, ⟨A3, c3, ⟨h5, h6⟩, r3⟩, h7⟩
theorem places_any (t : Tri) (A1 A2 A3 : Option Addr) (c1 c2 c3 : Nat) (w : World) (r1 : RI w A1 t.a.digits.length t.a.digits) (r2 : RI w A2 t.b.digits.length t.b.digits) (r3 : RI w A3 t.s.digits.length t.s.digits) (h1 : t.a.digits.length ≤ 16) (h2 : t.b.digits.length ≤ 16) (_h3 : t.s.digits.length ≤ 16) :
    Calls Tryz.prog 209 #[.agg #[.int .i64 t.a.base, .slice A1 t.a.digits.length c1, .int .i64 t.b.base, .slice A2 t.b.digits.length c2, .int .i64 t.s.base, .slice A3 t.s.digits.length c3, .int .i64 t.carry]] w fun e w' => e = .returned (.int .i64 (vplaces t)) ∧ Below w.heap.size w w' := by
  go_enter Tryz.func209, Tryz.ntmps209
  go_wp2_with fail
  obtain ⟨WW, hWW⟩ : ∃ W, W = w.alloc (.cells #[.int .i64 t.a.base, .slice A1 t.a.digits.length c1, .int .i64 t.b.base, .slice A2 t.b.digits.length c2, .int .i64 t.s.base, .slice A3 t.s.digits.length c3, .int .i64 t.carry] 61) := ⟨_, rfl⟩
  have hbw : Below w.heap.size w WW := by rw [hWW]; exact (Below.refl _ _).alloc (Nat.le_refl _) _
  have hT : TriC WW ⟨w.heap.size, 0, none⟩ t A1 c1 A2 c2 A3 c3 := by rw [hWW]; exact TriC.of_block (g := w.heap.size) (heap_alloc_new _ _) (r1.below (hWW ▸ hbw)) (r2.below (hWW ▸ hbw)) (r3.below (hWW ▸ hbw))
  have hlt : w.heap.size < WW.heap.size := by rw [hWW]; simp
  clear r1 r2 r3
  rw [← hWW]
  clear hWW
  obtain ⟨⟨g1, g2, g3, g4, g5, g6, g7⟩, r1, r2, r3⟩ := (show _ ∧ _ from hT)
  simp only [Nat.zero_add] at g1 g2 g3 g4 g5 g6 g7
  have x1 := cell_regrown g1
  have x2 := cell_regrown g2
  have x3 := cell_regrown g3
  have x4 := cell_regrown g4
  have x5 := cell_regrown g5
  have x6 := cell_regrown g6
  have x7 := cell_regrown g7
  refine wp_region_quiet_below (by kernel_rfl) (by kernel_rfl) ?_
  repeat (go_big_quiet_step ((go_at_call 155; exact quietB (fun W _ => width_any _ _ _ _ W))))
  all_goals
    refine wpQuiet_nil ?_
    intro W1 hw'
    have hB1 : Below WW.heap.size WW W1 := by
      obtain ⟨⟨dq, osq⟩, hw''⟩ := hw'
      rw [hw'']; exact below_regrown _ _ _
    clear hw'
    go_wp2
    all_goals
      go_ret
      exact ⟨ret_int (by unfold vplaces; omega), hbw.trans (hB1.mono hbw.size)⟩
theorem ok_bd {r : Reg} (h : r.ok = true) : 2 ≤ r.base ∧ r.base ≤ 16 ∧ r.digits.length ≤ 16 := by
  obtain ⟨⟨h1, h2⟩, ⟨-, h4⟩, -⟩ := vreg_iff.1 h
  exact ⟨h1, h2, by omega⟩
set_option maxRecDepth 100000 in
set_option maxHeartbeats 1600000 in
theorem ValidMachine_any (t : Tri) (A1 A2 A3 : Option Addr) (c1 c2 c3 : Nat) (w : World) (r1 : RI w A1 t.a.digits.length t.a.digits) (r2 : RI w A2 t.b.digits.length t.b.digits) (r3 : RI w A3 t.s.digits.length t.s.digits) (hs : SmallTri t) :
    Calls Tryz.prog 153 #[.agg #[.int .i64 t.a.base, .slice A1 t.a.digits.length c1, .int .i64 t.b.base, .slice A2 t.b.digits.length c2, .int .i64 t.s.base, .slice A3 t.s.digits.length c3, .int .i64 t.carry]] w fun e w' => e = .returned (.bool (vmach t)) ∧ Below w.heap.size w w' := by
  have HV := Lib.hid (show vmach t = (((t.a.ok && t.b.ok && t.s.ok) && ((t.a.base == t.b.base) && (t.s.base == t.b.base) && fullB t.b && fullB t.s)) && (decide (t.a.digits.length ≤ t.b.digits.length) && betB t.carry 0 (vplaces t - 1))) from rfl)
  obtain ⟨s1, s2, s3⟩ := hs
  go_enter Tryz.func153, Tryz.ntmps153
  go_wp2_with fail
  obtain ⟨WW, hWW⟩ : ∃ W, W = w.alloc (.cells #[.int .i64 t.a.base, .slice A1 t.a.digits.length c1, .int .i64 t.b.base, .slice A2 t.b.digits.length c2, .int .i64 t.s.base, .slice A3 t.s.digits.length c3, .int .i64 t.carry] 61) := ⟨_, rfl⟩
  have hbw : Below w.heap.size w WW := by rw [hWW]; exact (Below.refl _ _).alloc (Nat.le_refl _) _
  have hT : TriC WW ⟨w.heap.size, 0, none⟩ t A1 c1 A2 c2 A3 c3 := by rw [hWW]; exact TriC.of_block (g := w.heap.size) (heap_alloc_new _ _) (r1.below (hWW ▸ hbw)) (r2.below (hWW ▸ hbw)) (r3.below (hWW ▸ hbw))
  have hlt : w.heap.size < WW.heap.size := by rw [hWW]; simp
  clear r1 r2 r3
  rw [← hWW]
  clear hWW
  obtain ⟨⟨g1, g2, g3, g4, g5, g6, g7⟩, r1, r2, r3⟩ := (show _ ∧ _ from hT)
  simp only [Nat.zero_add] at g1 g2 g3 g4 g5 g6 g7
  rcases k1 : t.a.ok with _ | _
  · refine (calls_val (ValidRegister_any t.a.base A1 t.a.digits.length c1 t.a.digits _ r1 (by have := s1; unfold SmallReg at this; omega)) (congrArg Value.bool k1)).mono ?_; rintro e w1 ⟨rfl, hw1⟩
    replace hT := hT.below hlt hw1
    replace hbw := hbw.trans (hw1.mono hbw.size)
    replace hlt := Nat.lt_of_lt_of_le hlt hw1.size
    clear hw1 g1 g2 g3 g4 g5 g6 g7 r1 r2 r3
    obtain ⟨⟨g1, g2, g3, g4, g5, g6, g7⟩, r1, r2, r3⟩ := (show _ ∧ _ from hT)
    simp only [Nat.zero_add] at g1 g2 g3 g4 g5 g6 g7
    go_wp2
    go_ret
    exact ⟨ret_bool (by rw [HV.out, k1]; rfl), hbw⟩
  rcases k2 : t.b.ok with _ | _
  · refine (calls_val (ValidRegister_any t.a.base A1 t.a.digits.length c1 t.a.digits _ r1 (by have := s1; unfold SmallReg at this; omega)) (congrArg Value.bool k1)).mono ?_; rintro e w1 ⟨rfl, hw1⟩
    replace hT := hT.below hlt hw1
    replace hbw := hbw.trans (hw1.mono hbw.size)
    replace hlt := Nat.lt_of_lt_of_le hlt hw1.size
    clear hw1 g1 g2 g3 g4 g5 g6 g7 r1 r2 r3
    obtain ⟨⟨g1, g2, g3, g4, g5, g6, g7⟩, r1, r2, r3⟩ := (show _ ∧ _ from hT)
    simp only [Nat.zero_add] at g1 g2 g3 g4 g5 g6 g7
    go_wp2_with fail
    refine (calls_val (ValidRegister_any t.b.base A2 t.b.digits.length c2 t.b.digits _ r2 (by have := s2; unfold SmallReg at this; omega)) (congrArg Value.bool k2)).mono ?_; rintro e w2 ⟨rfl, hw2⟩
    replace hT := hT.below hlt hw2
    replace hbw := hbw.trans (hw2.mono hbw.size)
    replace hlt := Nat.lt_of_lt_of_le hlt hw2.size
    clear hw2 g1 g2 g3 g4 g5 g6 g7 r1 r2 r3
    obtain ⟨⟨g1, g2, g3, g4, g5, g6, g7⟩, r1, r2, r3⟩ := (show _ ∧ _ from hT)
    simp only [Nat.zero_add] at g1 g2 g3 g4 g5 g6 g7
    go_wp2
    go_ret
    exact ⟨ret_bool (by rw [HV.out, k1, k2]; rfl), hbw⟩
  rcases k3 : t.s.ok with _ | _
  · refine (calls_val (ValidRegister_any t.a.base A1 t.a.digits.length c1 t.a.digits _ r1 (by have := s1; unfold SmallReg at this; omega)) (congrArg Value.bool k1)).mono ?_; rintro e w1 ⟨rfl, hw1⟩
    replace hT := hT.below hlt hw1
    replace hbw := hbw.trans (hw1.mono hbw.size)
    replace hlt := Nat.lt_of_lt_of_le hlt hw1.size
    clear hw1 g1 g2 g3 g4 g5 g6 g7 r1 r2 r3
    obtain ⟨⟨g1, g2, g3, g4, g5, g6, g7⟩, r1, r2, r3⟩ := (show _ ∧ _ from hT)
    simp only [Nat.zero_add] at g1 g2 g3 g4 g5 g6 g7
    go_wp2_with fail
    refine (calls_val (ValidRegister_any t.b.base A2 t.b.digits.length c2 t.b.digits _ r2 (by have := s2; unfold SmallReg at this; omega)) (congrArg Value.bool k2)).mono ?_; rintro e w2 ⟨rfl, hw2⟩
    replace hT := hT.below hlt hw2
    replace hbw := hbw.trans (hw2.mono hbw.size)
    replace hlt := Nat.lt_of_lt_of_le hlt hw2.size
    clear hw2 g1 g2 g3 g4 g5 g6 g7 r1 r2 r3
    obtain ⟨⟨g1, g2, g3, g4, g5, g6, g7⟩, r1, r2, r3⟩ := (show _ ∧ _ from hT)
    simp only [Nat.zero_add] at g1 g2 g3 g4 g5 g6 g7
    go_wp2_with fail
    refine (calls_val (ValidRegister_any t.s.base A3 t.s.digits.length c3 t.s.digits _ r3 (by have := s3; unfold SmallReg at this; omega)) (congrArg Value.bool k3)).mono ?_; rintro e w3 ⟨rfl, hw3⟩
    replace hT := hT.below hlt hw3
    replace hbw := hbw.trans (hw3.mono hbw.size)
    replace hlt := Nat.lt_of_lt_of_le hlt hw3.size
    clear hw3 g1 g2 g3 g4 g5 g6 g7 r1 r2 r3
    obtain ⟨⟨g1, g2, g3, g4, g5, g6, g7⟩, r1, r2, r3⟩ := (show _ ∧ _ from hT)
    simp only [Nat.zero_add] at g1 g2 g3 g4 g5 g6 g7
    go_wp2
    go_ret
    exact ⟨ret_bool (by rw [HV.out, k1, k2, k3]; rfl), hbw⟩
  refine (calls_val (ValidRegister_any t.a.base A1 t.a.digits.length c1 t.a.digits _ r1 (by have := s1; unfold SmallReg at this; omega)) (congrArg Value.bool k1)).mono ?_; rintro e w1 ⟨rfl, hw1⟩
  replace hT := hT.below hlt hw1
  replace hbw := hbw.trans (hw1.mono hbw.size)
  replace hlt := Nat.lt_of_lt_of_le hlt hw1.size
  clear hw1 g1 g2 g3 g4 g5 g6 g7 r1 r2 r3
  obtain ⟨⟨g1, g2, g3, g4, g5, g6, g7⟩, r1, r2, r3⟩ := (show _ ∧ _ from hT)
  simp only [Nat.zero_add] at g1 g2 g3 g4 g5 g6 g7
  go_wp2_with fail
  refine (calls_val (ValidRegister_any t.b.base A2 t.b.digits.length c2 t.b.digits _ r2 (by have := s2; unfold SmallReg at this; omega)) (congrArg Value.bool k2)).mono ?_; rintro e w2 ⟨rfl, hw2⟩
  replace hT := hT.below hlt hw2
  replace hbw := hbw.trans (hw2.mono hbw.size)
  replace hlt := Nat.lt_of_lt_of_le hlt hw2.size
  clear hw2 g1 g2 g3 g4 g5 g6 g7 r1 r2 r3
  obtain ⟨⟨g1, g2, g3, g4, g5, g6, g7⟩, r1, r2, r3⟩ := (show _ ∧ _ from hT)
  simp only [Nat.zero_add] at g1 g2 g3 g4 g5 g6 g7
  go_wp2_with fail
  refine (calls_val (ValidRegister_any t.s.base A3 t.s.digits.length c3 t.s.digits _ r3 (by have := s3; unfold SmallReg at this; omega)) (congrArg Value.bool k3)).mono ?_; rintro e w3 ⟨rfl, hw3⟩
  replace hT := hT.below hlt hw3
  replace hbw := hbw.trans (hw3.mono hbw.size)
  replace hlt := Nat.lt_of_lt_of_le hlt hw3.size
  clear hw3 g1 g2 g3 g4 g5 g6 g7 r1 r2 r3
  obtain ⟨⟨g1, g2, g3, g4, g5, g6, g7⟩, r1, r2, r3⟩ := (show _ ∧ _ from hT)
  simp only [Nat.zero_add] at g1 g2 g3 g4 g5 g6 g7
  obtain ⟨p1, p2, p3⟩ := ok_bd k1
  obtain ⟨p4, p5, p6⟩ := ok_bd k2
  obtain ⟨p7, p8, p9⟩ := ok_bd k3
  have HV := Lib.hid (show vmach t = (((t.a.base == t.b.base) && (t.s.base == t.b.base) && fullB t.b && fullB t.s) && (decide (t.a.digits.length ≤ t.b.digits.length) && betB t.carry 0 (vplaces t - 1))) by rw [HV.out, k1, k2, k3]; simp)
  clear k1 k2 k3
  have z1 := Lib.hid (powC_zero t.b.base p4 t.b.digits.length)
  have z2 := Lib.hid (powC_zero t.s.base p7 t.s.digits.length)
  rcases k1 : (t.a.base == t.b.base) with _ | _
  · have i1 : (t.a.base != t.b.base) = true := by simp [bne, k1]
    have K1 := Lib.hid k1; clear k1
    go_wp2
    go_ret
    exact ⟨ret_bool (by rw [HV.out, K1.out]; rfl), hbw⟩
  have i1 : (t.a.base != t.b.base) = false := by simp [bne, k1]
  rcases k2 : (t.s.base == t.b.base) with _ | _
  · have i2 : (t.s.base != t.b.base) = true := by simp [bne, k2]
    have K1 := Lib.hid k1; clear k1
    have K2 := Lib.hid k2; clear k2
    go_wp2
    go_ret
    exact ⟨ret_bool (by rw [HV.out, K1.out, K2.out]; rfl), hbw⟩
  have i2 : (t.s.base != t.b.base) = false := by simp [bne, k2]
  have HV := Lib.hid (show vmach t = (fullB t.b && fullB t.s && (decide (t.a.digits.length ≤ t.b.digits.length) && betB t.carry 0 (vplaces t - 1))) by rw [HV.out, k1, k2]; simp)
  clear k1 k2
  rcases k3 : fullB t.b with _ | _
  · have i3 : (powC t.b.base t.b.digits.length == 0) = true := by rw [z1.out]; unfold fullB at k3; rw [k3]; rfl
    have K3 := Lib.hid k3; clear k3
    go_wp2_with fail
    refine (values_any t.b.base A2 t.b.digits.length c2 _ p4 p5 (by omega)).mono ?_; rintro e w4 ⟨rfl, hw4⟩
    replace hT := hT.below hlt hw4
    replace hbw := hbw.trans (hw4.mono hbw.size)
    replace hlt := Nat.lt_of_lt_of_le hlt hw4.size
    clear hw4 g1 g2 g3 g4 g5 g6 g7 r1 r2 r3
    obtain ⟨⟨g1, g2, g3, g4, g5, g6, g7⟩, r1, r2, r3⟩ := (show _ ∧ _ from hT)
    simp only [Nat.zero_add] at g1 g2 g3 g4 g5 g6 g7
    go_wp2
    go_ret
    exact ⟨ret_bool (by rw [HV.out, K3.out]; rfl), hbw⟩
  have i3 : (powC t.b.base t.b.digits.length == 0) = false := by rw [z1.out]; unfold fullB at k3; rw [k3]; rfl
  go_wp2_with fail
  refine (values_any t.b.base A2 t.b.digits.length c2 _ p4 p5 (by omega)).mono ?_; rintro e w4 ⟨rfl, hw4⟩
  replace hT := hT.below hlt hw4
  replace hbw := hbw.trans (hw4.mono hbw.size)
  replace hlt := Nat.lt_of_lt_of_le hlt hw4.size
  clear hw4 g1 g2 g3 g4 g5 g6 g7 r1 r2 r3
  obtain ⟨⟨g1, g2, g3, g4, g5, g6, g7⟩, r1, r2, r3⟩ := (show _ ∧ _ from hT)
  simp only [Nat.zero_add] at g1 g2 g3 g4 g5 g6 g7
  go_wp2_with fail
  refine (values_any t.s.base A3 t.s.digits.length c3 _ p7 p8 (by omega)).mono ?_; rintro e w5 ⟨rfl, hw5⟩
  replace hT := hT.below hlt hw5
  replace hbw := hbw.trans (hw5.mono hbw.size)
  replace hlt := Nat.lt_of_lt_of_le hlt hw5.size
  clear hw5 g1 g2 g3 g4 g5 g6 g7 r1 r2 r3
  obtain ⟨⟨g1, g2, g3, g4, g5, g6, g7⟩, r1, r2, r3⟩ := (show _ ∧ _ from hT)
  simp only [Nat.zero_add] at g1 g2 g3 g4 g5 g6 g7
  rcases k4 : fullB t.s with _ | _
  · have i4 : (powC t.s.base t.s.digits.length == 0) = true := by rw [z2.out]; unfold fullB at k4; rw [k4]; rfl
    have K3 := Lib.hid k3; clear k3
    have K4 := Lib.hid k4; clear k4
    go_wp2
    go_ret
    exact ⟨ret_bool (by rw [HV.out, K3.out, K4.out]; rfl), hbw⟩
  have i4 : (powC t.s.base t.s.digits.length == 0) = false := by rw [z2.out]; unfold fullB at k4; rw [k4]; rfl
  have HV := Lib.hid (show vmach t = (decide (t.a.digits.length ≤ t.b.digits.length) && betB t.carry 0 (vplaces t - 1)) by rw [HV.out, k3, k4]; simp)
  clear k3 k4
  have hvp : vplaces t ≤ 16 ∧ -16 ≤ vplaces t := by unfold vplaces; omega
  go_wp2_with fail
  have x1 := cell_regrown g1
  have x2 := cell_regrown g2
  have x3 := cell_regrown g3
  have x4 := cell_regrown g4
  have x5 := cell_regrown g5
  have x6 := cell_regrown g6
  have x7 := cell_regrown g7
  have KP := Lib.hid (fun (W : World) (hW : Below w5.heap.size w5 W) => places_any t A1 A2 A3 c1 c2 c3 W (r1.below hW) (r2.below hW) (r3.below hW) p3 p6 p9)
  by_cases k5 : t.a.digits.length ≤ t.b.digits.length
  · have i5 : (t.a.digits.length : Int) ≤ (t.b.digits.length : Int) := by omega
    have K5 := Lib.hid k5; clear k5
    refine wp_region_quiet_below (by kernel_rfl) (by kernel_rfl) ?_
    repeat (go_big_quiet_step ((first | (go_at_call 155; exact quietB (fun W _ => width_any _ _ _ _ W)) | (go_at_call 209; exact quietB KP.out) | (go_at_call 130; exact quietB (fun W _ => between_B _ _ _ W)))))
    refine wpQuiet_nil ?_
    intro W1 hw'
    have hB1 : Below w5.heap.size w5 W1 := by
      obtain ⟨⟨dq, osq⟩, hw''⟩ := hw'
      rw [hw'']; exact below_regrown _ _ _
    clear hw'
    go_wp2
    go_ret
    exact ⟨ret_bool (by rw [HV.out, decide_eq_true K5.out]; rfl), hbw.trans (hB1.mono hbw.size)⟩
  · have i5 : ¬ (t.a.digits.length : Int) ≤ (t.b.digits.length : Int) := by omega
    have K5 := Lib.hid k5; clear k5
    refine wp_region_quiet_below (by kernel_rfl) (by kernel_rfl) ?_
    repeat (go_big_quiet_step ((first | (go_at_call 155; exact quietB (fun W _ => width_any _ _ _ _ W)) | (go_at_call 209; exact quietB KP.out) | (go_at_call 130; exact quietB (fun W _ => between_B _ _ _ W)))))
    refine wpQuiet_nil ?_
    intro W1 hw'
    have hB1 : Below w5.heap.size w5 W1 := by
      obtain ⟨⟨dq, osq⟩, hw''⟩ := hw'
      rw [hw'']; exact below_regrown _ _ _
    clear hw'
    go_wp2
    go_ret
    exact ⟨ret_bool (by rw [HV.out, decide_eq_false K5.out]; rfl), hbw.trans (hB1.mono hbw.size)⟩
end Go.Proofs.YtgljafiegpjlkaaGreatDoor

namespace Go.Proofs.YtgljafiegpjlkaaGreatDoor
open Go.RowKit Go.Sort
theorem l10Places_any (p : Addr) (t : Tri) (w : World) (hT : TriM w p t) (h1 : t.a.digits.length ≤ 16) (h2 : t.b.digits.length ≤ 16) (_h3 : t.s.digits.length ≤ 16) :
    Calls Tryz.prog 233 #[.pointer (some p)] w fun e w' => e = .returned (.int .i64 (vplaces t)) ∧ ∃ m, w' = w.drewN m := by
  obtain ⟨A1, c1, A2, c2, A3, c3, ⟨g1, g2, g3, g4, g5, g6, g7⟩, r1, r2, r3⟩ := hT.cells
  go_enter Tryz.func233, Tryz.ntmps233
  go_wp2_with fail
  go_quiet ((go_at_call 314; exact quiet_left (l00Min_any _ _ _)))
  go_wp2
  go_ret
  exact ⟨ret_int (by unfold vplaces; omega), _, rfl⟩
set_option maxRecDepth 100000 in
set_option maxHeartbeats 1600000 in
theorem l10Ok_any (p : Addr) (t : Tri) (w : World) (hT : TriM w p t) (hs : SmallTri t) :
    Calls Tryz.prog 163 #[.pointer (some p)] w fun e w' => e = .returned (.bool (vmach t)) ∧ ∃ m, w' = w.drewN m := by
  have HV := Lib.hid (show vmach t = (((t.a.ok && t.b.ok && t.s.ok) && ((t.a.base == t.b.base) && (t.s.base == t.b.base) && fullB t.b && fullB t.s)) && (decide (t.a.digits.length ≤ t.b.digits.length) && betB t.carry 0 (vplaces t - 1))) from rfl)
  have K1 := Lib.hid (fun (m : Nat) => l02Ok_reg p t.a (w.drewN m) hT.1 hs.1)
  have K2 := Lib.hid (fun (m : Nat) => l02Ok_reg ⟨p.block, p.off + 2, none⟩ t.b (w.drewN m) hT.2.1 hs.2.1)
  have K3 := Lib.hid (fun (m : Nat) => l02Ok_reg ⟨p.block, p.off + 4, none⟩ t.s (w.drewN m) hT.2.2.1 hs.2.2)
  have KP := Lib.hid (fun (m : Nat) => l10Places_any p t (w.drewN m) hT)
  obtain ⟨A1, c1, A2, c2, A3, c3, ⟨g1, g2, g3, g4, g5, g6, g7⟩, r1, r2, r3⟩ := hT.cells
  clear r1 r2 r3 hT
  go_enter Tryz.func163, Tryz.ntmps163
  rcases k1 : t.a.ok with _ | _
  · have HF : Hid (vmach t = false) := by simp only [Hid]; rw [HV.out, k1]; rfl
    have H1 := Lib.hid k1; clear k1
    try (have H2 := Lib.hid k2; clear k2)
    try (have H3 := Lib.hid k3; clear k3)
    go_wp2_with fail
    go_quiet ((go_at_call 231; first | (with_reducible exact quiet_of_ex (K1.out _ _ H1.out)) | (with_reducible exact quiet_of_ex (K2.out _ _ H2.out)) | (with_reducible exact quiet_of_ex (K3.out _ _ H3.out)) | (with_reducible exact quiet_add_ex (K1.out _ _ H1.out)) | (with_reducible exact quiet_add_ex (K2.out _ _ H2.out)) | (with_reducible exact quiet_add_ex (K3.out _ _ H3.out))))
    go_wp2
    go_ret
    exact ⟨ret_bool HF.out.symm, by first | exact ⟨_, rfl⟩ | exact ⟨_, World.drewN_drewN _ _ _⟩⟩
  rcases k2 : t.b.ok with _ | _
  · have HF : Hid (vmach t = false) := by simp only [Hid]; rw [HV.out, k1, k2]; rfl
    have H1 := Lib.hid k1; clear k1
    try (have H2 := Lib.hid k2; clear k2)
    try (have H3 := Lib.hid k3; clear k3)
    go_wp2_with fail
    go_quiet ((go_at_call 231; first | (with_reducible exact quiet_of_ex (K1.out _ _ H1.out)) | (with_reducible exact quiet_of_ex (K2.out _ _ H2.out)) | (with_reducible exact quiet_of_ex (K3.out _ _ H3.out)) | (with_reducible exact quiet_add_ex (K1.out _ _ H1.out)) | (with_reducible exact quiet_add_ex (K2.out _ _ H2.out)) | (with_reducible exact quiet_add_ex (K3.out _ _ H3.out))))
    go_wp2
    go_ret
    exact ⟨ret_bool HF.out.symm, by first | exact ⟨_, rfl⟩ | exact ⟨_, World.drewN_drewN _ _ _⟩⟩
  rcases k3 : t.s.ok with _ | _
  · have HF : Hid (vmach t = false) := by simp only [Hid]; rw [HV.out, k1, k2, k3]; rfl
    have H1 := Lib.hid k1; clear k1
    try (have H2 := Lib.hid k2; clear k2)
    try (have H3 := Lib.hid k3; clear k3)
    go_wp2_with fail
    go_quiet ((go_at_call 231; first | (with_reducible exact quiet_of_ex (K1.out _ _ H1.out)) | (with_reducible exact quiet_of_ex (K2.out _ _ H2.out)) | (with_reducible exact quiet_of_ex (K3.out _ _ H3.out)) | (with_reducible exact quiet_add_ex (K1.out _ _ H1.out)) | (with_reducible exact quiet_add_ex (K2.out _ _ H2.out)) | (with_reducible exact quiet_add_ex (K3.out _ _ H3.out))))
    go_wp2
    go_ret
    exact ⟨ret_bool HF.out.symm, by first | exact ⟨_, rfl⟩ | exact ⟨_, World.drewN_drewN _ _ _⟩⟩
  rcases k4 : (t.a.base == t.b.base) with _ | _
  · have HF : Hid (vmach t = false) := by simp only [Hid]; rw [HV.out, k1, k2, k3, k4]; rfl
    have i4 : (t.a.base != t.b.base) = true := by simp [bne, k4]
    clear k4
    have H1 := Lib.hid k1; clear k1
    try (have H2 := Lib.hid k2; clear k2)
    try (have H3 := Lib.hid k3; clear k3)
    go_wp2_with fail
    go_quiet ((go_at_call 231; first | (with_reducible exact quiet_of_ex (K1.out _ _ H1.out)) | (with_reducible exact quiet_of_ex (K2.out _ _ H2.out)) | (with_reducible exact quiet_of_ex (K3.out _ _ H3.out)) | (with_reducible exact quiet_add_ex (K1.out _ _ H1.out)) | (with_reducible exact quiet_add_ex (K2.out _ _ H2.out)) | (with_reducible exact quiet_add_ex (K3.out _ _ H3.out))))
    go_wp2
    go_ret
    exact ⟨ret_bool HF.out.symm, by first | exact ⟨_, rfl⟩ | exact ⟨_, World.drewN_drewN _ _ _⟩⟩
  rcases k5 : (t.s.base == t.b.base) with _ | _
  · have HF : Hid (vmach t = false) := by simp only [Hid]; rw [HV.out, k1, k2, k3, k4, k5]; rfl
    have e4 := eq_of_beq k4
    have i4 : (t.a.base != t.b.base) = false := by simp [bne, k4]
    have i5 : (t.a.base != t.s.base) = true := by
      rw [e4, bne_iff_ne]; intro h; rw [h] at k5; simp at k5
    have i6 : (t.b.base != t.s.base) = true := by rw [← e4]; exact i5
    clear k4 k5 e4
    have H1 := Lib.hid k1; clear k1
    try (have H2 := Lib.hid k2; clear k2)
    try (have H3 := Lib.hid k3; clear k3)
    go_wp2_with fail
    go_quiet ((go_at_call 231; first | (with_reducible exact quiet_of_ex (K1.out _ _ H1.out)) | (with_reducible exact quiet_of_ex (K2.out _ _ H2.out)) | (with_reducible exact quiet_of_ex (K3.out _ _ H3.out)) | (with_reducible exact quiet_add_ex (K1.out _ _ H1.out)) | (with_reducible exact quiet_add_ex (K2.out _ _ H2.out)) | (with_reducible exact quiet_add_ex (K3.out _ _ H3.out))))
    go_wp2
    go_ret
    exact ⟨ret_bool HF.out.symm, by first | exact ⟨_, rfl⟩ | exact ⟨_, World.drewN_drewN _ _ _⟩⟩
  have e4 := eq_of_beq k4
  have e5 := eq_of_beq k5
  have i4 : (t.a.base != t.b.base) = false := by simp [bne, k4]
  have i5 : (t.a.base != t.s.base) = false := by simp [e4, e5]
  obtain ⟨p1, p2, p3⟩ := ok_bd k1
  obtain ⟨p4, p5, p6⟩ := ok_bd k2
  obtain ⟨p7, p8, p9⟩ := ok_bd k3
  have HV := Lib.hid (show vmach t = ((fullB t.b && fullB t.s) && (decide (t.a.digits.length ≤ t.b.digits.length) && betB t.carry 0 (vplaces t - 1))) by rw [HV.out, k1, k2, k3, k4, k5]; simp)
  have H1 := Lib.hid k1; have H2 := Lib.hid k2; have H3 := Lib.hid k3
  have F1 := Lib.hid (fun (v : Bool) (hv : fullB t.b = v) W => calls_val (l10Full_any t.a.base t.b.digits.length W p1 p2 (by omega)) (congrArg Value.bool (show _ = v by rw [← hv]; unfold fullB; rw [e4])))
  have F2 := Lib.hid (fun (v : Bool) (hv : fullB t.s = v) W => calls_val (l10Full_any t.a.base t.s.digits.length W p1 p2 (by omega)) (congrArg Value.bool (show _ = v by rw [← hv]; unfold fullB; rw [e4, ← e5])))
  have hvp : vplaces t ≤ 16 ∧ -16 ≤ vplaces t := by unfold vplaces; omega
  clear k1 k2 k3 k4 k5 e4 e5
  go_wp2_with fail
  go_quiet ((go_at_call 231; first | (with_reducible exact quiet_of_ex (K1.out _ _ H1.out)) | (with_reducible exact quiet_of_ex (K2.out _ _ H2.out)) | (with_reducible exact quiet_of_ex (K3.out _ _ H3.out)) | (with_reducible exact quiet_add_ex (K1.out _ _ H1.out)) | (with_reducible exact quiet_add_ex (K2.out _ _ H2.out)) | (with_reducible exact quiet_add_ex (K3.out _ _ H3.out))))
  rcases f1 : fullB t.b with _ | _
  · have FF1 := Lib.hid f1; clear f1
    go_wp2_with (go_at_call 232; refine (F1.out _ FF1.out _).mono ?_; rintro e w' ⟨rfl, rfl⟩)
    go_ret
    exact ⟨ret_bool (by rw [HV.out, FF1.out]; rfl), _, rfl⟩
  rcases f2 : fullB t.s with _ | _
  · have FF1 := Lib.hid f1; have FF2 := Lib.hid f2; clear f1 f2
    go_wp2_with (go_at_call 232; first | (with_reducible refine (F1.out _ FF1.out _).mono ?_; rintro e w' ⟨rfl, rfl⟩) | (with_reducible refine (F2.out _ FF2.out _).mono ?_; rintro e w' ⟨rfl, rfl⟩))
    go_ret
    exact ⟨ret_bool (by rw [HV.out, FF1.out, FF2.out]; rfl), _, rfl⟩
  have HV := Lib.hid (show vmach t = (decide (t.a.digits.length ≤ t.b.digits.length) && betB t.carry 0 (vplaces t - 1)) by rw [HV.out, f1, f2]; simp)
  have FF1 := Lib.hid f1; have FF2 := Lib.hid f2; clear f1 f2
  by_cases k6 : t.a.digits.length ≤ t.b.digits.length
  · have i6 : (t.a.digits.length : Int) ≤ (t.b.digits.length : Int) := by omega
    have K6 := Lib.hid k6; clear k6
    go_wp2_with (go_at_call 232; first | (with_reducible refine (F1.out _ FF1.out _).mono ?_; rintro e w' ⟨rfl, rfl⟩) | (with_reducible refine (F2.out _ FF2.out _).mono ?_; rintro e w' ⟨rfl, rfl⟩))
    go_quiet ((first | (go_at_call 233; first | (with_reducible exact quiet_of_ex (KP.out _ p3 p6 p9)) | (with_reducible exact quiet_add_ex (KP.out _ p3 p6 p9)) | exact Calls.quiet_of (l10Places_any _ _ _ (by assumption) p3 p6 p9)) | (go_at_call 137; first | exact quiet_left (l00In_any _ _ _ _) | exact quiet_add_left (l00In_any _ _ _ _))))
    go_wp2
    go_ret
    exact ⟨ret_bool (by rw [HV.out, decide_eq_true K6.out]; rfl), by first | exact ⟨_, rfl⟩ | exact ⟨_, World.drewN_drewN _ _ _⟩⟩
  · have i6 : decide ((t.a.digits.length : Int) ≤ (t.b.digits.length : Int)) = false := decide_eq_false (by omega)
    have i7 : decide (t.a.digits.length ≤ t.b.digits.length) = false := decide_eq_false (by omega)
    have K6 := Lib.hid k6; clear k6
    go_wp2_with (go_at_call 232; first | (with_reducible refine (F1.out _ FF1.out _).mono ?_; rintro e w' ⟨rfl, rfl⟩) | (with_reducible refine (F2.out _ FF2.out _).mono ?_; rintro e w' ⟨rfl, rfl⟩))
    go_quiet ((first | (go_at_call 233; first | (with_reducible exact quiet_of_ex (KP.out _ p3 p6 p9)) | (with_reducible exact quiet_add_ex (KP.out _ p3 p6 p9)) | exact Calls.quiet_of (l10Places_any _ _ _ (by assumption) p3 p6 p9)) | (go_at_call 137; first | exact quiet_left (l00In_any _ _ _ _) | exact quiet_add_left (l00In_any _ _ _ _))))
    go_wp2
    go_ret
    exact ⟨ret_bool (by rw [HV.out, decide_eq_false K6.out]; rfl), by first | exact ⟨_, rfl⟩ | exact ⟨_, World.drewN_drewN _ _ _⟩⟩
end Go.Proofs.YtgljafiegpjlkaaGreatDoor

namespace Go.Proofs.YtgljafiegpjlkaaGreatDoor
open Go.RowKit
set_option maxHeartbeats 800000 in
theorem szMachine_any (b1 b2 b3 cy : Int) (A1 A2 A3 : Option Addr) (n1 n2 n3 c1 c2 c3 : Nat) (left : Int) (w : World) (h1 : -1 ≤ left) (h2 : left ≤ 1048576) (hm1 : n1 ≤ 9223372036854775807) (hm2 : n2 ≤ 9223372036854775807) (hm3 : n3 ≤ 9223372036854775807) :
    Calls Tryz.prog 117 #[.agg #[.int .i64 b1, .slice A1 n1 c1, .int .i64 b2, .slice A2 n2 c2, .int .i64 b3, .slice A3 n3 c3, .int .i64 cy], .int .i64 left] w
      fun e w' => e = .returned (.int .i64 (lft3 left n1 n2 n3)) ∧ Below w.heap.size w w' := by
  obtain ⟨g1, g2⟩ := lft_bd left n1 h1 (by omega)
  obtain ⟨g3, g4⟩ := lft_bd (lft left n1) n2 g1 (by omega)
  obtain ⟨g5, g6⟩ := lft_bd (lft (lft left n1) n2) n3 g3 (by omega)
  have hb0 : Below w.heap.size w (w.alloc (.cells #[.int .i64 b1, .slice A1 n1 c1, .int .i64 b2, .slice A2 n2 c2, .int .i64 b3, .slice A3 n3 c3, .int .i64 cy] 74)) := (Below.refl _ _).alloc (Nat.le_refl _) _
  by_cases k1 : lft left n1 < 0
  · have HF : Hid (lft3 left n1 n2 n3 = -1) := by simp only [Hid, lft3]; rw [if_pos k1]
    go_enter Tryz.func117, Tryz.ntmps117
    go_wp2_with fail
    refine (szRegister_any _ _ _ _ _ _ h1 h2 hm1).mono ?_; rintro e w1 ⟨rfl, hw1⟩
    go_wp2_with fail
    go_ret
    exact ⟨ret_int HF.out.symm, hb0.trans (hw1.mono (by simp))⟩
  by_cases k2 : lft (lft left n1) n2 < 0
  · have HF : Hid (lft3 left n1 n2 n3 = -1) := by simp only [Hid, lft3]; rw [if_neg k1, if_pos k2]
    go_enter Tryz.func117, Tryz.ntmps117
    go_wp2_with fail
    refine (szRegister_any _ _ _ _ _ _ h1 h2 hm1).mono ?_; rintro e w1 ⟨rfl, hw1⟩; obtain ⟨hc1, -⟩ := bcell hw1
    go_wp2_with fail
    refine (szRegister_any _ _ _ _ _ _ g1 (by omega) hm2).mono ?_; rintro e w2 ⟨rfl, hw2⟩
    go_wp2_with fail
    go_ret
    have hs := hw1.size
    exact ⟨ret_int HF.out.symm, (hb0.trans (hw1.mono (by simp))).trans (hw2.mono (by simp at hs; omega))⟩
  by_cases k3 : lft (lft (lft left n1) n2) n3 < 0
  all_goals
    have HF : Hid (lft3 left n1 n2 n3 = lft (lft (lft left n1) n2) n3) := by simp only [Hid, lft3]; rw [if_neg k1, if_neg k2]
    have HG : Hid (lft (lft (lft left n1) n2) n3 < 0 → lft (lft (lft left n1) n2) n3 = -1) := by simp only [Hid]; omega
    go_enter Tryz.func117, Tryz.ntmps117
    go_wp2_with fail
    refine (szRegister_any _ _ _ _ _ _ h1 h2 hm1).mono ?_; rintro e w1 ⟨rfl, hw1⟩; obtain ⟨hc1, -⟩ := bcellB (B := w.heap.size + 1) (hw1.mono (by simp)); have hs1 : w.heap.size + 1 ≤ w1.heap.size := by have := hw1.size; simpa using this
    go_wp2_with fail
    refine (szRegister_any _ _ _ _ _ _ g1 (by omega) hm2).mono ?_; rintro e w2 ⟨rfl, hw2⟩; clear hc1; obtain ⟨hc2, -⟩ := bcellB (B := w.heap.size + 1) ((hw1.mono (by simp)).trans (hw2.mono (by omega))); have hs2 : w1.heap.size ≤ w2.heap.size := hw2.size
    go_wp2_with fail
    refine (szRegister_any _ _ _ _ _ _ g3 (by omega) hm3).mono ?_; rintro e w3 ⟨rfl, hw3⟩
    go_wp2_with fail
    go_ret
    refine ⟨ret_int ?_, ((hb0.trans (hw1.mono (by simp))).trans (hw2.mono (by omega))).trans (hw3.mono (by omega))⟩
    first | (rw [HF.out]; done) | (rw [HF.out, HG.out k3]; done)
set_option maxHeartbeats 800000 in
theorem toMachine_any (b1 b2 b3 cy : Int) (A1 A2 A3 : Option Addr) (n1 n2 n3 c1 c2 c3 : Nat) (d1 d2 d3 : List Int) (w : World) (r1 : RI w A1 n1 d1) (r2 : RI w A2 n2 d2) (r3 : RI w A3 n3 d3) (hm1 : n1 ≤ 1048576) (hm2 : n2 ≤ 1048576) (hm3 : n3 ≤ 1048576) :
    Calls Tryz.prog 120 #[.agg #[.int .i64 b1, .slice A1 n1 c1, .int .i64 b2, .slice A2 n2 c2, .int .i64 b3, .slice A3 n3 c3, .int .i64 cy]] w
      fun e w' => ∃ X1 x1 X2 x2 X3 x3, e = .returned (.agg #[.int .i64 b1, .slice X1 n1 x1, .int .i64 b2, .slice X2 n2 x2, .int .i64 b3, .slice X3 n3 x3, .int .i64 cy]) ∧
        OwnI w' w.heap.size (.slice X1 n1 x1) d1 ∧ OwnI w' w.heap.size (.slice X2 n2 x2) d2 ∧ OwnI w' w.heap.size (.slice X3 n3 x3) d3 ∧ Below w.heap.size w w' := by
  go_enter Tryz.func120, Tryz.ntmps120
  have hb0 : Below w.heap.size w (((w.alloc (.cells #[.int .i64 b1, .slice A1 n1 c1, .int .i64 b2, .slice A2 n2 c2, .int .i64 b3, .slice A3 n3 c3, .int .i64 cy] 74)).alloc (.cells #[.int .i64 0, .slice none 0 0, .int .i64 0, .slice none 0 0, .int .i64 0, .slice none 0 0, .int .i64 0] 61)).alloc (.cells #[.int .i64 0, .slice none 0 0, .int .i64 0, .slice none 0 0, .int .i64 0, .slice none 0 0, .int .i64 0] 61)) := (((Below.refl _ _).alloc (Nat.le_refl _) _).alloc (by simp) _).alloc (by simp <;> omega) _
  go_wp2_with fail
  refine (toRegister_any _ _ _ _ d1 _ (r1.below hb0) hm1).mono ?_; rintro e w1 ⟨X1, x1, rfl, o1, hw1⟩; obtain ⟨hc, hf⟩ := bcellB (B := w.heap.size + 3) (hw1.mono (by simp)); have hs1 : w.heap.size + 3 ≤ w1.heap.size := by have := hw1.size; simp at this; omega
  go_wp2_with fail
  have hbA : Below w.heap.size w ((w1.setCell ⟨w.heap.size + 1 + 1, 0, none⟩ (.int .i64 b1)).setCell ⟨w.heap.size + 1 + 1, 1, none⟩ (.slice X1 n1 x1)) := ((hb0.trans (hw1.mono (by simp <;> omega))).setCell (by simp <;> omega) _).setCell (by simp <;> omega) _
  have o1A := (o1.setBelow (a := ⟨w.heap.size + 1 + 1, 0, none⟩) (by simp) (.int .i64 b1)).setBelow (a := ⟨w.heap.size + 1 + 1, 1, none⟩) (by simp) (.slice X1 n1 x1)
  refine (toRegister_any _ _ _ _ d2 _ (r2.below hbA) hm2).mono ?_; rintro e w2 ⟨X2, x2, rfl, o2, hw2⟩; obtain ⟨hc2, hf2⟩ := bcellB (B := w.heap.size + 3) (hw2.mono (by simp <;> omega)); have hs2 : w1.heap.size ≤ w2.heap.size := by have := hw2.size; simp at this; omega
  have o1B := o1A.below hw2
  have hbB := hbA.trans (hw2.mono (by simp <;> omega))
  clear hbA o1A o1
  go_wp2_with fail
  have hbC : Below w.heap.size w ((w2.setCell ⟨w.heap.size + 1 + 1, 2, none⟩ (.int .i64 b2)).setCell ⟨w.heap.size + 1 + 1, 3, none⟩ (.slice X2 n2 x2)) := (hbB.setCell (by simp <;> omega) _).setCell (by simp <;> omega) _
  have o1C := (o1B.setBelow (a := ⟨w.heap.size + 1 + 1, 2, none⟩) (by simp) (.int .i64 b2)).setBelow (a := ⟨w.heap.size + 1 + 1, 3, none⟩) (by simp) (.slice X2 n2 x2)
  have o2C := (o2.setBelow (a := ⟨w.heap.size + 1 + 1, 2, none⟩) (by simp <;> omega) (.int .i64 b2)).setBelow (a := ⟨w.heap.size + 1 + 1, 3, none⟩) (by simp <;> omega) (.slice X2 n2 x2)
  refine (toRegister_any _ _ _ _ d3 _ (r3.below hbC) hm3).mono ?_; rintro e w3 ⟨X3, x3, rfl, o3, hw3⟩; obtain ⟨hc3, hf3⟩ := bcellB (B := w.heap.size + 3) (hw3.mono (by simp <;> omega)); have hs3 : w2.heap.size ≤ w3.heap.size := by have := hw3.size; simp at this; omega
  have o1D := o1C.below hw3
  have o2D := o2C.below hw3
  have hbD := hbC.trans (hw3.mono (by simp <;> omega))
  clear hbC o1C o2C o1B o2 hbB
  go_wp2_with fail
  refine bodyPost_ret (v := .agg #[.int .i64 b1, .slice X1 n1 x1, .int .i64 b2, .slice X2 n2 x2, .int .i64 b3, .slice X3 n3 x3, .int .i64 cy]) (by simp [results, Tryz.results120, go_sem, hc, hc2, hc3]) rfl ⟨_, _, _, _, _, _, rfl, ?_, ?_, ?_, ?_⟩
  · refine OwnI.mono (b := w.heap.size + 3) ?_ (by omega)
    repeat (refine OwnI.setBelow ?_ (by simp <;> omega) _)
    exact o1D.mono (by simp)
  · refine OwnI.mono (b := w.heap.size + 3) ?_ (by omega)
    repeat (refine OwnI.setBelow ?_ (by simp <;> omega) _)
    exact o2D.mono (by simp <;> omega)
  · refine OwnI.mono (b := w.heap.size + 3) ?_ (by omega)
    repeat (refine OwnI.setBelow ?_ (by simp <;> omega) _)
    exact o3.mono (by simp <;> omega)
  · repeat (refine Below.setCell ?_ (by simp <;> omega) _)
    exact hbD
set_option maxHeartbeats 800000 in
theorem eqMachine_any (b1 b2 b3 cy b1' b2' b3' cy' : Int) (A1 A2 A3 B1 B2 B3 : Option Addr) (n1 n2 n3 c1 c2 c3 m1 m2 m3 e1 e2 e3 : Nat) (d1 d2 d3 d1' d2' d3' : List Int) (w : World)
    (r1 : RI w A1 n1 d1) (r2 : RI w A2 n2 d2) (r3 : RI w A3 n3 d3) (s1 : RI w B1 m1 d1') (s2 : RI w B2 m2 d2') (s3 : RI w B3 m3 d3')
    (hm1 : n1 ≤ 1048576) (hm2 : n2 ≤ 1048576) (hm3 : n3 ≤ 1048576) (hk1 : m1 ≤ 1048576) (hk2 : m2 ≤ 1048576) (hk3 : m3 ≤ 1048576) :
    Calls Tryz.prog 122 #[.agg #[.int .i64 b1, .slice A1 n1 c1, .int .i64 b2, .slice A2 n2 c2, .int .i64 b3, .slice A3 n3 c3, .int .i64 cy], .agg #[.int .i64 b1', .slice B1 m1 e1, .int .i64 b2', .slice B2 m2 e2, .int .i64 b3', .slice B3 m3 e3, .int .i64 cy']] w
      fun e w' => e = .returned (.bool (decide (b1 = b1' ∧ d1 = d1') && decide (b2 = b2' ∧ d2 = d2') && decide (b3 = b3' ∧ d3 = d3') && decide (cy = cy'))) ∧ Below w.heap.size w w' := by
  have hb0 : Below w.heap.size w ((w.alloc (.cells #[.int .i64 b1, .slice A1 n1 c1, .int .i64 b2, .slice A2 n2 c2, .int .i64 b3, .slice A3 n3 c3, .int .i64 cy] 61)).alloc (.cells #[.int .i64 b1', .slice B1 m1 e1, .int .i64 b2', .slice B2 m2 e2, .int .i64 b3', .slice B3 m3 e3, .int .i64 cy'] 61)) := ((Below.refl _ _).alloc (Nat.le_refl _) _).alloc (by simp) _
  rcases k1 : decide (b1 = b1' ∧ d1 = d1') with _ | _
  · go_enter Tryz.func122, Tryz.ntmps122
    go_wp2_with fail
    refine (eqRegister_any _ _ _ _ _ _ _ _ d1 d1' _ (r1.below hb0) (s1.below hb0) (by omega) (by omega)).mono ?_; rintro e w1 ⟨rfl, hw1⟩; rw [k1]
    go_wp2_with fail
    go_ret
    exact ⟨rfl, hb0.trans (hw1.mono (by simp <;> omega))⟩
  rcases k2 : decide (b2 = b2' ∧ d2 = d2') with _ | _
  · go_enter Tryz.func122, Tryz.ntmps122
    go_wp2_with fail
    refine (eqRegister_any _ _ _ _ _ _ _ _ d1 d1' _ (r1.below hb0) (s1.below hb0) (by omega) (by omega)).mono ?_; rintro e w1 ⟨rfl, hw1⟩; rw [k1]
    have hbA := hb0.trans (hw1.mono (by simp <;> omega))
    obtain ⟨hc, -⟩ := bcellB (B := w.heap.size + 2) (hw1.mono (by simp <;> omega)); have hs1 : w.heap.size + 2 ≤ w1.heap.size := by have := hw1.size; simp at this; omega
    go_wp2_with fail
    refine (eqRegister_any _ _ _ _ _ _ _ _ d2 d2' _ (r2.below hbA) (s2.below hbA) (by omega) (by omega)).mono ?_; rintro e w2 ⟨rfl, hw2⟩; rw [k2]
    go_wp2_with fail
    go_ret
    exact ⟨rfl, hbA.trans (hw2.mono (by omega))⟩
  go_enter Tryz.func122, Tryz.ntmps122
  go_wp2_with fail
  refine (eqRegister_any _ _ _ _ _ _ _ _ d1 d1' _ (r1.below hb0) (s1.below hb0) (by omega) (by omega)).mono ?_; rintro e w1 ⟨rfl, hw1⟩; rw [k1]
  have hbA := hb0.trans (hw1.mono (by simp <;> omega))
  obtain ⟨hc, -⟩ := bcellB (B := w.heap.size + 2) (hw1.mono (by simp <;> omega)); have hs1 : w.heap.size + 2 ≤ w1.heap.size := by have := hw1.size; simp at this; omega
  go_wp2_with fail
  refine (eqRegister_any _ _ _ _ _ _ _ _ d2 d2' _ (r2.below hbA) (s2.below hbA) (by omega) (by omega)).mono ?_; rintro e w2 ⟨rfl, hw2⟩; rw [k2]
  have hbB := hbA.trans (hw2.mono (by omega))
  clear hc
  obtain ⟨hc, -⟩ := bcellB (B := w.heap.size + 2) ((hw1.mono (by simp <;> omega)).trans (hw2.mono (by omega))); have hs2 : w1.heap.size ≤ w2.heap.size := hw2.size
  go_wp2_with fail
  refine (eqRegister_any _ _ _ _ _ _ _ _ d3 d3' _ (r3.below hbB) (s3.below hbB) (by omega) (by omega)).mono ?_; rintro e w3 ⟨rfl, hw3⟩
  have hbC := hbB.trans (hw3.mono (by omega))
  clear hc
  obtain ⟨hc, -⟩ := bcellB (B := w.heap.size + 2) (((hw1.mono (by simp <;> omega)).trans (hw2.mono (by omega))).trans (hw3.mono (by omega))); have hs3 : w2.heap.size ≤ w3.heap.size := hw3.size
  rcases k3 : decide (b3 = b3' ∧ d3 = d3') with _ | _
  · go_wp2_with fail
    go_ret
    exact ⟨ret_bool (by simp [k3]), hbC⟩
  · by_cases k4 : cy = cy'
    · have k5 : (cy != cy') = false := by simp [k4]
      have K4 := Lib.hid k4; clear k4
      go_wp2_with fail
      go_ret
      exact ⟨ret_bool (by simp [k3, K4.out]), hbC⟩
    · have k5 : (cy != cy') = true := by simp [k4]
      have K4 := Lib.hid k4; clear k4
      go_wp2_with fail
      go_ret
      exact ⟨ret_bool (by simp [k3, K4.out]), hbC⟩
end Go.Proofs.YtgljafiegpjlkaaGreatDoor

namespace Go.Proofs.YtgljafiegpjlkaaGreatDoor
open Go.RowKit Go.Sort
def mtextL (t : Tri) : ByteArray := (((((((⟨(rtext t.a).toArray⟩ : ByteArray) ++ (⟨#[32]⟩ : ByteArray)) ++ (⟨(rtext t.b).toArray⟩ : ByteArray)) ++ (⟨#[32]⟩ : ByteArray)) ++ (⟨(rtext t.s).toArray⟩ : ByteArray)) ++ (⟨#[32]⟩ : ByteArray)) ++ (⟨(dec t.carry).toArray⟩ : ByteArray))
def mtext (t : Tri) : ByteArray := if vmach t then mtextL t else ⟨#[]⟩
theorem vmach_parts {t : Tri} (h : vmach t = true) : t.a.ok = true ∧ t.b.ok = true ∧ t.s.ok = true ∧ 0 ≤ t.carry ∧ t.carry ≤ 16 := by
  simp only [vmach, Bool.and_eq_true] at h
  obtain ⟨⟨⟨⟨h1, h2⟩, h3⟩, -⟩, -, h4⟩ := h
  obtain ⟨h5, h6⟩ := betB_iff.1 h4
  obtain ⟨-, -, p1⟩ := ok_bd h3
  exact ⟨h1, h2, h3, h5, by unfold vplaces at h6; omega⟩
set_option maxRecDepth 100000 in
set_option maxHeartbeats 1600000 in
theorem MachineText_any (t : Tri) (A1 A2 A3 : Option Addr) (c1 c2 c3 : Nat) (w : World) (r1 : RI w A1 t.a.digits.length t.a.digits) (r2 : RI w A2 t.b.digits.length t.b.digits) (r3 : RI w A3 t.s.digits.length t.s.digits) (hs : SmallTri t) (ht : TB w) :
    Calls Tryz.prog 110 #[.agg #[.int .i64 t.a.base, .slice A1 t.a.digits.length c1, .int .i64 t.b.base, .slice A2 t.b.digits.length c2, .int .i64 t.s.base, .slice A3 t.s.digits.length c3, .int .i64 t.carry]] w
      fun e w' => e = .returned (.string (mtext t)) ∧ Below w.heap.size w w' := by
  have hb0 : Below w.heap.size w (w.alloc (.cells #[.int .i64 t.a.base, .slice A1 t.a.digits.length c1, .int .i64 t.b.base, .slice A2 t.b.digits.length c2, .int .i64 t.s.base, .slice A3 t.s.digits.length c3, .int .i64 t.carry] 61)) := (Below.refl _ _).alloc (Nat.le_refl _) _
  rcases hv : vmach t with _ | _
  · have HF : Hid (mtext t = ⟨#[]⟩) := by simp [Hid, mtext, hv]
    go_enter Tryz.func110, Tryz.ntmps110
    go_wp2_with fail
    refine (ValidMachine_any t A1 A2 A3 c1 c2 c3 _ (r1.below hb0) (r2.below hb0) (r3.below hb0) hs).mono ?_; rintro e w1 ⟨rfl, hw1⟩
    rw [hv]
    go_wp2_with fail
    go_ret
    exact ⟨ret_str HF.out.symm, hb0.trans (hw1.mono (by simp <;> omega))⟩
  · have HF : Hid (mtext t = mtextL t) := by simp [Hid, mtext, hv]
    obtain ⟨o1, o2, o3, y0, y1⟩ := vmach_parts hv
    have l1 := rtext_len t.a
    have l2 := rtext_len t.b
    have l3 := rtext_len t.s
    have l4 := dec_len t.carry (by omega) (by omega)
    have hT0 : TriC (w.alloc (.cells #[.int .i64 t.a.base, .slice A1 t.a.digits.length c1, .int .i64 t.b.base, .slice A2 t.b.digits.length c2, .int .i64 t.s.base, .slice A3 t.s.digits.length c3, .int .i64 t.carry] 61)) ⟨w.heap.size, 0, none⟩ t A1 c1 A2 c2 A3 c3 := TriC.of_block (g := w.heap.size) (heap_alloc_new _ _) (r1.below hb0) (r2.below hb0) (r3.below hb0)
    go_enter Tryz.func110, Tryz.ntmps110
    go_wp2_with fail
    refine (ValidMachine_any t A1 A2 A3 c1 c2 c3 _ (r1.below hb0) (r2.below hb0) (r3.below hb0) hs).mono ?_; rintro e w1 ⟨rfl, hw1⟩
    rw [hv]
    have hbw := hb0.trans (hw1.mono (by simp <;> omega))
    have hT := hT0.below (by simp) hw1
    clear hT0
    obtain ⟨⟨g1, g2, g3, g4, g5, g6, g7⟩, q1, q2, q3⟩ := hT
    simp only [Nat.zero_add] at g1 g2 g3 g4 g5 g6 g7
    have x0 := cell_regrown g1
    have x1 := cell_regrown g2
    have x2 := cell_regrown g3
    have x3 := cell_regrown g4
    have x4 := cell_regrown g5
    have x5 := cell_regrown g6
    have x6 := cell_regrown g7
    have K1 := Lib.hid (fun (W : World) (hW : Below w1.heap.size w1 W) => RegisterText_reg t.a A1 c1 W (q1.below hW) hs.1 ((ht.below hbw).below hW))
    have K2 := Lib.hid (fun (W : World) (hW : Below w1.heap.size w1 W) => RegisterText_reg t.b A2 c2 W (q2.below hW) hs.2.1 ((ht.below hbw).below hW))
    have K3 := Lib.hid (fun (W : World) (hW : Below w1.heap.size w1 W) => RegisterText_reg t.s A3 c3 W (q3.below hW) hs.2.2 ((ht.below hbw).below hW))
    have K4 := Lib.hid (fun (W : World) (hW : Below w1.heap.size w1 W) => Decimal_any t.carry W (by omega) (by omega) ((ht.below hbw).below hW))
    go_wp2_with fail
    refine wp_region_quiet_below (by kernel_rfl) (by kernel_rfl) ?_
    repeat (go_big_quiet_step ((first | (go_at_call 165; first | (with_reducible exact quietB K1.out) | (with_reducible exact quietB K2.out) | (with_reducible exact quietB K3.out)) | (go_at_call 75; exact quietB K4.out))))
    refine wpQuiet_nil ?_
    intro _ hw'
    obtain ⟨⟨dq, osq⟩, hw''⟩ := hw'
    subst hw''
    go_wp2
    go_ret
    exact ⟨ret_str (by rw [HF.out]; rfl), hbw.trans ((below_regrown w1 dq osq).mono hbw.size)⟩
set_option maxRecDepth 100000 in
set_option maxHeartbeats 1600000 in
theorem l10Text_any (p : Addr) (t : Tri) (w : World) (hT : TriM w p t) (hlt : p.block < w.heap.size) (hv : vmach t = true) :
    Calls Tryz.prog 241 #[.pointer (some p)] w fun e w' => e = .returned (.string (mtextL t)) ∧ Below w.heap.size w w' := by
  obtain ⟨o1, o2, o3, y0, y1⟩ := vmach_parts hv
  have l1 := rtext_len t.a
  have l2 := rtext_len t.b
  have l3 := rtext_len t.s
  have l4 := dec_len t.carry (by omega) (by omega)
  have K1 := Lib.hid (fun (W : World) (hW : Below w.heap.size w W) => l02Text_any p t.a W (steady_RegM _ _ _ _ hlt hW hT.1) o1 (Nat.lt_of_lt_of_le hlt hW.size))
  have K2 := Lib.hid (fun (W : World) (hW : Below w.heap.size w W) => l02Text_any ⟨p.block, p.off + 2, none⟩ t.b W (steady_RegM _ _ _ _ hlt hW hT.2.1) o2 (Nat.lt_of_lt_of_le hlt hW.size))
  have K3 := Lib.hid (fun (W : World) (hW : Below w.heap.size w W) => l02Text_any ⟨p.block, p.off + 4, none⟩ t.s W (steady_RegM _ _ _ _ hlt hW hT.2.2.1) o3 (Nat.lt_of_lt_of_le hlt hW.size))
  have K4 := Lib.hid (fun (W : World) (_ : Below w.heap.size w W) => l01Dec_any t.carry W (by omega) (by omega))
  have x6 := cell_regrown hT.2.2.2
  clear hT
  go_enter Tryz.func241, Tryz.ntmps241
  go_wp2_with fail
  refine wp_region_quiet_below (by kernel_rfl) (by kernel_rfl) ?_
  repeat (go_big_quiet_step ((first | (go_at_call 245; first | (with_reducible exact quietB K1.out) | (with_reducible exact quietB K2.out) | (with_reducible exact quietB K3.out)) | (go_at_call 88; exact quietB K4.out))))
  refine wpQuiet_nil ?_
  intro _ hw'
  obtain ⟨⟨dq, osq⟩, hw''⟩ := hw'
  subst hw''
  go_wp2
  go_ret
  exact ⟨ret_str (by rfl), below_regrown w dq osq⟩
end Go.Proofs.YtgljafiegpjlkaaGreatDoor

namespace Go.Proofs.YtgljafiegpjlkaaGreatDoor
open Go.RowKit Go.Sort
theorem dch_nat (d : Int) (h0 : 0 ≤ d) (h1 : d < 16) : (dch d).toNat = if d < 10 then 48 + d.toNat else 87 + d.toNat := by
  unfold dch; split <;> (rw [UInt8.toNat_ofNat']; omega)
theorem digV_dch (d : Int) (h0 : 0 ≤ d) (h1 : d < 16) : digV (dch d) = d := by
  unfold digV
  rw [dch_nat d h0 h1]
  by_cases h : d < 10
  · rw [if_pos h, if_pos (by omega)]; omega
  · rw [if_neg h, if_neg (by omega), if_pos (by omega)]; omega
theorem dch_digV (c : UInt8) (h : 0 ≤ digV c) : dch (digV c) = c := by
  have hlt := c.toNat_lt
  apply UInt8.toNat_inj.1
  unfold digV at h ⊢
  by_cases h1 : 48 ≤ c.toNat ∧ c.toNat ≤ 57
  · rw [if_pos h1, dch_nat _ (by omega) (by omega), if_pos (by omega)]; omega
  · rw [if_neg h1] at h ⊢
    by_cases h2 : 97 ≤ c.toNat ∧ c.toNat ≤ 102
    · rw [if_pos h2, dch_nat _ (by omega) (by omega), if_neg (by omega)]; omega
    · rw [if_neg h2] at h; omega
theorem rdR_text {b : Int} {ds : List Int} (h : vreg b ds = true) : rdR (rtextL b ds) = some ⟨b, ds⟩ := by
  obtain ⟨⟨b1, b2⟩, -, hd, -⟩ := vreg_iff.1 h
  unfold rdR rtextL
  rw [List.append_assoc, List.singleton_append, cutB_of 58 _ _ (not_mem_dec b (by decide) (by right; decide))]
  simp only [Option.bind_some]
  rw [rdDec_dec b (by omega)]
  simp only [Option.bind_some]
  have e : ((ds.reverse.map dch).reverse.map digV) = ds := by
    rw [← List.map_reverse, List.reverse_reverse, List.map_map]
    conv => rhs; rw [← List.map_id ds]
    refine List.map_congr_left fun d hm => ?_
    have := hd d hm
    exact digV_dch d this.1 (by omega)
  rw [e, h]; rfl
theorem rdR_sound {w : List UInt8} {r : Reg} (h : rdR w = some r) : r.ok = true ∧ rtextL r.base r.digits = w := by
  unfold rdR at h
  obtain ⟨⟨x, y⟩, h1, h2⟩ := Option.bind_eq_some_iff.1 h
  obtain ⟨n, h3, h4⟩ := Option.bind_eq_some_iff.1 h2
  split at h4
  · rename_i hv
    injection h4 with h4
    rw [← h4]
    refine ⟨hv, ?_⟩
    obtain ⟨h5, -⟩ := cutB_mem 58 w x y h1
    unfold rtextL
    simp only []
    rw [rdDec_sound h3, h5, List.append_assoc, List.singleton_append]
    congr 2
    rw [← List.map_reverse, List.reverse_reverse, List.map_map]
    conv => rhs; rw [← List.map_id y]
    refine List.map_congr_left fun c hc => ?_
    exact dch_digV c ((vreg_iff.1 hv).2.2.1 _ (List.mem_map.2 ⟨c, by simpa using hc, rfl⟩)).1
  · cases h4
theorem no32 {b : Int} {ds : List Int} (h : vreg b ds = true) : (32 : UInt8) ∉ rtextL b ds := by
  obtain ⟨⟨b1, b2⟩, -, hd, -⟩ := vreg_iff.1 h
  unfold rtextL
  intro hm
  rcases List.mem_append.1 hm with hm | hm
  · rcases List.mem_append.1 hm with hm | hm
    · exact not_mem_dec b (by decide) (by left; decide) hm
    · simp at hm
  · obtain ⟨d, hd1, hd2⟩ := List.mem_map.1 hm
    have h1 := hd d (by simpa using hd1)
    have h2 := dch_nat d h1.1 (by omega)
    rw [hd2] at h2
    have h3 : (32 : UInt8).toNat = 32 := rfl
    rw [h3] at h2
    split at h2 <;> omega
theorem rtextL_ne (b : Int) (ds : List Int) : rtextL b ds ≠ [] := by unfold rtextL; simp
theorem split_cases (k : UInt8) (bs : List UInt8) : (splitB k.toNat bs = [bs] ∧ k ∉ bs) ∨ ∃ x y, bs = x ++ k :: y ∧ k ∉ x ∧ splitB k.toNat bs = x :: splitB k.toNat y := by
  cases h : cutB [k] bs with
  | none => exact .inl ⟨splitB_none k bs (cutB_none k bs h), cutB_none k bs h⟩
  | some q =>
    obtain ⟨x, y⟩ := q
    obtain ⟨h1, h2⟩ := cutB_mem k bs x y h
    exact .inr ⟨x, y, h1, h2, by rw [h1, splitB_at k y x h2]⟩
theorem split_join {bs x : List UInt8} {t : List (List UInt8)} (h : splitB 32 bs = x :: t) : (t = [] ∧ bs = x) ∨ ∃ y, bs = x ++ 32 :: y ∧ splitB 32 y = t := by
  have e32 : (32 : UInt8).toNat = 32 := rfl
  rcases split_cases 32 bs with ⟨h1, -⟩ | ⟨a, y, h1, -, h3⟩
  · rw [e32, h] at h1; injection h1 with h1 h2; exact .inl ⟨h2, h1.symm⟩
  · rw [e32, h] at h3; injection h3 with h3 h4; exact .inr ⟨y, by rw [h3]; exact h1, h4.symm⟩
theorem strB_cat (a b : ByteArray) : strB (a ++ b) = strB a ++ strB b := by simp [strB]
theorem strB_mtextL {t : Tri} (h : vmach t = true) : strB (mtextL t) = rtextL t.a.base t.a.digits ++ 32 :: (rtextL t.b.base t.b.digits ++ 32 :: (rtextL t.s.base t.s.digits ++ 32 :: dec t.carry)) := by
  obtain ⟨h1, h2, h3, -⟩ := vmach_parts h
  unfold mtextL
  simp only [strB_cat, strB_mk]
  unfold rtext
  rw [if_pos h1, if_pos h2, if_pos h3]
  simp
/-- the machine of a text -/
def rdM (bs : List UInt8) : Option Tri := match wordsB bs with
  | [w0, w1, w2, w3] => if ((rdR w0).isSome && (rdR w1).isSome && (rdR w2).isSome && (rdDec w3).isSome) && decide (strB (mtext ⟨rdReg w0, rdReg w1, rdReg w2, rdN w3⟩) = bs) then some ⟨rdReg w0, rdReg w1, rdReg w2, rdN w3⟩ else none
  | _ => none
theorem isSome_R {w : List UInt8} (h : (rdR w).isSome = true) : (rdReg w).ok = true ∧ rtextL (rdReg w).base (rdReg w).digits = w := by
  obtain ⟨r, hr⟩ := Option.isSome_iff_exists.1 h
  rw [(rdr_some hr).1]; exact rdR_sound hr
theorem isSome_N {w : List UInt8} (h : (rdDec w).isSome = true) : dec (rdN w) = w := by
  obtain ⟨r, hr⟩ := Option.isSome_iff_exists.1 h
  rw [(rd_some hr).1]; exact rdDec_sound hr
theorem rdM_text {t : Tri} (h : vmach t = true) : rdM (strB (mtextL t)) = some t ∧ splitB 32 (strB (mtextL t)) = [rtextL t.a.base t.a.digits, rtextL t.b.base t.b.digits, rtextL t.s.base t.s.digits, dec t.carry] := by
  obtain ⟨h1, h2, h3, h4, h5⟩ := vmach_parts h
  have e32 : (32 : UInt8).toNat = 32 := rfl
  have hsp : splitB 32 (strB (mtextL t)) = [rtextL t.a.base t.a.digits, rtextL t.b.base t.b.digits, rtextL t.s.base t.s.digits, dec t.carry] := by
    rw [strB_mtextL h, ← e32, splitB_at 32 _ _ (no32 h1), splitB_at 32 _ _ (no32 h2), splitB_at 32 _ _ (no32 h3), splitB_none 32 _ (not_mem_dec _ (by decide) (by left; decide))]
  have hw : wordsB (strB (mtextL t)) = [rtextL t.a.base t.a.digits, rtextL t.b.base t.b.digits, rtextL t.s.base t.s.digits, dec t.carry] := by
    unfold wordsB
    rw [hsp, List.filter_eq_self]
    intro x hx
    simp only [List.mem_cons, List.not_mem_nil, or_false] at hx
    rcases hx with rfl | rfl | rfl | rfl
    · simpa using rtextL_ne _ _
    · simpa using rtextL_ne _ _
    · simpa using rtextL_ne _ _
    · simpa using dec_ne _
  have q1 := rdr_some (rdR_text h1)
  have q2 := rdr_some (rdR_text h2)
  have q3 := rdr_some (rdR_text h3)
  have q4 := rd_some (rdDec_dec t.carry (by omega))
  refine ⟨?_, hsp⟩
  unfold rdM
  rw [hw]
  simp only []
  rw [q1.1, q1.2, q2.1, q2.2, q3.1, q3.2, q4.1, q4.2]
  have e : (⟨⟨t.a.base, t.a.digits⟩, ⟨t.b.base, t.b.digits⟩, ⟨t.s.base, t.s.digits⟩, t.carry⟩ : Tri) = t := rfl
  have e2 : mtext t = mtextL t := by unfold mtext; rw [if_pos h]
  rw [e, e2]; simp
theorem rdM_sound {bs : List UInt8} {t : Tri} (h : rdM bs = some t) : vmach t = true ∧ strB (mtextL t) = bs := by
  unfold rdM at h
  split at h
  · rename_i w0 w1 w2 w3 hw
    split at h
    · rename_i hc
      injection h with h
      simp only [Bool.and_eq_true, decide_eq_true_eq] at hc
      obtain ⟨-, hm⟩ := hc
      rw [h] at hm
      rcases hv : vmach t with _ | _
      · unfold mtext at hm; rw [hv] at hm
        have : bs = [] := by rw [← hm]; rfl
        subst this
        simp [wordsB, splitB] at hw
      · unfold mtext at hm; rw [hv] at hm; exact ⟨rfl, hm⟩
    · cases h
  · cases h
theorem rdM_spec (bs : List UInt8) : rdM bs = match splitB 32 bs with
    | [w0, w1, w2, w3] => if ((rdR w0).isSome && (rdR w1).isSome && (rdR w2).isSome && (rdDec w3).isSome) && vmach ⟨rdReg w0, rdReg w1, rdReg w2, rdN w3⟩ then some ⟨rdReg w0, rdReg w1, rdReg w2, rdN w3⟩ else none
    | _ => none := by
  cases h : rdM bs with
  | some t =>
    obtain ⟨hv, hm⟩ := rdM_sound h
    obtain ⟨-, hsp⟩ := rdM_text hv
    rw [hm] at hsp
    rw [hsp]
    simp only []
    obtain ⟨h1, h2, h3, h4, h5⟩ := vmach_parts hv
    have q1 := rdr_some (rdR_text h1)
    have q2 := rdr_some (rdR_text h2)
    have q3 := rdr_some (rdR_text h3)
    have q4 := rd_some (rdDec_dec t.carry (by omega))
    rw [q1.1, q1.2, q2.1, q2.2, q3.1, q3.2, q4.1, q4.2]
    have e : (⟨⟨t.a.base, t.a.digits⟩, ⟨t.b.base, t.b.digits⟩, ⟨t.s.base, t.s.digits⟩, t.carry⟩ : Tri) = t := rfl
    rw [e, hv]; simp
  | none =>
    split
    · rename_i w0 w1 w2 w3 hsp
      split
      · rename_i hc
        exfalso
        simp only [Bool.and_eq_true] at hc
        obtain ⟨⟨⟨⟨c0, c1⟩, c2⟩, c3⟩, hv⟩ := hc
        have t0 := (isSome_R c0).2
        have t1 := (isSome_R c1).2
        have t2 := (isSome_R c2).2
        have t3 := isSome_N c3
        rcases split_join hsp with ⟨h1, -⟩ | ⟨y1, e1, hs1⟩
        · cases h1
        rcases split_join hs1 with ⟨h1, -⟩ | ⟨y2, e2, hs2⟩
        · cases h1
        rcases split_join hs2 with ⟨h1, -⟩ | ⟨y3, e3, hs3⟩
        · cases h1
        rcases split_join hs3 with ⟨-, e4⟩ | ⟨y4, e4, hs4⟩
        · have hm := strB_mtextL hv
          simp only [] at hm
          rw [t0, t1, t2, t3] at hm
          have : strB (mtextL ⟨rdReg w0, rdReg w1, rdReg w2, rdN w3⟩) = bs := by rw [hm, e1, e2, e3, e4]
          have h2 := (rdM_text hv).1
          rw [this, h] at h2; cases h2
        · exact splitB_ne 32 y4 hs4
      · rfl
    · rfl
end Go.Proofs.YtgljafiegpjlkaaGreatDoor

namespace Go.Proofs.YtgljafiegpjlkaaGreatDoor
open Go.RowKit Go.Sort
def rdMach (bs : List UInt8) : Tri := (rdM bs).getD zTri
theorem rdm_none {bs : List UInt8} (h : rdM bs = none) : rdMach bs = zTri ∧ (rdM bs).isSome = false := by simp [rdMach, h]
theorem rdm_some {bs : List UInt8} {r : Tri} (h : rdM bs = some r) : rdMach bs = r ∧ (rdM bs).isSome = true := by simp [rdMach, h]
theorem rdReg_len (bs : List UInt8) : (rdReg bs).digits.length ≤ 16 := by
  cases h : rdR bs with
  | none => rw [(rdr_none h).1]; simp
  | some r => rw [(rdr_some h).1]; exact (ok_bd (rdR_sound h).1).2.2
theorem words_each (bs : List UInt8) : ∀ x ∈ wordsB bs, x.length ≤ bs.length := fun x hx => splitB_each 32 bs x (List.mem_filter.1 hx).1
theorem Kn.sw6 {w0 w : World} {m : List Ent} {a b c d e f g : Ent} (h : Kn w0 (a :: b :: c :: d :: e :: f :: g :: m) w) : Kn w0 (g :: a :: b :: c :: d :: e :: f :: m) w := h.perm (by
  have := (List.perm_middle (a := g) (l₁ := [a, b, c, d, e, f]) (l₂ := m)); simpa using this)
end Go.Proofs.YtgljafiegpjlkaaGreatDoor

namespace Go.Proofs.YtgljafiegpjlkaaGreatDoor
open Go.RowKit Go.Sort
/-! rows of strings -/
def StrM (w : World) (p : Addr) (s : ByteArray) : Prop := w.cell? p = some (.string s)
theorem steady_StrM : Steady StrM := by
  intro w w' p s hp hb h
  unfold StrM at *
  rw [hb.cell hp]; exact h
def rowSN (A : Option Addr) (n c : Nat) (ss : List ByteArray) : Ent := .row (.slice A n c) 9 1 n (ss.map Value.string)
theorem Kn.rlSN {w0 w : World} {m : List Ent} {A : Option Addr} {n c : Nat} {ss : List ByteArray} (h : Kn w0 (rowSN A n c ss :: m) w) : ss.length = n ∧ RL StrM 1 w A n ss := by
  have h0 : w.ownsRow 0 9 1 (.slice A n c) n (ss.map Value.string) := h.at0
  have hl : ss.length = n := by have := h0.1; simpa using this
  refine ⟨hl, hl, fun hn => ?_⟩
  rcases h0.2 with ⟨hv, hn'⟩ | ⟨g, cap, cur, hv, -, hg, -⟩
  · omega
  · injection hv with h1 h2 h3
    refine ⟨_, h1, (Array.getElem?_eq_some_iff.1 hg).1, fun k hk => ?_⟩
    rw [h1] at h0
    have := h0.cells (g := g) rfl k _ (by rw [List.getElem?_map, List.getElem?_eq_getElem hk]; rfl)
    rw [Nat.mul_one]
    exact this
theorem Kn.rlS {w0 w : World} {m : List Ent} {A : Option Addr} {n c : Nat} {ss : List ByteArray} (h : Kn w0 (rowS (.slice A n c) ss :: m) w) : n = ss.length ∧ RL StrM 1 w A n ss := by
  have h0 : w.ownsRow 0 9 1 (.slice A n c) ss.length (ss.map Value.string) := h.at0
  have hn : n = ss.length := by
    rcases h0.2 with ⟨hv, hn'⟩ | ⟨g, cap, cur, hv, -, hg, -⟩
    · injection hv with h1 h2 h3; omega
    · injection hv
  subst hn
  exact ⟨rfl, (Kn.rlSN (m := m) (c := c) h).2⟩
def totS (ss : List ByteArray) : Nat := (ss.map (·.size)).sum
theorem totS_mem {ss : List ByteArray} {s : ByteArray} (h : s ∈ ss) : s.size ≤ totS ss := by
  induction ss with
  | nil => cases h
  | cons a l ih =>
    unfold totS at *
    rw [List.map_cons, List.sum_cons]
    rcases List.mem_cons.1 h with rfl | h
    · omega
    · have := ih h; omega
theorem totS_snoc (ss : List ByteArray) (s : ByteArray) : totS (ss ++ [s]) = totS ss + s.size := by simp [totS]
theorem info_str : (Tryz.prog.info? 9).map (fun i => (i.zero, i.size, i.bytes)) = some (some (.string ⟨#[]⟩), 1, 16) := by kernel_rfl
set_option maxHeartbeats 1600000 in
theorem eqStringS_same (A B : Option Addr) (n c d : Nat) (xs : List ByteArray) (w : World) (hr : RL StrM 1 w A n xs) (hs : RL StrM 1 w B n xs) (hm : n ≤ 1048576) :
    Calls Tryz.prog 54 #[.slice A n c, .slice B n d] w fun e w' => e = .returned (.bool true) ∧ ∃ q, w' = w.drewN q := by
  have HR := Lib.hid hr
  have HS := Lib.hid hs
  clear hr hs
  go_enter Tryz.func54, Tryz.ntmps54
  go_wp2_with fail
  go_loopw [5] (fun i wr => ∃ (k : Nat), k ≤ n ∧ i = .int .i64 k ∧ ∃ q, wr = w.drewN q) (fun i _ => n - (intOf i).toNat)
  case atStart => exact ⟨0, Nat.zero_le _, rfl, 0, rfl⟩
  case round =>
    obtain ⟨k, hk, rfl, q, rfl⟩ := hrel
    by_cases hkn : k < n
    · obtain ⟨ad, hA, hlt, hkl, hx⟩ := HR.out.at_ hkn
      obtain ⟨bd, hB, hlt2, hkl2, hy⟩ := HS.out.at_ hkn
      unfold StrM at hx hy
      rw [Nat.mul_one] at hx hy
      obtain ⟨x, hxe⟩ : ∃ x, xs[k] = x := ⟨_, rfl⟩
      rw [hxe] at hx hy
      have hi0 : (0 : Int) ≤ (k : Int) := by omega
      have hi1 : (k : Int) < (n : Int) := by omega
      have hxx : (x.toList == x.toList) = true := by simp
      subst hA
      subst hB
      clear hxe hlt hlt2
      go_wp2_with fail
      go_quiet (fail)
      go_wp2_with fail
      go_roundw
      case rel => exact ⟨k + 1, by omega, by go_num, by first | exact ⟨_, rfl⟩ | exact ⟨_, World.drewN_drewN _ _ _⟩⟩
      case measure => simp [intOf]; omega
    · have hi1 : ¬ (k : Int) < (n : Int) := by omega
      go_wp2_with fail
      go_ret
      exact ⟨rfl, q, rfl⟩
end Go.Proofs.YtgljafiegpjlkaaGreatDoor

namespace Go.Proofs.YtgljafiegpjlkaaGreatDoor
open Go.RowKit Go.Sort
/-! marks of strings -/
def mkT (k : Int) : ByteArray := ⟨(109 :: digs k.toNat).toArray⟩
def marksS (k : Int) (n : Nat) : List ByteArray := (List.range n).map (fun (i : Nat) => mkT (k + (i : Int)))
theorem marksS_len (k : Int) (n : Nat) : (marksS k n).length = n := by simp [marksS]
theorem marksS_get (k : Int) (n i : Nat) (h : i < (marksS k n).length) : (marksS k n)[i] = mkT (k + i) := by simp [marksS]
theorem eqS_same (A B : Option Addr) (n c d : Nat) (xs : List ByteArray) (w : World) (hr : RL StrM 1 w A n xs) (hs : RL StrM 1 w B n xs) (hm : n ≤ 1048576) :
    Calls Tryz.prog 54 #[.slice A n c, .slice B n d] w fun e w' => e = .returned (.bool true) ∧ Below w.heap.size w w' := by
  refine (eqStringS_same A B n c d xs w hr hs hm).mono ?_
  rintro e w' ⟨rfl, q, rfl⟩
  exact ⟨rfl, drewN_below q⟩
theorem size_app (a b : ByteArray) : (a ++ b).size = a.size + b.size := ByteArray.size_append
theorem strB_app (a b : ByteArray) : strB (a ++ b) = strB a ++ strB b := by unfold strB; simp
set_option maxHeartbeats 800000 in
theorem markText_any (u0 : Nat) (w : World) (h0 : 0 < u0) (h1 : u0 ≤ 100000000) :
    Calls Tryz.prog 126 #[.int .i64 u0] w fun e w' => e = .returned (.string (mkT u0)) ∧ Below w.heap.size w w' := by
  have hlen := digs_len (u0 : Int) (by omega) (by omega)
  have hu0 : ((u0 : Int)).natAbs = u0 := by omega
  rw [hu0] at hlen
  have hp : ¬ (u0 : Int) ≤ 0 := by omega
  clear hu0
  go_enter Tryz.func126, Tryz.ntmps126
  go_wp2_with fail
  clear hp
  go_loopw [0, 3] (fun k o wr => ∃ (u : Nat) (s : ByteArray), u ≤ u0 ∧ k = .int .i64 u ∧ o = .string s ∧ digs u0 = digs u ++ strB s ∧ Below w.heap.size w wr) (fun k _ _ => (intOf k).natAbs)
  case atStart => exact ⟨u0, ⟨#[]⟩, Nat.le_refl _, rfl, rfl, by simp [strB], Below.refl _ _⟩
  case round =>
    obtain ⟨u, s, hu, rfl, rfl, hdg, hbr⟩ := hrel
    have hbl : s.size ≤ 21 := by rw [hdg] at hlen; simp [strB_len] at hlen; omega
    have HG := Lib.hid hdg; clear hdg
    rcases Nat.eq_zero_or_pos u with hu1 | hu1
    · subst hu1
      have HE : Hid (mkT u0 = (⟨#[109]⟩ : ByteArray) ++ s) := by
        have hg := HG.out
        rw [show digs 0 = [] from rfl, List.nil_append] at hg
        unfold mkT
        rw [Hid, Int.toNat_natCast, str_eq, strB_app, hg]
        rfl
      go_wp2_with fail
      go_ret
      exact ⟨ret_str HE.out.symm, hbr⟩
    · have HN : Hid (digs u0 = digs (u / 10) ++ (UInt8.ofNat (48 + u % 10) :: strB s)) := by rw [Hid, HG.out, digs_step u (by omega)]; simp
      have hi1 : (0 : Int) < (u : Int) := by omega
      obtain ⟨d, hd⟩ : ∃ d : Nat, u % 10 = d := ⟨_, rfl⟩
      have hd1 : d < 10 := by omega
      obtain ⟨q, hq⟩ : ∃ q : Nat, u / 10 = q := ⟨_, rfl⟩
      have hq1 : q < u := by omega
      have t1 : (u : Int).tmod 10 = (d : Int) := by rw [Int.tmod_eq_emod_of_nonneg (by omega)]; omega
      have t2 : (u : Int).tdiv 10 = (q : Int) := by rw [Int.tdiv_eq_ediv_of_nonneg (by omega)]; omega
      have t3 : (u : Int) % 10 = (d : Int) := by omega
      have t4 : (u : Int) / 10 = (q : Int) := by omega
      rw [hq, hd] at HN
      have hbv : byteV (UInt8.ofNat (48 + d)) = .int .u8 (48 + (d : Int)) := by
        unfold byteV
        congr 1
        rw [UInt8.toNat_ofNat']
        omega
      obtain ⟨bb, hbb⟩ : ∃ b, UInt8.ofNat (48 + d) = b := ⟨_, rfl⟩
      rw [hbb] at hbv HN
      have hcv := conv_bytes (wr.alloc (.cells #[.int .u8 (48 + (d : Int))] 5)) (some ⟨wr.heap.size, 0, none⟩) 1 1 [bb] ⟨rfl, fun _ => ⟨_, rfl, by simp, fun j u hu => by
        cases j with
        | zero =>
          simp at hu; subst hu
          rw [hbv]
          exact (cell_of_row _ wr.heap.size _ _ 5 (0, 0) (heap_alloc_new _ _)).trans (by simp)
        | succ j => simp at hu⟩⟩
      have HQ := Lib.hid hq
      clear hd hq hbv hbb
      have hw1 : IntKind.u8.wrap (48 + (d : Int)) = 48 + d := wrapB (by omega)
      go_wp2_with fail
      go_roundw
      case rel => exact ⟨q, _, by omega, rfl, rfl, by rw [strB_app]; exact HN.out, hbr.alloc hbr.size _⟩
      case measure => simp [intOf]; omega
set_option maxRecDepth 100000 in
set_option maxHeartbeats 800000 in
theorem markS_kn (w0 : World) (m : List Ent) (A : Option Addr) (n c : Nat) (ss : List ByteArray) (k : Int) (w : World) (hK : Kn w0 (rowSN A n c ss :: m) w) (h0 : 1 ≤ k) (hk : k + n ≤ 40000000) :
    Calls Tryz.prog 56 #[.slice A n c, .int .i64 k] w fun e w' => e = .returned (.int .i64 (k + n)) ∧ Kn w0 (rowSN A n c (marksS k n) :: m) w' := by
  obtain ⟨k0, rfl⟩ : ∃ k0 : Nat, k = (k0 : Int) := ⟨k.toNat, by omega⟩
  have hl := hK.rlSN.1
  rcases Nat.eq_zero_or_pos n with hn | hn
  · subst hn
    obtain rfl : ss = [] := List.eq_nil_of_length_eq_zero hl
    go_enter Tryz.func56, Tryz.ntmps56
    go_wp2_with fail
    go_loopw [1, 5] (fun kk i wr => i = .int .i64 0 ∧ kk = .int .i64 k0 ∧ w = wr) (fun _ i _ => 0)
    case atStart => exact ⟨rfl, rfl, rfl⟩
    case round =>
      obtain ⟨rfl, rfl, rfl⟩ := hrel
      go_wp2_with fail
      go_ret
      exact ⟨ret_int (by simp), by simpa [marksS] using hK⟩
  · obtain ⟨g, c', hv⟩ := Kn.rowForm hK hn
    injection hv with hv1 hv2 hv3
    subst hv1
    clear hv2 hv3
    go_enter Tryz.func56, Tryz.ntmps56
    go_wp2_with fail
    go_loopw [1, 5] (fun kk i wr => ∃ (j : Nat) (cs : List Value), j ≤ n ∧ i = .int .i64 j ∧ kk = .int .i64 ((k0 + j : Nat) : Int) ∧ Kn w0 (.row (.slice (some ⟨g, 0, none⟩) n c) 9 1 n cs :: m) wr ∧ (∀ (i : Nat), i < j → cs[i]? = some (.string (mkT (k0 + i))))) (fun _ i _ => n - (intOf i).toNat)
    case atStart => exact ⟨0, _, Nat.zero_le _, rfl, rfl, hK, fun i h => by omega⟩
    case round =>
      clear hK
      obtain ⟨j, cs, hj, rfl, rfl, hK, hcs⟩ := hrel
      have hcl : cs.length = n * 1 := (show wr.ownsRow 0 9 1 _ n cs from hK.at0).1
      have HCS := Lib.hid hcs
      have HCL := Lib.hid hcl
      by_cases hkn : j < n
      · obtain ⟨N, hN⟩ : ∃ N, k0 + j = N := ⟨_, rfl⟩
        rw [hN]
        have KM := (markText_any N wr (by omega) (by omega))
        obtain ⟨T, hT⟩ : ∃ T, mkT (N : Int) = T := ⟨_, rfl⟩
        rw [hT] at KM
        have KM := Lib.hid KM
        have HN := Lib.hid hN
        have HT := Lib.hid hT
        have hNb : N ≤ 40000000 := by omega
        have hi0 : (0 : Int) ≤ (j : Int) := by omega
        have hi1 : (j : Int) < (n : Int) := by omega
        obtain ⟨u0, hu0⟩ : ∃ u, cs[j]? = some u := ⟨_, List.getElem?_eq_getElem (by omega)⟩
        have HU := Lib.hid hu0
        clear hN hT hcs hcl hu0
        go_wp2_with fail
        refine KM.out.mono ?_; rintro e w1 ⟨rfl, hw⟩
        have hK1 := hK.keep hw
        obtain ⟨y1, y2⟩ := Kn.rowCell hK1 HU.out
        clear hK hw
        go_wp2_with fail
        go_roundw
        case rel =>
          refine ⟨j + 1, _, by omega, by go_num, by rw [← HN.out]; go_num, hK1.rowSt j (.string T), fun i h => ?_⟩
          have hcl := HCL.out
          rcases Nat.lt_or_ge i j with h1 | h1
          · rw [List.getElem?_set_ne (by omega)]
            exact HCS.out i h1
          · obtain rfl : i = j := by omega
            rw [List.getElem?_set_self (by omega), ← HT.out, ← HN.out, Int.natCast_add]
        case measure => simp [intOf]; omega
      · have hce : cs = (marksS k0 n).map Value.string := by
          apply List.ext_getElem?
          intro i
          by_cases hi : i < n
          · rw [hcs i (by omega), List.getElem?_map, List.getElem?_eq_getElem (by rw [marksS_len]; exact hi), marksS_get]; rfl
          · rw [List.getElem?_eq_none (by omega), List.getElem?_eq_none (by rw [List.length_map, marksS_len]; omega)]
        have HCE := Lib.hid hce
        have hi1 : ¬ (j : Int) < (n : Int) := by omega
        obtain rfl : j = n := by omega
        clear hcs hcl hce
        go_wp2_with fail
        go_ret
        exact ⟨ret_int (by omega), by unfold rowSN; rw [← HCE.out]; exact hK⟩
set_option maxRecDepth 100000 in
set_option maxHeartbeats 800000 in
theorem heldS_any (A : Option Addr) (n c : Nat) (k : Int) (w : World) (hr : RL StrM 1 w A n (marksS k n)) (h0 : 1 ≤ k) (hk : k + n ≤ 40000000) :
    Calls Tryz.prog 58 #[.slice A n c, .int .i64 k] w fun e w' => e = .returned (.int .i64 (k + n)) ∧ Below w.heap.size w w' := by
  obtain ⟨k0, rfl⟩ : ∃ k0 : Nat, k = (k0 : Int) := ⟨k.toNat, by omega⟩
  have HR := Lib.hid (fun W (hW : Below w.heap.size w W) => hr.below steady_StrM hW)
  clear hr
  go_enter Tryz.func58, Tryz.ntmps58
  go_wp2_with fail
  go_loopw [1, 5] (fun kk i wr => ∃ (j : Nat), j ≤ n ∧ i = .int .i64 j ∧ kk = .int .i64 ((k0 + j : Nat) : Int) ∧ Below w.heap.size w wr) (fun _ i _ => n - (intOf i).toNat)
  case atStart => exact ⟨0, Nat.zero_le _, rfl, rfl, Below.refl _ _⟩
  case round =>
    obtain ⟨j, hj, rfl, rfl, hb⟩ := hrel
    by_cases hkn : j < n
    · obtain ⟨N, hN⟩ : ∃ N, k0 + j = N := ⟨_, rfl⟩
      rw [hN]
      have KM := (fun W => markText_any N W (by omega) (by omega))
      obtain ⟨T, hT⟩ : ∃ T, mkT (N : Int) = T := ⟨_, rfl⟩
      rw [hT] at KM
      obtain ⟨ad, hA, hlt, hkl, hx⟩ := (HR.out wr hb).at_ hkn
      unfold StrM at hx
      rw [Nat.mul_one, marksS_get, show (k0 : Int) + (j : Int) = (N : Int) by omega, hT] at hx
      have KM := Lib.hid KM
      have HN := Lib.hid hN
      have hNb : N ≤ 40000000 := by omega
      have hi0 : (0 : Int) ≤ (j : Int) := by omega
      have hi1 : (j : Int) < (n : Int) := by omega
      have HX := Lib.hid (fun W (hW : Below wr.heap.size wr W) => (hW.cell (p := ad.add j) (by rw [block_of_add]; exact hlt)).trans hx)
      have HG := Lib.hid (HX.out _ (Below.refl _ _).drew)
      have hTT : (T.toList == T.toList) = true := by simp
      subst hA
      clear hN hT hkl
      go_wp2_with fail
      go_region_held3 (fun W => W.cell? (ad.add j) = some (.string T)) (first | with_reducible exact HG.out | exact HG.out) (
        (go_at_call 126; (refine (KM.out _).mono ?_); rintro e w1 ⟨rfl, hw⟩; have hw2 := (Below.refl wr.heap.size wr).drew.trans (hw.mono (by simp)); clear HG; have HG := Lib.hid (HX.out _ hw2)))
      all_goals
        go_wp2_with fail
        go_roundw
        case rel => exact ⟨j + 1, by omega, by go_num, by rw [← HN.out]; go_num, hb.trans (hw2.mono hb.size)⟩
        case measure => simp [intOf]; omega
    · have hi1 : ¬ (j : Int) < (n : Int) := by omega
      obtain rfl : j = n := by omega
      go_wp2_with fail
      go_ret
      exact ⟨ret_int (by omega), hb⟩
end Go.Proofs.YtgljafiegpjlkaaGreatDoor

namespace Go.Proofs.YtgljafiegpjlkaaGreatDoor
open Go.RowKit Go.Sort
/-! entries of a catalogue in memory -/
structure Etr where
  num : Int
  name : ByteArray
  maker : ByteArray
  year : Int
  words : List ByteArray
instance : Inhabited Etr := ⟨⟨0, ⟨#[]⟩, ⟨#[]⟩, 0, []⟩⟩
def EtrM (w : World) (p : Addr) (x : Etr) : Prop := ∃ A c, (A = none → c = 0) ∧ (w.cell? p = some (.int .i64 x.num) ∧ w.cell? ⟨p.block, p.off + 1, none⟩ = some (.string x.name) ∧ w.cell? ⟨p.block, p.off + 2, none⟩ = some (.string x.maker) ∧ w.cell? ⟨p.block, p.off + 3, none⟩ = some (.int .i64 x.year) ∧ w.cell? ⟨p.block, p.off + 4, none⟩ = some (.slice A x.words.length c)) ∧ RL StrM 1 w A x.words.length x.words
theorem steady_EtrM : Steady EtrM := by
  rintro w w' p x hp hb ⟨A, c, hn, ⟨h0, h1, h2, h3, h4⟩, h5⟩
  exact ⟨A, c, hn, ⟨by rw [hb.cell hp]; exact h0, by rw [hb.cell (by exact hp)]; exact h1, by rw [hb.cell (by exact hp)]; exact h2, by rw [hb.cell (by exact hp)]; exact h3, by rw [hb.cell (by exact hp)]; exact h4⟩, h5.below steady_StrM hb⟩
theorem Kn.noneCap {w0 w : World} {m : List Ent} {A : Option Addr} {n c : Nat} {ss : List ByteArray} (h : Kn w0 (rowSN A n c ss :: m) w) : A = none → c = 0 := fun hA => by
  have h0 : w.ownsRow 0 9 1 (.slice A n c) n (ss.map Value.string) := h.at0
  rcases h0.2 with ⟨hv, -⟩ | ⟨g, cap, cur, hv, -⟩
  · injection hv
  · injection hv with hv
    rw [hA] at hv
    cases hv
/-- an entry that the call owns -/
structure EE where
  t : Etr
  X : Option Addr
  x : Nat
def EE.cells (e : EE) : List Value := [.int .i64 e.t.num, .string e.t.name, .string e.t.maker, .int .i64 e.t.year, .slice e.X e.t.words.length e.x]
def EE.row (e : EE) : Ent := rowSN e.X e.t.words.length e.x e.t.words
def cellsE (L : List EE) : List Value := L.flatMap EE.cells
def rowsE (L : List EE) : List Ent := L.map EE.row
theorem cellsE_app (L M : List EE) : cellsE (L ++ M) = cellsE L ++ cellsE M := by unfold cellsE; rw [List.flatMap_append]
theorem rowsE_app (L M : List EE) : rowsE (L ++ M) = rowsE L ++ rowsE M := by unfold rowsE; rw [List.map_append]
theorem cellsE_len (L : List EE) : (cellsE L).length = L.length * 5 := by
  induction L with
  | nil => rfl
  | cons x L ih =>
    have h2 : cellsE (x :: L) = x.cells ++ cellsE L := by simp [cellsE]
    rw [h2, List.length_append, ih, List.length_cons, show x.cells.length = 5 from rfl]; omega
theorem cellsE_get : ∀ (L : List EE) (k : Nat) (x : EE), L[k]? = some x → ∀ j u, x.cells[j]? = some u → (cellsE L)[k * 5 + j]? = some u
  | [], k, x, h => by simp at h
  | y :: L, 0, x, h => by
    have h : y = x := by simpa using h
    subst h
    intro j u hu
    have hl : j < y.cells.length := by
      by_cases hj : j < y.cells.length
      · exact hj
      · rw [List.getElem?_eq_none (by omega)] at hu; cases hu
    have h2 : cellsE (y :: L) = y.cells ++ cellsE L := by simp [cellsE]
    rw [h2, List.getElem?_append_left (by omega), Nat.zero_mul, Nat.zero_add]
    exact hu
  | y :: L, k + 1, x, h => by
    intro j u hu
    have h1 := cellsE_get L k x (by simpa using h) j u hu
    have h2 : cellsE (y :: L) = y.cells ++ cellsE L := by simp [cellsE]
    have h3 : y.cells.length = 5 := rfl
    rw [h2, List.getElem?_append_right (by omega), h3, show (k + 1) * 5 + j - 5 = k * 5 + j by omega]
    exact h1
/-- entries that the call owns, read as a list -/
theorem Kn.rlE {w0 w : World} {m : List Ent} {vt : Value} {L : List EE} (h : Kn w0 (.row vt 27 5 L.length (cellsE L) :: bunA (rowsE L) :: m) w) :
    ∃ A c, vt = .slice A L.length c ∧ RL EtrM 5 w A L.length (L.map (·.t)) := by
  obtain ⟨A, c, rfl⟩ := row_form h.at0
  refine ⟨A, c, rfl, by rw [List.length_map], fun h0 => ?_⟩
  have hr : w.ownsRow 0 27 5 (.slice A L.length c) L.length (cellsE L) := h.at0
  rcases hr.2 with ⟨hv, hn⟩ | ⟨g, cap, cur, hv, -, hg, -⟩
  · injection hv with h1 h2 h3
    omega
  · injection hv with h1 h2 h3
    refine ⟨_, h1, (Array.getElem?_eq_some_iff.1 hg).1, fun k hk => ?_⟩
    have hk' : k < L.length := by rw [List.length_map] at hk; exact hk
    rw [List.getElem_map]
    have hx : L[k]? = some L[k] := List.getElem?_eq_getElem hk'
    have hm : L[k].row ∈ rowsE L := List.mem_map.2 ⟨_, List.getElem_mem hk', rfl⟩
    have r1 := (Kn.rlSN ((h.front 1 rfl).bunAPick hm)).2
    rw [h1] at hr
    have hc : ∀ j u, (L[k].cells)[j]? = some u → w.cell? ⟨g, k * 5 + j, none⟩ = some u := fun j u hu => by
      have hq := hr.cells (g := g) rfl _ _ (cellsE_get L k _ hx j u hu)
      rw [add_zero_block] at hq
      exact hq
    rw [add_zero_block]
    exact ⟨_, _, Kn.noneCap ((h.front 1 rfl).bunAPick hm), ⟨hc 0 _ rfl, hc 1 _ rfl, hc 2 _ rfl, hc 3 _ rfl, hc 4 _ rfl⟩, r1⟩
end Go.Proofs.YtgljafiegpjlkaaGreatDoor

namespace Go.Proofs.YtgljafiegpjlkaaGreatDoor
open Go.RowKit Go.Sort
/-! names -/
def smallB (b : UInt8) : Bool := decide (97 ≤ b.toNat) && decide (b.toNat ≤ 122)
def nmB (i : Nat) (b : UInt8) : Bool := smallB b || (decide (i ≠ 0) && (decide (b.toNat = 45) || isD b))
def nameP (bs : List UInt8) (k : Nat) : Bool := (List.range k).all fun i => nmB i (bs.getD i 0)
def nameOk (bs : List UInt8) : Bool := decide (1 ≤ bs.length) && decide (bs.length ≤ 12) && nameP bs bs.length
theorem nameP_succ (bs : List UInt8) (k : Nat) : nameP bs (k + 1) = (nameP bs k && nmB k (bs.getD k 0)) := by
  unfold nameP
  rw [List.range_succ, List.all_append]; simp
theorem nameP_not {bs : List UInt8} {k n : Nat} (h : k < n) (h0 : nmB k (bs.getD k 0) = false) : nameP bs n = false := by
  unfold nameP
  rw [List.all_eq_false]
  exact ⟨k, List.mem_range.2 h, by simpa using h0⟩
theorem l01Small_any (b : UInt8) (w : World) : Calls Tryz.prog 203 #[.int .u8 (b.toNat : Int)] w fun e w' => e = .returned (.bool (smallB b)) ∧ w = w' := by
  obtain ⟨z, hz⟩ : ∃ z : Nat, b.toNat = z := ⟨_, rfl⟩
  have HB := Lib.hid (show smallB b = (decide (97 ≤ z) && decide (z ≤ 122)) by unfold smallB; rw [hz])
  rw [hz]
  clear hz
  by_cases h1 : 97 ≤ z
  · by_cases h2 : z ≤ 122
    · have i1 : (97 : Int) ≤ (z : Int) := by omega
      have i2 : (z : Int) ≤ 122 := by omega
      go_enter Tryz.func203, Tryz.ntmps203
      go_wp2
      go_ret
      exact ⟨ret_bool (by rw [HB.out, decide_eq_true h1, decide_eq_true h2]; rfl), rfl⟩
    · have i1 : ¬ (z : Int) < 97 := by omega
      have i2 : ¬ (z : Int) ≤ 122 := by omega
      go_enter Tryz.func203, Tryz.ntmps203
      go_wp2
      go_ret
      exact ⟨ret_bool (by rw [HB.out, decide_eq_true h1, decide_eq_false h2]; rfl), rfl⟩
  · have i1 : (z : Int) < 97 := by omega
    go_enter Tryz.func203, Tryz.ntmps203
    go_wp2
    go_ret
    exact ⟨ret_bool (by rw [HB.out, decide_eq_false h1]; rfl), rfl⟩
set_option maxHeartbeats 1600000 in
theorem IsName_any (s : ByteArray) (w : World) (hs : s.size ≤ 9223372036854775807) :
    Calls Tryz.prog 131 #[.string s] w fun e w' => e = .returned (.bool (nameOk (strB s))) ∧ w = w' := by
  have HXL := Lib.hid (strB_len s)
  have HR := Lib.hid (show nameOk (strB s) = (decide (1 ≤ s.size) && decide (s.size ≤ 12) && nameP (strB s) s.size) by unfold nameOk; rw [strB_len])
  obtain ⟨R, hR⟩ : ∃ R, nameOk (strB s) = R := ⟨_, rfl⟩
  rw [hR] at HR ⊢
  clear hR
  by_cases h0 : s.size = 0
  · have i1 : (s.size : Int) = 0 := by omega
    go_enter Tryz.func131, Tryz.ntmps131
    go_wp2
    go_ret
    exact ⟨ret_bool (by rw [HR.out, h0]; rfl), rfl⟩
  by_cases h12 : s.size ≤ 12
  rotate_left
  · have i1 : ¬ (s.size : Int) = 0 := by omega
    have i2 : ¬ (s.size : Int) ≤ 12 := by omega
    go_enter Tryz.func131, Tryz.ntmps131
    go_wp2
    go_ret
    exact ⟨ret_bool (by rw [HR.out, decide_eq_false h12]; simp), rfl⟩
  have i1 : ¬ (s.size : Int) = 0 := by omega
  have i2 : ¬ (12 : Int) < (s.size : Int) := by omega
  go_enter Tryz.func131, Tryz.ntmps131
  go_wp2_with fail
  go_loopw [15] (fun ii wr => ∃ k : Nat, k ≤ s.size ∧ ii = .int .i64 k ∧ nameP (strB s) k = true ∧ w = wr) (fun ii _ => s.size - (intOf ii).toNat)
  case atStart => exact ⟨0, Nat.zero_le _, rfl, rfl, rfl⟩
  case round =>
    obtain ⟨k, hk, rfl, hall, rfl⟩ := hrel
    have HA := Lib.hid hall
    clear hall
    by_cases hkn : k < s.size
    · obtain ⟨q, hq⟩ : ∃ q : UInt8, s[k] = q := ⟨_, rfl⟩
      obtain ⟨z, hz⟩ : ∃ z : Nat, q.toNat = z := ⟨_, rfl⟩
      have hg : (strB s).getD k 0 = q := by
        rw [List.getD_eq_getElem?_getD, List.getElem?_eq_getElem (by rw [strB_len]; exact hkn), ← hq]
        show (strB s)[k] = s[k]
        rw [strB_get s hkn]
        rfl
      have HT := Lib.hid (show nameP (strB s) (k + 1) = (nameP (strB s) k && nmB k q) by rw [nameP_succ, hg])
      have HNOT := Lib.hid (fun (h : nmB k q = false) => show nameP (strB s) s.size = false from nameP_not hkn (by rw [hg]; exact h))
      have HB := Lib.hid (show nmB k q = ((decide (97 ≤ z) && decide (z ≤ 122)) || (decide (k ≠ 0) && (decide (z = 45) || isD q))) by unfold nmB smallB; rw [hz])
      have KD := (fun W => isDigit_any z q hz W)
      have i0 : (0 : Int) ≤ (k : Int) := by omega
      have i3 : (k : Int) < (s.size : Int) := by omega
      clear hg
      by_cases h1 : 97 ≤ z ∧ z ≤ 122
      · have j1 : ¬ (z : Int) < 97 := by omega
        have j2 : ¬ (122 : Int) < (z : Int) := by omega
        have HNM := Lib.hid (show nmB k q = true by rw [HB.out, decide_eq_true h1.1, decide_eq_true h1.2]; rfl)
        go_wp2_with (first | (go_at_call 140; refine (KD _).mono ?_; rintro e w' ⟨rfl, rfl⟩) | (go_at_call 141; refine (KG _).mono ?_; rintro e w' ⟨rfl, rfl⟩) | (go_at_call 203; refine (KS _).mono ?_; rintro e w' ⟨rfl, rfl⟩))
        go_roundw
        case rel => exact ⟨k + 1, by omega, by go_num, by rw [HT.out, HA.out, HNM.out]; rfl, by first | rfl | trivial⟩
        case measure => simp [intOf]; omega
      · have HS : Hid ((decide (97 ≤ z) && decide (z ≤ 122)) = false) := by
          simp only [Hid, Bool.and_eq_false_iff, decide_eq_false_iff_not]; omega
        have hj : (z : Int) < 97 ∨ ¬ (z : Int) ≤ 122 := by omega
        rcases Nat.eq_zero_or_pos k with hk0 | hk0
        · subst hk0
          have HNM := Lib.hid (show nmB 0 q = false by rw [HB.out, HS.out]; rfl)
          rcases hj with j1 | j1
          · go_wp2_with (first | (go_at_call 140; refine (KD _).mono ?_; rintro e w' ⟨rfl, rfl⟩) | (go_at_call 141; refine (KG _).mono ?_; rintro e w' ⟨rfl, rfl⟩) | (go_at_call 203; refine (KS _).mono ?_; rintro e w' ⟨rfl, rfl⟩))
            go_ret
            exact ⟨ret_bool (by rw [HR.out, HNOT.out HNM.out]; simp), rfl⟩
          · have j2 : ¬ (z : Int) < 97 := by omega
            go_wp2_with (first | (go_at_call 140; refine (KD _).mono ?_; rintro e w' ⟨rfl, rfl⟩) | (go_at_call 141; refine (KG _).mono ?_; rintro e w' ⟨rfl, rfl⟩) | (go_at_call 203; refine (KS _).mono ?_; rintro e w' ⟨rfl, rfl⟩))
            go_ret
            exact ⟨ret_bool (by rw [HR.out, HNOT.out HNM.out]; simp), rfl⟩
        · have hk1 : ¬ (k : Int) = 0 := by omega
          by_cases h45 : z = 45
          · have HNM := Lib.hid (show nmB k q = true by rw [HB.out, HS.out, decide_eq_true (by omega : k ≠ 0), decide_eq_true h45]; rfl)
            have j3 : (z : Int) = 45 := by omega
            have j1 : (z : Int) < 97 := by omega
            go_wp2_with (first | (go_at_call 140; refine (KD _).mono ?_; rintro e w' ⟨rfl, rfl⟩) | (go_at_call 141; refine (KG _).mono ?_; rintro e w' ⟨rfl, rfl⟩) | (go_at_call 203; refine (KS _).mono ?_; rintro e w' ⟨rfl, rfl⟩))
            go_roundw
            case rel => exact ⟨k + 1, by omega, by go_num, by rw [HT.out, HA.out, HNM.out]; rfl, by first | rfl | trivial⟩
            case measure => simp [intOf]; omega
          · have j3 : ¬ (z : Int) = 45 := by omega
            have j4 : ((z : Int) != 45) = true := by simpa using j3
            rcases hd : isD q with _ | _
            · have HNM := Lib.hid (show nmB k q = false by rw [HB.out, HS.out, decide_eq_true (by omega : k ≠ 0), decide_eq_false h45, hd]; rfl)
              rw [hd] at KD
              rcases hj with j1 | j1
              · go_wp2_with (first | (go_at_call 140; refine (KD _).mono ?_; rintro e w' ⟨rfl, rfl⟩) | (go_at_call 141; refine (KG _).mono ?_; rintro e w' ⟨rfl, rfl⟩) | (go_at_call 203; refine (KS _).mono ?_; rintro e w' ⟨rfl, rfl⟩))
                go_ret
                exact ⟨ret_bool (by rw [HR.out, HNOT.out HNM.out]; simp), rfl⟩
              · have j2 : ¬ (z : Int) < 97 := by omega
                go_wp2_with (first | (go_at_call 140; refine (KD _).mono ?_; rintro e w' ⟨rfl, rfl⟩) | (go_at_call 141; refine (KG _).mono ?_; rintro e w' ⟨rfl, rfl⟩) | (go_at_call 203; refine (KS _).mono ?_; rintro e w' ⟨rfl, rfl⟩))
                go_ret
                exact ⟨ret_bool (by rw [HR.out, HNOT.out HNM.out]; simp), rfl⟩
            · have HNM := Lib.hid (show nmB k q = true by rw [HB.out, HS.out, decide_eq_true (by omega : k ≠ 0), decide_eq_false h45, hd]; rfl)
              rw [hd] at KD
              rcases hj with j1 | j1
              · go_wp2_with (first | (go_at_call 140; refine (KD _).mono ?_; rintro e w' ⟨rfl, rfl⟩) | (go_at_call 141; refine (KG _).mono ?_; rintro e w' ⟨rfl, rfl⟩) | (go_at_call 203; refine (KS _).mono ?_; rintro e w' ⟨rfl, rfl⟩))
                go_roundw
                case rel => exact ⟨k + 1, by omega, by go_num, by rw [HT.out, HA.out, HNM.out]; rfl, by first | rfl | trivial⟩
                case measure => simp [intOf]; omega
              · have j2 : ¬ (z : Int) < 97 := by omega
                go_wp2_with (first | (go_at_call 140; refine (KD _).mono ?_; rintro e w' ⟨rfl, rfl⟩) | (go_at_call 141; refine (KG _).mono ?_; rintro e w' ⟨rfl, rfl⟩) | (go_at_call 203; refine (KS _).mono ?_; rintro e w' ⟨rfl, rfl⟩))
                go_roundw
                case rel => exact ⟨k + 1, by omega, by go_num, by rw [HT.out, HA.out, HNM.out]; rfl, by first | rfl | trivial⟩
                case measure => simp [intOf]; omega
    · obtain rfl : k = s.size := by omega
      have i3 : ¬ (s.size : Int) < (s.size : Int) := by omega
      go_wp2
      go_ret
      exact ⟨ret_bool (by rw [HR.out, HA.out, decide_eq_true h12, decide_eq_true (by omega)]; rfl), rfl⟩
set_option maxHeartbeats 1600000 in
theorem specIsName_any (s : ByteArray) (w : World) (hs : s.size ≤ 9223372036854775807) :
    Calls Tryz.prog 138 #[.string s] w fun e w' => e = .returned (.bool (nameOk (strB s))) ∧ w = w' := by
  have HXL := Lib.hid (strB_len s)
  have HR := Lib.hid (show nameOk (strB s) = (decide (1 ≤ s.size) && decide (s.size ≤ 12) && nameP (strB s) s.size) by unfold nameOk; rw [strB_len])
  have HE : s.toList.isEmpty = decide (s.size = 0) := by
    rw [strB_toList, ← strB_len]
    cases strB s <;> simp
  obtain ⟨R, hR⟩ : ∃ R, nameOk (strB s) = R := ⟨_, rfl⟩
  rw [hR] at HR ⊢
  clear hR
  by_cases h0 : s.size = 0
  · have i1 : (s.size : Int) = 0 := by omega
    rw [decide_eq_true h0] at HE
    go_enter Tryz.func138, Tryz.ntmps138
    go_wp2_with fail
    go_ret
    exact ⟨ret_bool (by rw [HR.out, h0]; rfl), rfl⟩
  rw [decide_eq_false h0] at HE
  by_cases h12 : s.size ≤ 12
  rotate_left
  · have i1 : ¬ (s.size : Int) = 0 := by omega
    have i2 : ¬ (s.size : Int) ≤ 12 := by omega
    go_enter Tryz.func138, Tryz.ntmps138
    go_wp2_with fail
    go_ret
    exact ⟨ret_bool (by rw [HR.out, decide_eq_false h12]; simp), rfl⟩
  have i1 : ¬ (s.size : Int) = 0 := by omega
  have i2 : ¬ (12 : Int) < (s.size : Int) := by omega
  have hpos : 0 < s.size := by omega
  have hposi : (0 : Int) < (s.size : Int) := by omega
  obtain ⟨q0, hq0⟩ : ∃ q : UInt8, s[0] = q := ⟨_, rfl⟩
  obtain ⟨z0, hz0⟩ : ∃ z : Nat, q0.toNat = z := ⟨_, rfl⟩
  have hg0 : (strB s).getD 0 0 = q0 := by
    rw [List.getD_eq_getElem?_getD, List.getElem?_eq_getElem (by rw [strB_len]; exact hpos), ← hq0]
    show (strB s)[0] = s[0]
    rw [strB_get s hpos]
    rfl
  have KS0 := (fun W => l01Small_any q0 W)
  rw [hz0] at KS0
  have HN0 := Lib.hid (fun (h : smallB q0 = false) => show nameP (strB s) s.size = false from nameP_not hpos (by rw [hg0]; unfold nmB; rw [h]; rfl))
  clear hg0
  obtain ⟨b0, hb0⟩ : ∃ b, smallB q0 = b := ⟨_, rfl⟩
  have HB0 := Lib.hid hb0
  rw [hb0] at KS0 HN0
  clear hb0
  rcases b0 with _ | _
  · go_enter Tryz.func138, Tryz.ntmps138
    go_wp2_with (go_at_call 203; refine (KS0 _).mono ?_; rintro e w' ⟨rfl, rfl⟩)
    go_ret
    exact ⟨ret_bool (by rw [HR.out, HN0.out trivial]; simp), rfl⟩
  clear HN0
  go_enter Tryz.func138, Tryz.ntmps138
  go_wp2_with (go_at_call 203; refine (KS0 _).mono ?_; rintro e w' ⟨rfl, rfl⟩)
  go_loopw [3] (fun ii wr => ∃ k : Nat, k ≤ s.size ∧ ii = .int .i64 k ∧ nameP (strB s) k = true ∧ w = wr) (fun ii _ => s.size - (intOf ii).toNat)
  case atStart => exact ⟨0, Nat.zero_le _, rfl, rfl, rfl⟩
  case round =>
    obtain ⟨k, hk, rfl, hall, rfl⟩ := hrel
    have HA := Lib.hid hall
    clear hall
    by_cases hkn : k < s.size
    · obtain ⟨q, hq⟩ : ∃ q : UInt8, s[k] = q := ⟨_, rfl⟩
      have HQ0 := Lib.hid (fun (h : k = 0) => show q = q0 by subst h; rw [← hq, ← hq0])
      clear hq0 hz0 KS0
      obtain ⟨z, hz⟩ : ∃ z : Nat, q.toNat = z := ⟨_, rfl⟩
      have hg : (strB s).getD k 0 = q := by
        rw [List.getD_eq_getElem?_getD, List.getElem?_eq_getElem (by rw [strB_len]; exact hkn), ← hq]
        show (strB s)[k] = s[k]
        rw [strB_get s hkn]
        rfl
      have HT := Lib.hid (show nameP (strB s) (k + 1) = (nameP (strB s) k && nmB k q) by rw [nameP_succ, hg])
      have HNOT := Lib.hid (fun (h : nmB k q = false) => show nameP (strB s) s.size = false from nameP_not hkn (by rw [hg]; exact h))
      have HB := Lib.hid (show nmB k q = (smallB q || (decide (k ≠ 0) && (decide (z = 45) || isD q))) by unfold nmB; rw [hz])
      have KG := (fun W => l01Digit_any z q hz W)
      have KS := (fun W => l01Small_any q W)
      rw [hz] at KS
      have i0 : (0 : Int) ≤ (k : Int) := by omega
      have i3 : (k : Int) < (s.size : Int) := by omega
      clear hg
      rcases hs1 : smallB q with _ | _
      rotate_left
      · have HNM := Lib.hid (show nmB k q = true by rw [HB.out, hs1]; rfl)
        rw [hs1] at KS
        go_wp2_with (first | (go_at_call 140; refine (KD _).mono ?_; rintro e w' ⟨rfl, rfl⟩) | (go_at_call 141; refine (KG _).mono ?_; rintro e w' ⟨rfl, rfl⟩) | (go_at_call 203; refine (KS _).mono ?_; rintro e w' ⟨rfl, rfl⟩))
        go_roundw
        case rel => exact ⟨k + 1, by omega, by go_num, by rw [HT.out, HA.out, HNM.out]; rfl, by first | rfl | trivial⟩
        case measure => simp [intOf]; omega
      · have hk1 : k ≠ 0 := fun h => by
          have h1 := HQ0.out h
          rw [h1, HB0.out] at hs1
          cases hs1
        rw [hs1] at KS
        by_cases h45 : z = 45
        · have HNM := Lib.hid (show nmB k q = true by rw [HB.out, hs1, decide_eq_true hk1, decide_eq_true h45]; rfl)
          have e45 : ((45 : Nat) : Int) = 45 := rfl
          have HNM := HNM
          subst h45
          rw [e45] at KS KG
          clear e45
          rcases hd : isD q with _ | _
          · rw [hd] at KG
            go_wp2_with (first | (go_at_call 140; refine (KD _).mono ?_; rintro e w' ⟨rfl, rfl⟩) | (go_at_call 141; refine (KG _).mono ?_; rintro e w' ⟨rfl, rfl⟩) | (go_at_call 203; refine (KS _).mono ?_; rintro e w' ⟨rfl, rfl⟩))
            go_roundw
            case rel => exact ⟨k + 1, by omega, by go_num, by rw [HT.out, HA.out, HNM.out]; rfl, by first | rfl | trivial⟩
            case measure => simp [intOf]; omega
          · rw [hd] at KG
            go_wp2_with (first | (go_at_call 140; refine (KD _).mono ?_; rintro e w' ⟨rfl, rfl⟩) | (go_at_call 141; refine (KG _).mono ?_; rintro e w' ⟨rfl, rfl⟩) | (go_at_call 203; refine (KS _).mono ?_; rintro e w' ⟨rfl, rfl⟩))
            go_roundw
            case rel => exact ⟨k + 1, by omega, by go_num, by rw [HT.out, HA.out, HNM.out]; rfl, by first | rfl | trivial⟩
            case measure => simp [intOf]; omega
        · have j3 : ¬ (z : Int) = 45 := by omega
          have j4 : ((z : Int) != 45) = true := by simpa using j3
          rcases hd : isD q with _ | _
          · have HNM := Lib.hid (show nmB k q = false by rw [HB.out, hs1, decide_eq_true hk1, decide_eq_false h45, hd]; rfl)
            rw [hd] at KG
            go_wp2_with (first | (go_at_call 140; refine (KD _).mono ?_; rintro e w' ⟨rfl, rfl⟩) | (go_at_call 141; refine (KG _).mono ?_; rintro e w' ⟨rfl, rfl⟩) | (go_at_call 203; refine (KS _).mono ?_; rintro e w' ⟨rfl, rfl⟩))
            go_ret
            exact ⟨ret_bool (by rw [HR.out, HNOT.out HNM.out]; simp), rfl⟩
          · have HNM := Lib.hid (show nmB k q = true by rw [HB.out, hs1, decide_eq_true hk1, decide_eq_false h45, hd]; rfl)
            rw [hd] at KG
            go_wp2_with (first | (go_at_call 140; refine (KD _).mono ?_; rintro e w' ⟨rfl, rfl⟩) | (go_at_call 141; refine (KG _).mono ?_; rintro e w' ⟨rfl, rfl⟩) | (go_at_call 203; refine (KS _).mono ?_; rintro e w' ⟨rfl, rfl⟩))
            go_roundw
            case rel => exact ⟨k + 1, by omega, by go_num, by rw [HT.out, HA.out, HNM.out]; rfl, by first | rfl | trivial⟩
            case measure => simp [intOf]; omega
    · obtain rfl : k = s.size := by omega
      have i3 : ¬ (s.size : Int) < (s.size : Int) := by omega
      go_wp2
      go_ret
      exact ⟨ret_bool (by rw [HR.out, HA.out, decide_eq_true h12, decide_eq_true (by omega)]; rfl), rfl⟩
end Go.Proofs.YtgljafiegpjlkaaGreatDoor

namespace Go.Proofs.YtgljafiegpjlkaaGreatDoor
open Go.RowKit Go.ChangeShapes Go.WideShapes Go.ChangeAt
section
variable {H : Type} {enc : TypeId × Value → H} {w : World} {base : Nat} {spare : Nat → Bool} {held : Bool} {fuel : Nat} {cs : List Value} {x : DataW H × List MemPlace}
theorem cellsI64 : Tryz.prog.cellsOf 2 = 1 := by kernel_rfl
theorem cellsInts : Tryz.prog.cellsOf 47 = 1 := by kernel_rfl
theorem rd_i64 (h : DataW.trod enc Tryz.prog w base spare held fuel 2 cs = some x) : ∃ n, cs = [.int .i64 n] ∧ -9223372036854775808 ≤ n ∧ n ≤ 9223372036854775807 := by
  obtain ⟨n, rfl, _, hw⟩ := DataW.trod_int Tryz.underlying2 h
  refine ⟨n, rfl, ?_⟩
  have h1 : IntKind.i64.min = -9223372036854775808 := by decide
  have h2 : IntKind.i64.max = 9223372036854775807 := by decide
  simp [Lit.wf] at hw
  omega
theorem rd_ints (h : DataW.trod enc Tryz.prog w base spare held fuel 47 cs = some x) : ∃ A n c ds, cs = [.slice A n c] ∧ RI w A n ds ∧ n ≤ 9223372036854775807 := by
  rcases open_ints Tryz.underlying47 Tryz.underlying2 cellsI64 h with ⟨rfl, _⟩ | ⟨a, len, cap, zs, rfl, _, hl, hm, hz, _, hcell, _⟩
  · exact ⟨none, 0, 0, [], rfl, ⟨rfl, fun h => absurd h (by omega)⟩, by omega⟩
  · have hlen : len ≤ zs.length := by rw [hz]; split <;> omega
    refine ⟨some a, len, cap, zs.take len, rfl, ⟨by simp; omega, fun h0 => ⟨a, rfl, ?_, fun j u hu => ?_⟩⟩, by simp only [maxLen] at hm; omega⟩
    · have := World.block_lt_of_cell? w _ (hcell 0 (by omega)); rwa [block_of_add] at this
    · rw [List.getElem?_take] at hu
      split at hu
      · rw [hcell j (by omega)]; simp [List.getD, hu]
      · cases hu
theorem cellsLR : Tryz.prog.cellsOf 72 = 2 := by kernel_rfl
set_option maxRecDepth 100000 in
theorem rd_lreg (h : DataW.trod enc Tryz.prog w base spare held fuel 72 cs = some x) : ∃ b A n c ds, cs = [.int .i64 b, .slice A n c] ∧ RI w A n ds ∧ n ≤ 9223372036854775807 ∧ -9223372036854775808 ≤ b ∧ b ≤ 9223372036854775807 := by
  obtain ⟨xs, m, _, _, hl, hxl, hf⟩ := DataW.trod_struct Tryz.underlying72 h
  rw [cellsLR] at hl
  match cs, hl with
  | [c0, c1], _ =>
    obtain ⟨y0, hy0⟩ : ∃ y, xs[0]? = some y := ⟨_, List.getElem?_eq_getElem (by rw [hxl]; decide)⟩
    obtain ⟨y1, hy1⟩ : ∃ y, xs[1]? = some y := ⟨_, List.getElem?_eq_getElem (by rw [hxl]; decide)⟩
    have h0 : DataW.trod enc Tryz.prog w base spare held m 2 (([c0, c1].drop 0).take (Tryz.prog.cellsOf 2)) = xs[0]? := hf 0 _ rfl
    have h1 : DataW.trod enc Tryz.prog w base spare held m 47 (([c0, c1].drop 1).take (Tryz.prog.cellsOf 47)) = xs[1]? := hf 1 _ rfl
    simp only [cellsI64, cellsInts, List.drop_zero, List.drop_succ_cons, List.take_succ_cons, List.take_zero] at h0 h1
    rw [hy0] at h0
    rw [hy1] at h1
    obtain ⟨b, e0, hb1, hb2⟩ := rd_i64 h0
    obtain ⟨A, n, c, ds, e1, hr, hn⟩ := rd_ints h1
    injection e0 with e0
    injection e1 with e1
    exact ⟨b, A, n, c, ds, by rw [e0, e1], hr, hn, hb1, hb2⟩
end
end Go.Proofs.YtgljafiegpjlkaaGreatDoor

namespace Go.Proofs.YtgljafiegpjlkaaGreatDoor
open Go.RowKit Go.ChangeShapes Go.WideShapes Go.ChangeAt
section
variable {H : Type} {enc : TypeId × Value → H} {w : World} {base : Nat} {spare : Nat → Bool} {held : Bool} {fuel : Nat} {cs : List Value} {x : DataW H × List MemPlace}
end
end Go.Proofs.YtgljafiegpjlkaaGreatDoor
