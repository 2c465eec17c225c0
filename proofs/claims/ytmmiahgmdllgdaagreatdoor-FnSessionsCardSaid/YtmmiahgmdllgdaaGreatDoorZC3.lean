/- Part 3: lemmas and contracts of the claim's functions. -/
import Derived.Test.YtmmiahgmdllgdaaGreatDoorZC1
import Derived.Test.YtmmiahgmdllgdaaGreatDoorZC2
import Derived.Deep.DeepCutAuto
import Derived.Deep.RegionHeld3
namespace Go.Proofs.YtmmiahgmdllgdaaGreatDoor
open Go.RowKit Go.Sort
theorem power_B (b : Int) (n : Nat) (w : World) (hb1 : 2 ≤ b) (hb2 : b ≤ 16) (hn : n ≤ 9223372036854775807) :
    Calls Tryz.prog 171 #[.int .i64 b, .int .i64 n] w fun e w' => e = .returned (.int .i64 (powC b n)) ∧ Below w.heap.size w w' :=
  (power_any b n w hb1 hb2 hn).mono fun _ _ ⟨h, e⟩ => ⟨h, e ▸ Below.refl _ _⟩
theorem between_B (a b c : Int) (w : World) : Calls Tryz.prog 80 #[.int .i64 a, .int .i64 b, .int .i64 c] w fun e w' => e = .returned (.bool (betB a b c)) ∧ Below w.heap.size w w' :=
  (between_any a b c w).mono fun _ _ ⟨h, e⟩ => ⟨h, e ▸ Below.refl _ _⟩
theorem values_any (b : Int) (A : Option Addr) (n c : Nat) (w : World) (hb1 : 2 ≤ b) (hb2 : b ≤ 16) (hn : n ≤ 9223372036854775807) :
    Calls Tryz.prog 178 #[.agg #[.int .i64 b, .slice A n c]] w fun e w' => e = .returned (.int .i64 (powC b n)) ∧ Below w.heap.size w w' := by
  go_enter Tryz.func178, Tryz.ntmps178
  go_wp2_with fail
  obtain ⟨WW, hWW⟩ : ∃ W, W = w.alloc (.cells #[.int .i64 b, .slice A n c] 30) := ⟨_, rfl⟩
  rw [← hWW]
  have hWb : Below w.heap.size w WW := by rw [hWW]; exact (Below.refl _ _).alloc (Nat.le_refl _) _
  have x1 := cell_regrown (show WW.cell? ⟨w.heap.size, 0, none⟩ = some (.int .i64 b) by rw [hWW]; go_simp)
  have x2 := cell_regrown (show WW.cell? ⟨w.heap.size, 1, none⟩ = some (.slice A n c) by rw [hWW]; go_simp)
  clear hWW
  refine wp_region_quiet_below (by kernel_rfl) (by kernel_rfl) ?_
  repeat (go_big_quiet_step (first | (go_at_call 179; exact quietB (fun W _ => width_any _ _ _ _ W)) | (go_at_call 171; exact quietB (fun W _ => power_B _ _ W hb1 hb2 hn))))
  refine wpQuiet_nil ?_
  intro W1 hw'
  have hB1 : Below WW.heap.size WW W1 := by
    obtain ⟨⟨dq, osq⟩, hw''⟩ := hw'
    rw [hw'']; exact below_regrown _ _ _
  clear hw'
  go_wp2
  go_ret
  exact ⟨rfl, hWb.trans (hB1.mono hWb.size)⟩
def vplaces (t : Tri) : Int := min ((t.b.digits.length : Int) - t.a.digits.length + 1) t.s.digits.length
def fullB (r : Reg) : Bool := decide (pw r.base r.digits.length ≤ 1000000000001)
def vmach (t : Tri) : Bool := (t.a.ok && t.b.ok && t.s.ok) && ((t.a.base == t.b.base) && (t.s.base == t.b.base) && fullB t.b && fullB t.s) && (decide (t.a.digits.length ≤ t.b.digits.length) && betB t.carry 0 (vplaces t - 1))
def TriC (w : World) (p : Addr) (t : Tri) (A1 : Option Addr) (c1 : Nat) (A2 : Option Addr) (c2 : Nat) (A3 : Option Addr) (c3 : Nat) : Prop :=
  (w.cell? ⟨p.block, p.off, none⟩ = some (.int .i64 t.a.base) ∧ w.cell? ⟨p.block, p.off + 1, none⟩ = some (.slice A1 t.a.digits.length c1) ∧ w.cell? ⟨p.block, p.off + 2, none⟩ = some (.int .i64 t.b.base) ∧ w.cell? ⟨p.block, p.off + 3, none⟩ = some (.slice A2 t.b.digits.length c2) ∧
    w.cell? ⟨p.block, p.off + 4, none⟩ = some (.int .i64 t.s.base) ∧ w.cell? ⟨p.block, p.off + 5, none⟩ = some (.slice A3 t.s.digits.length c3) ∧ w.cell? ⟨p.block, p.off + 6, none⟩ = some (.int .i64 t.carry)) ∧
    RI w A1 t.a.digits.length t.a.digits ∧ RI w A2 t.b.digits.length t.b.digits ∧ RI w A3 t.s.digits.length t.s.digits
theorem TriC.below {w w' : World} {p : Addr} {t : Tri} {A1 A2 A3 : Option Addr} {c1 c2 c3 : Nat} (h : TriC w p t A1 c1 A2 c2 A3 c3) (hp : p.block < w.heap.size) (hb : Below w.heap.size w w') : TriC w' p t A1 c1 A2 c2 A3 c3 := by
  obtain ⟨⟨h1, h2, h3, h4, h5, h6, h7⟩, r1, r2, r3⟩ := h
  exact ⟨⟨by rw [hb.cell (by exact hp)]; exact h1, by rw [hb.cell (by exact hp)]; exact h2, by rw [hb.cell (by exact hp)]; exact h3, by rw [hb.cell (by exact hp)]; exact h4, by rw [hb.cell (by exact hp)]; exact h5, by rw [hb.cell (by exact hp)]; exact h6, by rw [hb.cell (by exact hp)]; exact h7⟩, r1.below hb, r2.below hb, r3.below hb⟩
theorem TriC.of_block {w : World} {g : Nat} {T : TypeId} {t : Tri} {A1 A2 A3 : Option Addr} {c1 c2 c3 : Nat}
    (hg : w.heap[g]? = some (.cells #[.int .i64 t.a.base, .slice A1 t.a.digits.length c1, .int .i64 t.b.base, .slice A2 t.b.digits.length c2, .int .i64 t.s.base, .slice A3 t.s.digits.length c3, .int .i64 t.carry] T (0, 0)))
    (r1 : RI w A1 t.a.digits.length t.a.digits) (r2 : RI w A2 t.b.digits.length t.b.digits) (r3 : RI w A3 t.s.digits.length t.s.digits) : TriC w ⟨g, 0, none⟩ t A1 c1 A2 c2 A3 c3 := by
  have hc : ∀ i v, #[Value.int .i64 t.a.base, .slice A1 t.a.digits.length c1, .int .i64 t.b.base, .slice A2 t.b.digits.length c2, .int .i64 t.s.base, .slice A3 t.s.digits.length c3, .int .i64 t.carry][i]? = some v → w.cell? ⟨g, i, none⟩ = some v := fun i v hv => by rw [cell_of_row w g i _ T (0, 0) hg]; exact hv
  exact ⟨⟨hc 0 _ rfl, hc 1 _ rfl, hc 2 _ rfl, hc 3 _ rfl, hc 4 _ rfl, hc 5 _ rfl, hc 6 _ rfl⟩, r1, r2, r3⟩
theorem TriC.tri {w : World} {b o : Nat} {t : Tri} {A1 A2 A3 : Option Addr} {c1 c2 c3 : Nat} (h : TriC w ⟨b, o, none⟩ t A1 c1 A2 c2 A3 c3) : TriM w ⟨b, o, none⟩ t := by
  obtain ⟨⟨h1, h2, h3, h4, h5, h6, h7⟩, r1, r2, r3⟩ := h
  exact ⟨⟨A1, c1, ⟨h1, h2⟩, r1⟩, ⟨A2, c2, ⟨h3, h4⟩, r2⟩, ⟨A3, c3, ⟨h5, h6⟩, r3⟩, h7⟩
theorem places_any (t : Tri) (A1 A2 A3 : Option Addr) (c1 c2 c3 : Nat) (w : World) (r1 : RI w A1 t.a.digits.length t.a.digits) (r2 : RI w A2 t.b.digits.length t.b.digits) (r3 : RI w A3 t.s.digits.length t.s.digits) (h1 : t.a.digits.length ≤ 16) (h2 : t.b.digits.length ≤ 16) (_h3 : t.s.digits.length ≤ 16) :
    Calls Tryz.prog 174 #[.agg #[.int .i64 t.a.base, .slice A1 t.a.digits.length c1, .int .i64 t.b.base, .slice A2 t.b.digits.length c2, .int .i64 t.s.base, .slice A3 t.s.digits.length c3, .int .i64 t.carry]] w fun e w' => e = .returned (.int .i64 (vplaces t)) ∧ Below w.heap.size w w' := by
  go_enter Tryz.func174, Tryz.ntmps174
  go_wp2_with fail
  obtain ⟨WW, hWW⟩ : ∃ W, W = w.alloc (.cells #[.int .i64 t.a.base, .slice A1 t.a.digits.length c1, .int .i64 t.b.base, .slice A2 t.b.digits.length c2, .int .i64 t.s.base, .slice A3 t.s.digits.length c3, .int .i64 t.carry] 32) := ⟨_, rfl⟩
  have hbw : Below w.heap.size w WW := by rw [hWW]; exact (Below.refl _ _).alloc (Nat.le_refl _) _
  have hT : TriC WW ⟨w.heap.size, 0, none⟩ t A1 c1 A2 c2 A3 c3 := by rw [hWW]; exact TriC.of_block (g := w.heap.size) (heap_alloc_new _ _) (r1.below (hWW ▸ hbw)) (r2.below (hWW ▸ hbw)) (r3.below (hWW ▸ hbw))
  have hlt : w.heap.size < WW.heap.size := by rw [hWW]; simp
  clear r1 r2 r3
  rw [← hWW]
  clear hWW
  obtain ⟨⟨g1, g2, g3, g4, g5, g6, g7⟩, r1, r2, r3⟩ := (show _ ∧ _ from hT)
  simp only [Nat.zero_add] at g1 g2 g3 g4 g5 g6 g7
  have x1 := cell_regrown g1
  have x2 := cell_regrown g2
  have x3 := cell_regrown g3
  have x4 := cell_regrown g4
  have x5 := cell_regrown g5
  have x6 := cell_regrown g6
  have x7 := cell_regrown g7
  refine wp_region_quiet_below (by kernel_rfl) (by kernel_rfl) ?_
  repeat (go_big_quiet_step ((go_at_call 179; exact quietB (fun W _ => width_any _ _ _ _ W))))
  all_goals
    refine wpQuiet_nil ?_
    intro W1 hw'
    have hB1 : Below WW.heap.size WW W1 := by
      obtain ⟨⟨dq, osq⟩, hw''⟩ := hw'
      rw [hw'']; exact below_regrown _ _ _
    clear hw'
    go_wp2
    all_goals
      go_ret
      exact ⟨ret_int (by unfold vplaces; omega), hbw.trans (hB1.mono hbw.size)⟩
theorem ok_bd {r : Reg} (h : r.ok = true) : 2 ≤ r.base ∧ r.base ≤ 16 ∧ r.digits.length ≤ 16 := by
  obtain ⟨⟨h1, h2⟩, ⟨-, h4⟩, -⟩ := vreg_iff.1 h
  exact ⟨h1, h2, by omega⟩
set_option maxRecDepth 100000 in
set_option maxHeartbeats 1600000 in
theorem ValidMachine_any (t : Tri) (A1 A2 A3 : Option Addr) (c1 c2 c3 : Nat) (w : World) (r1 : RI w A1 t.a.digits.length t.a.digits) (r2 : RI w A2 t.b.digits.length t.b.digits) (r3 : RI w A3 t.s.digits.length t.s.digits) (hs : SmallTri t) :
    Calls Tryz.prog 133 #[.agg #[.int .i64 t.a.base, .slice A1 t.a.digits.length c1, .int .i64 t.b.base, .slice A2 t.b.digits.length c2, .int .i64 t.s.base, .slice A3 t.s.digits.length c3, .int .i64 t.carry]] w fun e w' => e = .returned (.bool (vmach t)) ∧ Below w.heap.size w w' := by
  have HV := Lib.hid (show vmach t = (((t.a.ok && t.b.ok && t.s.ok) && ((t.a.base == t.b.base) && (t.s.base == t.b.base) && fullB t.b && fullB t.s)) && (decide (t.a.digits.length ≤ t.b.digits.length) && betB t.carry 0 (vplaces t - 1))) from rfl)
  obtain ⟨s1, s2, s3⟩ := hs
  go_enter Tryz.func133, Tryz.ntmps133
  go_wp2_with fail
  obtain ⟨WW, hWW⟩ : ∃ W, W = w.alloc (.cells #[.int .i64 t.a.base, .slice A1 t.a.digits.length c1, .int .i64 t.b.base, .slice A2 t.b.digits.length c2, .int .i64 t.s.base, .slice A3 t.s.digits.length c3, .int .i64 t.carry] 32) := ⟨_, rfl⟩
  have hbw : Below w.heap.size w WW := by rw [hWW]; exact (Below.refl _ _).alloc (Nat.le_refl _) _
  have hT : TriC WW ⟨w.heap.size, 0, none⟩ t A1 c1 A2 c2 A3 c3 := by rw [hWW]; exact TriC.of_block (g := w.heap.size) (heap_alloc_new _ _) (r1.below (hWW ▸ hbw)) (r2.below (hWW ▸ hbw)) (r3.below (hWW ▸ hbw))
  have hlt : w.heap.size < WW.heap.size := by rw [hWW]; simp
  clear r1 r2 r3
  rw [← hWW]
  clear hWW
  obtain ⟨⟨g1, g2, g3, g4, g5, g6, g7⟩, r1, r2, r3⟩ := (show _ ∧ _ from hT)
  simp only [Nat.zero_add] at g1 g2 g3 g4 g5 g6 g7
  rcases k1 : t.a.ok with _ | _
  · refine (calls_val (ValidRegister_any t.a.base A1 t.a.digits.length c1 t.a.digits _ r1 (by have := s1; unfold SmallReg at this; omega)) (congrArg Value.bool k1)).mono ?_; rintro e w1 ⟨rfl, hw1⟩
    replace hT := hT.below hlt hw1
    replace hbw := hbw.trans (hw1.mono hbw.size)
    replace hlt := Nat.lt_of_lt_of_le hlt hw1.size
    clear hw1 g1 g2 g3 g4 g5 g6 g7 r1 r2 r3
    obtain ⟨⟨g1, g2, g3, g4, g5, g6, g7⟩, r1, r2, r3⟩ := (show _ ∧ _ from hT)
    simp only [Nat.zero_add] at g1 g2 g3 g4 g5 g6 g7
    go_wp2
    go_ret
    exact ⟨ret_bool (by rw [HV.out, k1]; rfl), hbw⟩
  rcases k2 : t.b.ok with _ | _
  · refine (calls_val (ValidRegister_any t.a.base A1 t.a.digits.length c1 t.a.digits _ r1 (by have := s1; unfold SmallReg at this; omega)) (congrArg Value.bool k1)).mono ?_; rintro e w1 ⟨rfl, hw1⟩
    replace hT := hT.below hlt hw1
    replace hbw := hbw.trans (hw1.mono hbw.size)
    replace hlt := Nat.lt_of_lt_of_le hlt hw1.size
    clear hw1 g1 g2 g3 g4 g5 g6 g7 r1 r2 r3
    obtain ⟨⟨g1, g2, g3, g4, g5, g6, g7⟩, r1, r2, r3⟩ := (show _ ∧ _ from hT)
    simp only [Nat.zero_add] at g1 g2 g3 g4 g5 g6 g7
    go_wp2_with fail
    refine (calls_val (ValidRegister_any t.b.base A2 t.b.digits.length c2 t.b.digits _ r2 (by have := s2; unfold SmallReg at this; omega)) (congrArg Value.bool k2)).mono ?_; rintro e w2 ⟨rfl, hw2⟩
    replace hT := hT.below hlt hw2
    replace hbw := hbw.trans (hw2.mono hbw.size)
    replace hlt := Nat.lt_of_lt_of_le hlt hw2.size
    clear hw2 g1 g2 g3 g4 g5 g6 g7 r1 r2 r3
    obtain ⟨⟨g1, g2, g3, g4, g5, g6, g7⟩, r1, r2, r3⟩ := (show _ ∧ _ from hT)
    simp only [Nat.zero_add] at g1 g2 g3 g4 g5 g6 g7
    go_wp2
    go_ret
    exact ⟨ret_bool (by rw [HV.out, k1, k2]; rfl), hbw⟩
  rcases k3 : t.s.ok with _ | _
  · refine (calls_val (ValidRegister_any t.a.base A1 t.a.digits.length c1 t.a.digits _ r1 (by have := s1; unfold SmallReg at this; omega)) (congrArg Value.bool k1)).mono ?_; rintro e w1 ⟨rfl, hw1⟩
    replace hT := hT.below hlt hw1
    replace hbw := hbw.trans (hw1.mono hbw.size)
    replace hlt := Nat.lt_of_lt_of_le hlt hw1.size
    clear hw1 g1 g2 g3 g4 g5 g6 g7 r1 r2 r3
    obtain ⟨⟨g1, g2, g3, g4, g5, g6, g7⟩, r1, r2, r3⟩ := (show _ ∧ _ from hT)
    simp only [Nat.zero_add] at g1 g2 g3 g4 g5 g6 g7
    go_wp2_with fail
    refine (calls_val (ValidRegister_any t.b.base A2 t.b.digits.length c2 t.b.digits _ r2 (by have := s2; unfold SmallReg at this; omega)) (congrArg Value.bool k2)).mono ?_; rintro e w2 ⟨rfl, hw2⟩
    replace hT := hT.below hlt hw2
    replace hbw := hbw.trans (hw2.mono hbw.size)
    replace hlt := Nat.lt_of_lt_of_le hlt hw2.size
    clear hw2 g1 g2 g3 g4 g5 g6 g7 r1 r2 r3
    obtain ⟨⟨g1, g2, g3, g4, g5, g6, g7⟩, r1, r2, r3⟩ := (show _ ∧ _ from hT)
    simp only [Nat.zero_add] at g1 g2 g3 g4 g5 g6 g7
    go_wp2_with fail
    refine (calls_val (ValidRegister_any t.s.base A3 t.s.digits.length c3 t.s.digits _ r3 (by have := s3; unfold SmallReg at this; omega)) (congrArg Value.bool k3)).mono ?_; rintro e w3 ⟨rfl, hw3⟩
    replace hT := hT.below hlt hw3
    replace hbw := hbw.trans (hw3.mono hbw.size)
    replace hlt := Nat.lt_of_lt_of_le hlt hw3.size
    clear hw3 g1 g2 g3 g4 g5 g6 g7 r1 r2 r3
    obtain ⟨⟨g1, g2, g3, g4, g5, g6, g7⟩, r1, r2, r3⟩ := (show _ ∧ _ from hT)
    simp only [Nat.zero_add] at g1 g2 g3 g4 g5 g6 g7
    go_wp2
    go_ret
    exact ⟨ret_bool (by rw [HV.out, k1, k2, k3]; rfl), hbw⟩
  refine (calls_val (ValidRegister_any t.a.base A1 t.a.digits.length c1 t.a.digits _ r1 (by have := s1; unfold SmallReg at this; omega)) (congrArg Value.bool k1)).mono ?_; rintro e w1 ⟨rfl, hw1⟩
  replace hT := hT.below hlt hw1
  replace hbw := hbw.trans (hw1.mono hbw.size)
  replace hlt := Nat.lt_of_lt_of_le hlt hw1.size
  clear hw1 g1 g2 g3 g4 g5 g6 g7 r1 r2 r3
  obtain ⟨⟨g1, g2, g3, g4, g5, g6, g7⟩, r1, r2, r3⟩ := (show _ ∧ _ from hT)
  simp only [Nat.zero_add] at g1 g2 g3 g4 g5 g6 g7
  go_wp2_with fail
  refine (calls_val (ValidRegister_any t.b.base A2 t.b.digits.length c2 t.b.digits _ r2 (by have := s2; unfold SmallReg at this; omega)) (congrArg Value.bool k2)).mono ?_; rintro e w2 ⟨rfl, hw2⟩
  replace hT := hT.below hlt hw2
  replace hbw := hbw.trans (hw2.mono hbw.size)
  replace hlt := Nat.lt_of_lt_of_le hlt hw2.size
  clear hw2 g1 g2 g3 g4 g5 g6 g7 r1 r2 r3
  obtain ⟨⟨g1, g2, g3, g4, g5, g6, g7⟩, r1, r2, r3⟩ := (show _ ∧ _ from hT)
  simp only [Nat.zero_add] at g1 g2 g3 g4 g5 g6 g7
  go_wp2_with fail
  refine (calls_val (ValidRegister_any t.s.base A3 t.s.digits.length c3 t.s.digits _ r3 (by have := s3; unfold SmallReg at this; omega)) (congrArg Value.bool k3)).mono ?_; rintro e w3 ⟨rfl, hw3⟩
  replace hT := hT.below hlt hw3
  replace hbw := hbw.trans (hw3.mono hbw.size)
  replace hlt := Nat.lt_of_lt_of_le hlt hw3.size
  clear hw3 g1 g2 g3 g4 g5 g6 g7 r1 r2 r3
  obtain ⟨⟨g1, g2, g3, g4, g5, g6, g7⟩, r1, r2, r3⟩ := (show _ ∧ _ from hT)
  simp only [Nat.zero_add] at g1 g2 g3 g4 g5 g6 g7
  obtain ⟨p1, p2, p3⟩ := ok_bd k1
  obtain ⟨p4, p5, p6⟩ := ok_bd k2
  obtain ⟨p7, p8, p9⟩ := ok_bd k3
  have HV := Lib.hid (show vmach t = (((t.a.base == t.b.base) && (t.s.base == t.b.base) && fullB t.b && fullB t.s) && (decide (t.a.digits.length ≤ t.b.digits.length) && betB t.carry 0 (vplaces t - 1))) by rw [HV.out, k1, k2, k3]; simp)
  clear k1 k2 k3
  have z1 := Lib.hid (powC_zero t.b.base p4 t.b.digits.length)
  have z2 := Lib.hid (powC_zero t.s.base p7 t.s.digits.length)
  rcases k1 : (t.a.base == t.b.base) with _ | _
  · have i1 : (t.a.base != t.b.base) = true := by simp [bne, k1]
    have K1 := Lib.hid k1; clear k1
    go_wp2
    go_ret
    exact ⟨ret_bool (by rw [HV.out, K1.out]; rfl), hbw⟩
  have i1 : (t.a.base != t.b.base) = false := by simp [bne, k1]
  rcases k2 : (t.s.base == t.b.base) with _ | _
  · have i2 : (t.s.base != t.b.base) = true := by simp [bne, k2]
    have K1 := Lib.hid k1; clear k1
    have K2 := Lib.hid k2; clear k2
    go_wp2
    go_ret
    exact ⟨ret_bool (by rw [HV.out, K1.out, K2.out]; rfl), hbw⟩
  have i2 : (t.s.base != t.b.base) = false := by simp [bne, k2]
  have HV := Lib.hid (show vmach t = (fullB t.b && fullB t.s && (decide (t.a.digits.length ≤ t.b.digits.length) && betB t.carry 0 (vplaces t - 1))) by rw [HV.out, k1, k2]; simp)
  clear k1 k2
  rcases k3 : fullB t.b with _ | _
  · have i3 : (powC t.b.base t.b.digits.length == 0) = true := by rw [z1.out]; unfold fullB at k3; rw [k3]; rfl
    have K3 := Lib.hid k3; clear k3
    go_wp2_with fail
    refine (values_any t.b.base A2 t.b.digits.length c2 _ p4 p5 (by omega)).mono ?_; rintro e w4 ⟨rfl, hw4⟩
    replace hT := hT.below hlt hw4
    replace hbw := hbw.trans (hw4.mono hbw.size)
    replace hlt := Nat.lt_of_lt_of_le hlt hw4.size
    clear hw4 g1 g2 g3 g4 g5 g6 g7 r1 r2 r3
    obtain ⟨⟨g1, g2, g3, g4, g5, g6, g7⟩, r1, r2, r3⟩ := (show _ ∧ _ from hT)
    simp only [Nat.zero_add] at g1 g2 g3 g4 g5 g6 g7
    go_wp2
    go_ret
    exact ⟨ret_bool (by rw [HV.out, K3.out]; rfl), hbw⟩
  have i3 : (powC t.b.base t.b.digits.length == 0) = false := by rw [z1.out]; unfold fullB at k3; rw [k3]; rfl
  go_wp2_with fail
  refine (values_any t.b.base A2 t.b.digits.length c2 _ p4 p5 (by omega)).mono ?_; rintro e w4 ⟨rfl, hw4⟩
  replace hT := hT.below hlt hw4
  replace hbw := hbw.trans (hw4.mono hbw.size)
  replace hlt := Nat.lt_of_lt_of_le hlt hw4.size
  clear hw4 g1 g2 g3 g4 g5 g6 g7 r1 r2 r3
  obtain ⟨⟨g1, g2, g3, g4, g5, g6, g7⟩, r1, r2, r3⟩ := (show _ ∧ _ from hT)
  simp only [Nat.zero_add] at g1 g2 g3 g4 g5 g6 g7
  go_wp2_with fail
  refine (values_any t.s.base A3 t.s.digits.length c3 _ p7 p8 (by omega)).mono ?_; rintro e w5 ⟨rfl, hw5⟩
  replace hT := hT.below hlt hw5
  replace hbw := hbw.trans (hw5.mono hbw.size)
  replace hlt := Nat.lt_of_lt_of_le hlt hw5.size
  clear hw5 g1 g2 g3 g4 g5 g6 g7 r1 r2 r3
  obtain ⟨⟨g1, g2, g3, g4, g5, g6, g7⟩, r1, r2, r3⟩ := (show _ ∧ _ from hT)
  simp only [Nat.zero_add] at g1 g2 g3 g4 g5 g6 g7
  rcases k4 : fullB t.s with _ | _
  · have i4 : (powC t.s.base t.s.digits.length == 0) = true := by rw [z2.out]; unfold fullB at k4; rw [k4]; rfl
    have K3 := Lib.hid k3; clear k3
    have K4 := Lib.hid k4; clear k4
    go_wp2
    go_ret
    exact ⟨ret_bool (by rw [HV.out, K3.out, K4.out]; rfl), hbw⟩
  have i4 : (powC t.s.base t.s.digits.length == 0) = false := by rw [z2.out]; unfold fullB at k4; rw [k4]; rfl
  have HV := Lib.hid (show vmach t = (decide (t.a.digits.length ≤ t.b.digits.length) && betB t.carry 0 (vplaces t - 1)) by rw [HV.out, k3, k4]; simp)
  clear k3 k4
  have hvp : vplaces t ≤ 16 ∧ -16 ≤ vplaces t := by unfold vplaces; omega
  go_wp2_with fail
  have x1 := cell_regrown g1
  have x2 := cell_regrown g2
  have x3 := cell_regrown g3
  have x4 := cell_regrown g4
  have x5 := cell_regrown g5
  have x6 := cell_regrown g6
  have x7 := cell_regrown g7
  have KP := Lib.hid (fun (W : World) (hW : Below w5.heap.size w5 W) => places_any t A1 A2 A3 c1 c2 c3 W (r1.below hW) (r2.below hW) (r3.below hW) p3 p6 p9)
  by_cases k5 : t.a.digits.length ≤ t.b.digits.length
  · have i5 : (t.a.digits.length : Int) ≤ (t.b.digits.length : Int) := by omega
    have K5 := Lib.hid k5; clear k5
    refine wp_region_quiet_below (by kernel_rfl) (by kernel_rfl) ?_
    repeat (go_big_quiet_step ((first | (go_at_call 179; exact quietB (fun W _ => width_any _ _ _ _ W)) | (go_at_call 174; exact quietB KP.out) | (go_at_call 80; exact quietB (fun W _ => between_B _ _ _ W)))))
    refine wpQuiet_nil ?_
    intro W1 hw'
    have hB1 : Below w5.heap.size w5 W1 := by
      obtain ⟨⟨dq, osq⟩, hw''⟩ := hw'
      rw [hw'']; exact below_regrown _ _ _
    clear hw'
    go_wp2
    go_ret
    exact ⟨ret_bool (by rw [HV.out, decide_eq_true K5.out]; rfl), hbw.trans (hB1.mono hbw.size)⟩
  · have i5 : ¬ (t.a.digits.length : Int) ≤ (t.b.digits.length : Int) := by omega
    have K5 := Lib.hid k5; clear k5
    refine wp_region_quiet_below (by kernel_rfl) (by kernel_rfl) ?_
    repeat (go_big_quiet_step ((first | (go_at_call 179; exact quietB (fun W _ => width_any _ _ _ _ W)) | (go_at_call 174; exact quietB KP.out) | (go_at_call 80; exact quietB (fun W _ => between_B _ _ _ W)))))
    refine wpQuiet_nil ?_
    intro W1 hw'
    have hB1 : Below w5.heap.size w5 W1 := by
      obtain ⟨⟨dq, osq⟩, hw''⟩ := hw'
      rw [hw'']; exact below_regrown _ _ _
    clear hw'
    go_wp2
    go_ret
    exact ⟨ret_bool (by rw [HV.out, decide_eq_false K5.out]; rfl), hbw.trans (hB1.mono hbw.size)⟩
end Go.Proofs.YtmmiahgmdllgdaaGreatDoor

namespace Go.Proofs.YtmmiahgmdllgdaaGreatDoor
open Go.RowKit Go.Sort
theorem l10Places_any (p : Addr) (t : Tri) (w : World) (hT : TriM w p t) (h1 : t.a.digits.length ≤ 16) (h2 : t.b.digits.length ≤ 16) (_h3 : t.s.digits.length ≤ 16) :
    Calls Tryz.prog 182 #[.pointer (some p)] w fun e w' => e = .returned (.int .i64 (vplaces t)) ∧ ∃ m, w' = w.drewN m := by
  obtain ⟨A1, c1, A2, c2, A3, c3, ⟨g1, g2, g3, g4, g5, g6, g7⟩, r1, r2, r3⟩ := hT.cells
  go_enter Tryz.func182, Tryz.ntmps182
  go_wp2_with fail
  go_quiet ((go_at_call 221; exact quiet_left (l00Min_any _ _ _)))
  go_wp2
  go_ret
  exact ⟨ret_int (by unfold vplaces; omega), _, rfl⟩
set_option maxRecDepth 100000 in
set_option maxHeartbeats 1600000 in
theorem l10Ok_any (p : Addr) (t : Tri) (w : World) (hT : TriM w p t) (hs : SmallTri t) :
    Calls Tryz.prog 167 #[.pointer (some p)] w fun e w' => e = .returned (.bool (vmach t)) ∧ ∃ m, w' = w.drewN m := by
  have HV := Lib.hid (show vmach t = (((t.a.ok && t.b.ok && t.s.ok) && ((t.a.base == t.b.base) && (t.s.base == t.b.base) && fullB t.b && fullB t.s)) && (decide (t.a.digits.length ≤ t.b.digits.length) && betB t.carry 0 (vplaces t - 1))) from rfl)
  have K1 := Lib.hid (fun (m : Nat) => l02Ok_reg p t.a (w.drewN m) hT.1 hs.1)
  have K2 := Lib.hid (fun (m : Nat) => l02Ok_reg ⟨p.block, p.off + 2, none⟩ t.b (w.drewN m) hT.2.1 hs.2.1)
  have K3 := Lib.hid (fun (m : Nat) => l02Ok_reg ⟨p.block, p.off + 4, none⟩ t.s (w.drewN m) hT.2.2.1 hs.2.2)
  have KP := Lib.hid (fun (m : Nat) => l10Places_any p t (w.drewN m) hT)
  obtain ⟨A1, c1, A2, c2, A3, c3, ⟨g1, g2, g3, g4, g5, g6, g7⟩, r1, r2, r3⟩ := hT.cells
  clear r1 r2 r3 hT
  go_enter Tryz.func167, Tryz.ntmps167
  rcases k1 : t.a.ok with _ | _
  · have HF : Hid (vmach t = false) := by simp only [Hid]; rw [HV.out, k1]; rfl
    have H1 := Lib.hid k1; clear k1
    try (have H2 := Lib.hid k2; clear k2)
    try (have H3 := Lib.hid k3; clear k3)
    go_wp2_with fail
    go_quiet ((go_at_call 216; first | (with_reducible exact quiet_of_ex (K1.out _ _ H1.out)) | (with_reducible exact quiet_of_ex (K2.out _ _ H2.out)) | (with_reducible exact quiet_of_ex (K3.out _ _ H3.out)) | (with_reducible exact quiet_add_ex (K1.out _ _ H1.out)) | (with_reducible exact quiet_add_ex (K2.out _ _ H2.out)) | (with_reducible exact quiet_add_ex (K3.out _ _ H3.out))))
    go_wp2
    go_ret
    exact ⟨ret_bool HF.out.symm, by first | exact ⟨_, rfl⟩ | exact ⟨_, World.drewN_drewN _ _ _⟩⟩
  rcases k2 : t.b.ok with _ | _
  · have HF : Hid (vmach t = false) := by simp only [Hid]; rw [HV.out, k1, k2]; rfl
    have H1 := Lib.hid k1; clear k1
    try (have H2 := Lib.hid k2; clear k2)
    try (have H3 := Lib.hid k3; clear k3)
    go_wp2_with fail
    go_quiet ((go_at_call 216; first | (with_reducible exact quiet_of_ex (K1.out _ _ H1.out)) | (with_reducible exact quiet_of_ex (K2.out _ _ H2.out)) | (with_reducible exact quiet_of_ex (K3.out _ _ H3.out)) | (with_reducible exact quiet_add_ex (K1.out _ _ H1.out)) | (with_reducible exact quiet_add_ex (K2.out _ _ H2.out)) | (with_reducible exact quiet_add_ex (K3.out _ _ H3.out))))
    go_wp2
    go_ret
    exact ⟨ret_bool HF.out.symm, by first | exact ⟨_, rfl⟩ | exact ⟨_, World.drewN_drewN _ _ _⟩⟩
  rcases k3 : t.s.ok with _ | _
  · have HF : Hid (vmach t = false) := by simp only [Hid]; rw [HV.out, k1, k2, k3]; rfl
    have H1 := Lib.hid k1; clear k1
    try (have H2 := Lib.hid k2; clear k2)
    try (have H3 := Lib.hid k3; clear k3)
    go_wp2_with fail
    go_quiet ((go_at_call 216; first | (with_reducible exact quiet_of_ex (K1.out _ _ H1.out)) | (with_reducible exact quiet_of_ex (K2.out _ _ H2.out)) | (with_reducible exact quiet_of_ex (K3.out _ _ H3.out)) | (with_reducible exact quiet_add_ex (K1.out _ _ H1.out)) | (with_reducible exact quiet_add_ex (K2.out _ _ H2.out)) | (with_reducible exact quiet_add_ex (K3.out _ _ H3.out))))
    go_wp2
    go_ret
    exact ⟨ret_bool HF.out.symm, by first | exact ⟨_, rfl⟩ | exact ⟨_, World.drewN_drewN _ _ _⟩⟩
  rcases k4 : (t.a.base == t.b.base) with _ | _
  · have HF : Hid (vmach t = false) := by simp only [Hid]; rw [HV.out, k1, k2, k3, k4]; rfl
    have i4 : (t.a.base != t.b.base) = true := by simp [bne, k4]
    clear k4
    have H1 := Lib.hid k1; clear k1
    try (have H2 := Lib.hid k2; clear k2)
    try (have H3 := Lib.hid k3; clear k3)
    go_wp2_with fail
    go_quiet ((go_at_call 216; first | (with_reducible exact quiet_of_ex (K1.out _ _ H1.out)) | (with_reducible exact quiet_of_ex (K2.out _ _ H2.out)) | (with_reducible exact quiet_of_ex (K3.out _ _ H3.out)) | (with_reducible exact quiet_add_ex (K1.out _ _ H1.out)) | (with_reducible exact quiet_add_ex (K2.out _ _ H2.out)) | (with_reducible exact quiet_add_ex (K3.out _ _ H3.out))))
    go_wp2
    go_ret
    exact ⟨ret_bool HF.out.symm, by first | exact ⟨_, rfl⟩ | exact ⟨_, World.drewN_drewN _ _ _⟩⟩
  rcases k5 : (t.s.base == t.b.base) with _ | _
  · have HF : Hid (vmach t = false) := by simp only [Hid]; rw [HV.out, k1, k2, k3, k4, k5]; rfl
    have e4 := eq_of_beq k4
    have i4 : (t.a.base != t.b.base) = false := by simp [bne, k4]
    have i5 : (t.a.base != t.s.base) = true := by
      rw [e4, bne_iff_ne]; intro h; rw [h] at k5; simp at k5
    have i6 : (t.b.base != t.s.base) = true := by rw [← e4]; exact i5
    clear k4 k5 e4
    have H1 := Lib.hid k1; clear k1
    try (have H2 := Lib.hid k2; clear k2)
    try (have H3 := Lib.hid k3; clear k3)
    go_wp2_with fail
    go_quiet ((go_at_call 216; first | (with_reducible exact quiet_of_ex (K1.out _ _ H1.out)) | (with_reducible exact quiet_of_ex (K2.out _ _ H2.out)) | (with_reducible exact quiet_of_ex (K3.out _ _ H3.out)) | (with_reducible exact quiet_add_ex (K1.out _ _ H1.out)) | (with_reducible exact quiet_add_ex (K2.out _ _ H2.out)) | (with_reducible exact quiet_add_ex (K3.out _ _ H3.out))))
    go_wp2
    go_ret
    exact ⟨ret_bool HF.out.symm, by first | exact ⟨_, rfl⟩ | exact ⟨_, World.drewN_drewN _ _ _⟩⟩
  have e4 := eq_of_beq k4
  have e5 := eq_of_beq k5
  have i4 : (t.a.base != t.b.base) = false := by simp [bne, k4]
  have i5 : (t.a.base != t.s.base) = false := by simp [e4, e5]
  obtain ⟨p1, p2, p3⟩ := ok_bd k1
  obtain ⟨p4, p5, p6⟩ := ok_bd k2
  obtain ⟨p7, p8, p9⟩ := ok_bd k3
  have HV := Lib.hid (show vmach t = ((fullB t.b && fullB t.s) && (decide (t.a.digits.length ≤ t.b.digits.length) && betB t.carry 0 (vplaces t - 1))) by rw [HV.out, k1, k2, k3, k4, k5]; simp)
  have H1 := Lib.hid k1; have H2 := Lib.hid k2; have H3 := Lib.hid k3
  have F1 := Lib.hid (fun (v : Bool) (hv : fullB t.b = v) W => calls_val (l10Full_any t.a.base t.b.digits.length W p1 p2 (by omega)) (congrArg Value.bool (show _ = v by rw [← hv]; unfold fullB; rw [e4])))
  have F2 := Lib.hid (fun (v : Bool) (hv : fullB t.s = v) W => calls_val (l10Full_any t.a.base t.s.digits.length W p1 p2 (by omega)) (congrArg Value.bool (show _ = v by rw [← hv]; unfold fullB; rw [e4, ← e5])))
  have hvp : vplaces t ≤ 16 ∧ -16 ≤ vplaces t := by unfold vplaces; omega
  clear k1 k2 k3 k4 k5 e4 e5
  go_wp2_with fail
  go_quiet ((go_at_call 216; first | (with_reducible exact quiet_of_ex (K1.out _ _ H1.out)) | (with_reducible exact quiet_of_ex (K2.out _ _ H2.out)) | (with_reducible exact quiet_of_ex (K3.out _ _ H3.out)) | (with_reducible exact quiet_add_ex (K1.out _ _ H1.out)) | (with_reducible exact quiet_add_ex (K2.out _ _ H2.out)) | (with_reducible exact quiet_add_ex (K3.out _ _ H3.out))))
  rcases f1 : fullB t.b with _ | _
  · have FF1 := Lib.hid f1; clear f1
    go_wp2_with (go_at_call 217; refine (F1.out _ FF1.out _).mono ?_; rintro e w' ⟨rfl, rfl⟩)
    go_ret
    exact ⟨ret_bool (by rw [HV.out, FF1.out]; rfl), _, rfl⟩
  rcases f2 : fullB t.s with _ | _
  · have FF1 := Lib.hid f1; have FF2 := Lib.hid f2; clear f1 f2
    go_wp2_with (go_at_call 217; first | (with_reducible refine (F1.out _ FF1.out _).mono ?_; rintro e w' ⟨rfl, rfl⟩) | (with_reducible refine (F2.out _ FF2.out _).mono ?_; rintro e w' ⟨rfl, rfl⟩))
    go_ret
    exact ⟨ret_bool (by rw [HV.out, FF1.out, FF2.out]; rfl), _, rfl⟩
  have HV := Lib.hid (show vmach t = (decide (t.a.digits.length ≤ t.b.digits.length) && betB t.carry 0 (vplaces t - 1)) by rw [HV.out, f1, f2]; simp)
  have FF1 := Lib.hid f1; have FF2 := Lib.hid f2; clear f1 f2
  by_cases k6 : t.a.digits.length ≤ t.b.digits.length
  · have i6 : (t.a.digits.length : Int) ≤ (t.b.digits.length : Int) := by omega
    have K6 := Lib.hid k6; clear k6
    go_wp2_with (go_at_call 217; first | (with_reducible refine (F1.out _ FF1.out _).mono ?_; rintro e w' ⟨rfl, rfl⟩) | (with_reducible refine (F2.out _ FF2.out _).mono ?_; rintro e w' ⟨rfl, rfl⟩))
    go_quiet ((first | (go_at_call 182; first | (with_reducible exact quiet_of_ex (KP.out _ p3 p6 p9)) | (with_reducible exact quiet_add_ex (KP.out _ p3 p6 p9)) | exact Calls.quiet_of (l10Places_any _ _ _ (by assumption) p3 p6 p9)) | (go_at_call 81; first | exact quiet_left (l00In_any _ _ _ _) | exact quiet_add_left (l00In_any _ _ _ _))))
    go_wp2
    go_ret
    exact ⟨ret_bool (by rw [HV.out, decide_eq_true K6.out]; rfl), by first | exact ⟨_, rfl⟩ | exact ⟨_, World.drewN_drewN _ _ _⟩⟩
  · have i6 : decide ((t.a.digits.length : Int) ≤ (t.b.digits.length : Int)) = false := decide_eq_false (by omega)
    have i7 : decide (t.a.digits.length ≤ t.b.digits.length) = false := decide_eq_false (by omega)
    have K6 := Lib.hid k6; clear k6
    go_wp2_with (go_at_call 217; first | (with_reducible refine (F1.out _ FF1.out _).mono ?_; rintro e w' ⟨rfl, rfl⟩) | (with_reducible refine (F2.out _ FF2.out _).mono ?_; rintro e w' ⟨rfl, rfl⟩))
    go_quiet ((first | (go_at_call 182; first | (with_reducible exact quiet_of_ex (KP.out _ p3 p6 p9)) | (with_reducible exact quiet_add_ex (KP.out _ p3 p6 p9)) | exact Calls.quiet_of (l10Places_any _ _ _ (by assumption) p3 p6 p9)) | (go_at_call 81; first | exact quiet_left (l00In_any _ _ _ _) | exact quiet_add_left (l00In_any _ _ _ _))))
    go_wp2
    go_ret
    exact ⟨ret_bool (by rw [HV.out, decide_eq_false K6.out]; rfl), by first | exact ⟨_, rfl⟩ | exact ⟨_, World.drewN_drewN _ _ _⟩⟩
end Go.Proofs.YtmmiahgmdllgdaaGreatDoor

namespace Go.Proofs.YtmmiahgmdllgdaaGreatDoor
open Go.RowKit
end Go.Proofs.YtmmiahgmdllgdaaGreatDoor

namespace Go.Proofs.YtmmiahgmdllgdaaGreatDoor
open Go.RowKit Go.Sort
def mtextL (t : Tri) : ByteArray := (((((((⟨(rtext t.a).toArray⟩ : ByteArray) ++ (⟨#[32]⟩ : ByteArray)) ++ (⟨(rtext t.b).toArray⟩ : ByteArray)) ++ (⟨#[32]⟩ : ByteArray)) ++ (⟨(rtext t.s).toArray⟩ : ByteArray)) ++ (⟨#[32]⟩ : ByteArray)) ++ (⟨(dec t.carry).toArray⟩ : ByteArray))
def mtext (t : Tri) : ByteArray := if vmach t then mtextL t else ⟨#[]⟩
theorem vmach_parts {t : Tri} (h : vmach t = true) : t.a.ok = true ∧ t.b.ok = true ∧ t.s.ok = true ∧ 0 ≤ t.carry ∧ t.carry ≤ 16 := by
  simp only [vmach, Bool.and_eq_true] at h
  obtain ⟨⟨⟨⟨h1, h2⟩, h3⟩, -⟩, -, h4⟩ := h
  obtain ⟨h5, h6⟩ := betB_iff.1 h4
  obtain ⟨-, -, p1⟩ := ok_bd h3
  exact ⟨h1, h2, h3, h5, by unfold vplaces at h6; omega⟩
set_option maxRecDepth 100000 in
set_option maxHeartbeats 1600000 in
theorem MachineText_any (t : Tri) (A1 A2 A3 : Option Addr) (c1 c2 c3 : Nat) (w : World) (r1 : RI w A1 t.a.digits.length t.a.digits) (r2 : RI w A2 t.b.digits.length t.b.digits) (r3 : RI w A3 t.s.digits.length t.s.digits) (hs : SmallTri t) (ht : TB w) :
    Calls Tryz.prog 71 #[.agg #[.int .i64 t.a.base, .slice A1 t.a.digits.length c1, .int .i64 t.b.base, .slice A2 t.b.digits.length c2, .int .i64 t.s.base, .slice A3 t.s.digits.length c3, .int .i64 t.carry]] w
      fun e w' => e = .returned (.string (mtext t)) ∧ Below w.heap.size w w' := by
  have hb0 : Below w.heap.size w (w.alloc (.cells #[.int .i64 t.a.base, .slice A1 t.a.digits.length c1, .int .i64 t.b.base, .slice A2 t.b.digits.length c2, .int .i64 t.s.base, .slice A3 t.s.digits.length c3, .int .i64 t.carry] 32)) := (Below.refl _ _).alloc (Nat.le_refl _) _
  rcases hv : vmach t with _ | _
  · have HF : Hid (mtext t = ⟨#[]⟩) := by simp [Hid, mtext, hv]
    go_enter Tryz.func71, Tryz.ntmps71
    go_wp2_with fail
    refine (ValidMachine_any t A1 A2 A3 c1 c2 c3 _ (r1.below hb0) (r2.below hb0) (r3.below hb0) hs).mono ?_; rintro e w1 ⟨rfl, hw1⟩
    rw [hv]
    go_wp2_with fail
    go_ret
    exact ⟨ret_str HF.out.symm, hb0.trans (hw1.mono (by simp <;> omega))⟩
  · have HF : Hid (mtext t = mtextL t) := by simp [Hid, mtext, hv]
    obtain ⟨o1, o2, o3, y0, y1⟩ := vmach_parts hv
    have l1 := rtext_len t.a
    have l2 := rtext_len t.b
    have l3 := rtext_len t.s
    have l4 := dec_len t.carry (by omega) (by omega)
    have hT0 : TriC (w.alloc (.cells #[.int .i64 t.a.base, .slice A1 t.a.digits.length c1, .int .i64 t.b.base, .slice A2 t.b.digits.length c2, .int .i64 t.s.base, .slice A3 t.s.digits.length c3, .int .i64 t.carry] 32)) ⟨w.heap.size, 0, none⟩ t A1 c1 A2 c2 A3 c3 := TriC.of_block (g := w.heap.size) (heap_alloc_new _ _) (r1.below hb0) (r2.below hb0) (r3.below hb0)
    go_enter Tryz.func71, Tryz.ntmps71
    go_wp2_with fail
    refine (ValidMachine_any t A1 A2 A3 c1 c2 c3 _ (r1.below hb0) (r2.below hb0) (r3.below hb0) hs).mono ?_; rintro e w1 ⟨rfl, hw1⟩
    rw [hv]
    have hbw := hb0.trans (hw1.mono (by simp <;> omega))
    have hT := hT0.below (by simp) hw1
    clear hT0
    obtain ⟨⟨g1, g2, g3, g4, g5, g6, g7⟩, q1, q2, q3⟩ := hT
    simp only [Nat.zero_add] at g1 g2 g3 g4 g5 g6 g7
    have x0 := cell_regrown g1
    have x1 := cell_regrown g2
    have x2 := cell_regrown g3
    have x3 := cell_regrown g4
    have x4 := cell_regrown g5
    have x5 := cell_regrown g6
    have x6 := cell_regrown g7
    have K1 := Lib.hid (fun (W : World) (hW : Below w1.heap.size w1 W) => RegisterText_reg t.a A1 c1 W (q1.below hW) hs.1 ((ht.below hbw).below hW))
    have K2 := Lib.hid (fun (W : World) (hW : Below w1.heap.size w1 W) => RegisterText_reg t.b A2 c2 W (q2.below hW) hs.2.1 ((ht.below hbw).below hW))
    have K3 := Lib.hid (fun (W : World) (hW : Below w1.heap.size w1 W) => RegisterText_reg t.s A3 c3 W (q3.below hW) hs.2.2 ((ht.below hbw).below hW))
    have K4 := Lib.hid (fun (W : World) (hW : Below w1.heap.size w1 W) => Decimal_any t.carry W (by omega) (by omega) ((ht.below hbw).below hW))
    go_wp2_with fail
    refine wp_region_quiet_below (by kernel_rfl) (by kernel_rfl) ?_
    repeat (go_big_quiet_step ((first | (go_at_call 134; first | (with_reducible exact quietB K1.out) | (with_reducible exact quietB K2.out) | (with_reducible exact quietB K3.out)) | (go_at_call 97; exact quietB K4.out))))
    refine wpQuiet_nil ?_
    intro _ hw'
    obtain ⟨⟨dq, osq⟩, hw''⟩ := hw'
    subst hw''
    go_wp2
    go_ret
    exact ⟨ret_str (by rw [HF.out]; rfl), hbw.trans ((below_regrown w1 dq osq).mono hbw.size)⟩
set_option maxRecDepth 100000 in
set_option maxHeartbeats 1600000 in
theorem l10Text_any (p : Addr) (t : Tri) (w : World) (hT : TriM w p t) (hlt : p.block < w.heap.size) (hv : vmach t = true) :
    Calls Tryz.prog 73 #[.pointer (some p)] w fun e w' => e = .returned (.string (mtextL t)) ∧ Below w.heap.size w w' := by
  obtain ⟨o1, o2, o3, y0, y1⟩ := vmach_parts hv
  have l1 := rtext_len t.a
  have l2 := rtext_len t.b
  have l3 := rtext_len t.s
  have l4 := dec_len t.carry (by omega) (by omega)
  have K1 := Lib.hid (fun (W : World) (hW : Below w.heap.size w W) => l02Text_any p t.a W (steady_RegM _ _ _ _ hlt hW hT.1) o1 (Nat.lt_of_lt_of_le hlt hW.size))
  have K2 := Lib.hid (fun (W : World) (hW : Below w.heap.size w W) => l02Text_any ⟨p.block, p.off + 2, none⟩ t.b W (steady_RegM _ _ _ _ hlt hW hT.2.1) o2 (Nat.lt_of_lt_of_le hlt hW.size))
  have K3 := Lib.hid (fun (W : World) (hW : Below w.heap.size w W) => l02Text_any ⟨p.block, p.off + 4, none⟩ t.s W (steady_RegM _ _ _ _ hlt hW hT.2.2.1) o3 (Nat.lt_of_lt_of_le hlt hW.size))
  have K4 := Lib.hid (fun (W : World) (_ : Below w.heap.size w W) => l01Dec_any t.carry W (by omega) (by omega))
  have x6 := cell_regrown hT.2.2.2
  clear hT
  go_enter Tryz.func73, Tryz.ntmps73
  go_wp2_with fail
  refine wp_region_quiet_below (by kernel_rfl) (by kernel_rfl) ?_
  repeat (go_big_quiet_step ((first | (go_at_call 136; first | (with_reducible exact quietB K1.out) | (with_reducible exact quietB K2.out) | (with_reducible exact quietB K3.out)) | (go_at_call 108; exact quietB K4.out))))
  refine wpQuiet_nil ?_
  intro _ hw'
  obtain ⟨⟨dq, osq⟩, hw''⟩ := hw'
  subst hw''
  go_wp2
  go_ret
  exact ⟨ret_str (by rfl), below_regrown w dq osq⟩
end Go.Proofs.YtmmiahgmdllgdaaGreatDoor

namespace Go.Proofs.YtmmiahgmdllgdaaGreatDoor
open Go.RowKit Go.Sort
theorem digs_zero : digs 0 = [] := by simp [digs]
theorem digs_facts : ∀ u : Nat, (digs u).all isD = true ∧ foldD (digs u) = u ∧ (∀ k, u < 10 ^ k → (digs u).length ≤ k) ∧ (u ≠ 0 → 1 ≤ (digs u).length) := by
  intro u
  induction u using Nat.strongRecOn with
  | _ u ih =>
    by_cases h : u = 0
    · subst h; rw [digs_zero]; exact ⟨rfl, rfl, fun _ _ => by simp, fun h => absurd rfl h⟩
    · obtain ⟨h1, h2, h3, -⟩ := ih (u / 10) (by omega)
      have hb : (UInt8.ofNat (48 + u % 10)).toNat = 48 + u % 10 := by rw [UInt8.toNat_ofNat']; omega
      rw [digs_step u h]
      refine ⟨?_, ?_, fun k hk => ?_, fun _ => by simp⟩
      · rw [List.all_append, h1]
        simp only [List.all_cons, List.all_nil, Bool.and_true, Bool.true_and]
        unfold isD; rw [hb]; exact decide_eq_true (by omega)
      · rw [foldD_snoc, h2, hb]; omega
      · cases k with
        | zero => simp at hk; omega
        | succ k =>
          have := h3 k (by rw [Nat.pow_succ] at hk; omega)
          simp; omega
theorem signOff_digs {l : List UInt8} (h : l.all isD = true) : signOff l = l := by
  cases l with
  | nil => rfl
  | cons b t =>
    rw [List.all_cons, Bool.and_eq_true] at h
    have h1 := of_decide_eq_true (show decide (48 ≤ b.toNat ∧ b.toNat ≤ 57) = true from h.1)
    simp only [signOff]; rw [if_neg (by omega)]
/-- a number is read back from its decimal form -/
theorem rdDec_dec (n : Int) (h : n.natAbs < 1000000000000000000) : rdDec (dec n) = some n := by
  obtain ⟨d1, d2, d3, d4⟩ := digs_facts n.natAbs
  have hlen := d3 18 h
  by_cases h0 : n = 0
  · subst h0
    have e : dec 0 = [48] := by rw [dec_of]; rfl
    have : numOf [48] = 0 := by decide
    unfold rdDec
    rw [e, this, e]; rfl
  · have d5 := d4 (by omega)
    by_cases hn : n < 0
    · have e : dec n = 45 :: digs n.natAbs := by rw [dec_of, if_neg h0, if_pos hn]
      have hs : signOff (dec n) = digs n.natAbs := by rw [e]; rfl
      have hv : numOf (dec n) = n := by
        unfold numOf; rw [hs, d2, if_pos (by rw [e]; simp)]; omega
      unfold rdDec
      rw [hv, hs, d1]; simp; omega
    · have e : dec n = digs n.natAbs := by rw [dec_of, if_neg h0, if_neg hn]
      have hs : signOff (dec n) = digs n.natAbs := by rw [e]; exact signOff_digs d1
      have hv : numOf (dec n) = n := by
        unfold numOf; rw [hs, d2, if_neg (by rw [e]; omega)]; omega
      unfold rdDec
      rw [hv, hs, d1]; simp; omega
theorem rdDec_sound {bs : List UInt8} {n : Int} (h : rdDec bs = some n) : dec n = bs := by
  unfold rdDec at h
  split at h
  · rename_i h1
    injection h with h
    simp only [Bool.and_eq_true, decide_eq_true_eq] at h1
    rw [← h]; exact h1.2
  · cases h
theorem dec_bytes (n : Int) : ∀ c ∈ dec n, c.toNat = 45 ∨ (48 ≤ c.toNat ∧ c.toNat ≤ 57) := by
  intro c hc
  rw [dec_of] at hc
  have hd : ∀ c ∈ digs n.natAbs, 48 ≤ c.toNat ∧ c.toNat ≤ 57 := fun c hc => of_decide_eq_true (List.all_eq_true.1 (digs_facts n.natAbs).1 c hc)
  split at hc
  · rw [List.mem_singleton.1 hc]; right; decide
  · split at hc
    · rcases List.mem_cons.1 hc with rfl | hc
      · left; rfl
      · right; exact hd c hc
    · right; exact hd c hc
theorem dec_ne (n : Int) : dec n ≠ [] := by
  rw [dec_of]
  split
  · simp
  · split
    · simp
    · intro h
      have := (digs_facts n.natAbs).2.2.2 (by omega)
      rw [h] at this; simp at this
theorem not_mem_dec {k : UInt8} (n : Int) (h : k.toNat ≠ 45) (h2 : k.toNat < 48 ∨ 57 < k.toNat) : k ∉ dec n := fun hm => by
  rcases dec_bytes n k hm with h3 | h3
  · exact h h3
  · omega
theorem dch_nat (d : Int) (h0 : 0 ≤ d) (h1 : d < 16) : (dch d).toNat = if d < 10 then 48 + d.toNat else 87 + d.toNat := by
  unfold dch; split <;> (rw [UInt8.toNat_ofNat']; omega)
theorem digV_dch (d : Int) (h0 : 0 ≤ d) (h1 : d < 16) : digV (dch d) = d := by
  unfold digV
  rw [dch_nat d h0 h1]
  by_cases h : d < 10
  · rw [if_pos h, if_pos (by omega)]; omega
  · rw [if_neg h, if_neg (by omega), if_pos (by omega)]; omega
theorem dch_digV (c : UInt8) (h : 0 ≤ digV c) : dch (digV c) = c := by
  have hlt := c.toNat_lt
  apply UInt8.toNat_inj.1
  unfold digV at h ⊢
  by_cases h1 : 48 ≤ c.toNat ∧ c.toNat ≤ 57
  · rw [if_pos h1, dch_nat _ (by omega) (by omega), if_pos (by omega)]; omega
  · rw [if_neg h1] at h ⊢
    by_cases h2 : 97 ≤ c.toNat ∧ c.toNat ≤ 102
    · rw [if_pos h2, dch_nat _ (by omega) (by omega), if_neg (by omega)]; omega
    · rw [if_neg h2] at h; omega
theorem rdR_text {b : Int} {ds : List Int} (h : vreg b ds = true) : rdR (rtextL b ds) = some ⟨b, ds⟩ := by
  obtain ⟨⟨b1, b2⟩, -, hd, -⟩ := vreg_iff.1 h
  unfold rdR rtextL
  rw [List.append_assoc, List.singleton_append, cutB_of 58 _ _ (not_mem_dec b (by decide) (by right; decide))]
  simp only [Option.bind_some]
  rw [rdDec_dec b (by omega)]
  simp only [Option.bind_some]
  have e : ((ds.reverse.map dch).reverse.map digV) = ds := by
    rw [← List.map_reverse, List.reverse_reverse, List.map_map]
    conv => rhs; rw [← List.map_id ds]
    refine List.map_congr_left fun d hm => ?_
    have := hd d hm
    exact digV_dch d this.1 (by omega)
  rw [e, h]; rfl
theorem rdR_sound {w : List UInt8} {r : Reg} (h : rdR w = some r) : r.ok = true ∧ rtextL r.base r.digits = w := by
  unfold rdR at h
  obtain ⟨⟨x, y⟩, h1, h2⟩ := Option.bind_eq_some_iff.1 h
  obtain ⟨n, h3, h4⟩ := Option.bind_eq_some_iff.1 h2
  split at h4
  · rename_i hv
    injection h4 with h4
    rw [← h4]
    refine ⟨hv, ?_⟩
    obtain ⟨h5, -⟩ := cutB_mem 58 w x y h1
    unfold rtextL
    simp only []
    rw [rdDec_sound h3, h5, List.append_assoc, List.singleton_append]
    congr 2
    rw [← List.map_reverse, List.reverse_reverse, List.map_map]
    conv => rhs; rw [← List.map_id y]
    refine List.map_congr_left fun c hc => ?_
    exact dch_digV c ((vreg_iff.1 hv).2.2.1 _ (List.mem_map.2 ⟨c, by simpa using hc, rfl⟩)).1
  · cases h4
theorem no32 {b : Int} {ds : List Int} (h : vreg b ds = true) : (32 : UInt8) ∉ rtextL b ds := by
  obtain ⟨⟨b1, b2⟩, -, hd, -⟩ := vreg_iff.1 h
  unfold rtextL
  intro hm
  rcases List.mem_append.1 hm with hm | hm
  · rcases List.mem_append.1 hm with hm | hm
    · exact not_mem_dec b (by decide) (by left; decide) hm
    · simp at hm
  · obtain ⟨d, hd1, hd2⟩ := List.mem_map.1 hm
    have h1 := hd d (by simpa using hd1)
    have h2 := dch_nat d h1.1 (by omega)
    rw [hd2] at h2
    have h3 : (32 : UInt8).toNat = 32 := rfl
    rw [h3] at h2
    split at h2 <;> omega
theorem rtextL_ne (b : Int) (ds : List Int) : rtextL b ds ≠ [] := by unfold rtextL; simp
theorem split_cases (k : UInt8) (bs : List UInt8) : (splitB k.toNat bs = [bs] ∧ k ∉ bs) ∨ ∃ x y, bs = x ++ k :: y ∧ k ∉ x ∧ splitB k.toNat bs = x :: splitB k.toNat y := by
  cases h : cutB [k] bs with
  | none => exact .inl ⟨splitB_none k bs (cutB_none k bs h), cutB_none k bs h⟩
  | some q =>
    obtain ⟨x, y⟩ := q
    obtain ⟨h1, h2⟩ := cutB_mem k bs x y h
    exact .inr ⟨x, y, h1, h2, by rw [h1, splitB_at k y x h2]⟩
theorem split_join {bs x : List UInt8} {t : List (List UInt8)} (h : splitB 32 bs = x :: t) : (t = [] ∧ bs = x) ∨ ∃ y, bs = x ++ 32 :: y ∧ splitB 32 y = t := by
  have e32 : (32 : UInt8).toNat = 32 := rfl
  rcases split_cases 32 bs with ⟨h1, -⟩ | ⟨a, y, h1, -, h3⟩
  · rw [e32, h] at h1; injection h1 with h1 h2; exact .inl ⟨h2, h1.symm⟩
  · rw [e32, h] at h3; injection h3 with h3 h4; exact .inr ⟨y, by rw [h3]; exact h1, h4.symm⟩
theorem strB_cat (a b : ByteArray) : strB (a ++ b) = strB a ++ strB b := by simp [strB]
theorem strB_mtextL {t : Tri} (h : vmach t = true) : strB (mtextL t) = rtextL t.a.base t.a.digits ++ 32 :: (rtextL t.b.base t.b.digits ++ 32 :: (rtextL t.s.base t.s.digits ++ 32 :: dec t.carry)) := by
  obtain ⟨h1, h2, h3, -⟩ := vmach_parts h
  unfold mtextL
  simp only [strB_cat, strB_mk]
  unfold rtext
  rw [if_pos h1, if_pos h2, if_pos h3]
  simp
/-- the machine of a text -/
def rdM (bs : List UInt8) : Option Tri := match wordsB bs with
  | [w0, w1, w2, w3] => if ((rdR w0).isSome && (rdR w1).isSome && (rdR w2).isSome && (rdDec w3).isSome) && decide (strB (mtext ⟨rdReg w0, rdReg w1, rdReg w2, rdN w3⟩) = bs) then some ⟨rdReg w0, rdReg w1, rdReg w2, rdN w3⟩ else none
  | _ => none
theorem isSome_R {w : List UInt8} (h : (rdR w).isSome = true) : (rdReg w).ok = true ∧ rtextL (rdReg w).base (rdReg w).digits = w := by
  obtain ⟨r, hr⟩ := Option.isSome_iff_exists.1 h
  rw [(rdr_some hr).1]; exact rdR_sound hr
theorem isSome_N {w : List UInt8} (h : (rdDec w).isSome = true) : dec (rdN w) = w := by
  obtain ⟨r, hr⟩ := Option.isSome_iff_exists.1 h
  rw [(rd_some hr).1]; exact rdDec_sound hr
theorem rdM_text {t : Tri} (h : vmach t = true) : rdM (strB (mtextL t)) = some t ∧ splitB 32 (strB (mtextL t)) = [rtextL t.a.base t.a.digits, rtextL t.b.base t.b.digits, rtextL t.s.base t.s.digits, dec t.carry] := by
  obtain ⟨h1, h2, h3, h4, h5⟩ := vmach_parts h
  have e32 : (32 : UInt8).toNat = 32 := rfl
  have hsp : splitB 32 (strB (mtextL t)) = [rtextL t.a.base t.a.digits, rtextL t.b.base t.b.digits, rtextL t.s.base t.s.digits, dec t.carry] := by
    rw [strB_mtextL h, ← e32, splitB_at 32 _ _ (no32 h1), splitB_at 32 _ _ (no32 h2), splitB_at 32 _ _ (no32 h3), splitB_none 32 _ (not_mem_dec _ (by decide) (by left; decide))]
  have hw : wordsB (strB (mtextL t)) = [rtextL t.a.base t.a.digits, rtextL t.b.base t.b.digits, rtextL t.s.base t.s.digits, dec t.carry] := by
    unfold wordsB
    rw [hsp, List.filter_eq_self]
    intro x hx
    simp only [List.mem_cons, List.not_mem_nil, or_false] at hx
    rcases hx with rfl | rfl | rfl | rfl
    · simpa using rtextL_ne _ _
    · simpa using rtextL_ne _ _
    · simpa using rtextL_ne _ _
    · simpa using dec_ne _
  have q1 := rdr_some (rdR_text h1)
  have q2 := rdr_some (rdR_text h2)
  have q3 := rdr_some (rdR_text h3)
  have q4 := rd_some (rdDec_dec t.carry (by omega))
  refine ⟨?_, hsp⟩
  unfold rdM
  rw [hw]
  simp only []
  rw [q1.1, q1.2, q2.1, q2.2, q3.1, q3.2, q4.1, q4.2]
  have e : (⟨⟨t.a.base, t.a.digits⟩, ⟨t.b.base, t.b.digits⟩, ⟨t.s.base, t.s.digits⟩, t.carry⟩ : Tri) = t := rfl
  have e2 : mtext t = mtextL t := by unfold mtext; rw [if_pos h]
  rw [e, e2]; simp
theorem rdM_sound {bs : List UInt8} {t : Tri} (h : rdM bs = some t) : vmach t = true ∧ strB (mtextL t) = bs := by
  unfold rdM at h
  split at h
  · rename_i w0 w1 w2 w3 hw
    split at h
    · rename_i hc
      injection h with h
      simp only [Bool.and_eq_true, decide_eq_true_eq] at hc
      obtain ⟨-, hm⟩ := hc
      rw [h] at hm
      rcases hv : vmach t with _ | _
      · unfold mtext at hm; rw [hv] at hm
        have : bs = [] := by rw [← hm]; rfl
        subst this
        simp [wordsB, splitB] at hw
      · unfold mtext at hm; rw [hv] at hm; exact ⟨rfl, hm⟩
    · cases h
  · cases h
theorem rdM_spec (bs : List UInt8) : rdM bs = match splitB 32 bs with
    | [w0, w1, w2, w3] => if ((rdR w0).isSome && (rdR w1).isSome && (rdR w2).isSome && (rdDec w3).isSome) && vmach ⟨rdReg w0, rdReg w1, rdReg w2, rdN w3⟩ then some ⟨rdReg w0, rdReg w1, rdReg w2, rdN w3⟩ else none
    | _ => none := by
  cases h : rdM bs with
  | some t =>
    obtain ⟨hv, hm⟩ := rdM_sound h
    obtain ⟨-, hsp⟩ := rdM_text hv
    rw [hm] at hsp
    rw [hsp]
    simp only []
    obtain ⟨h1, h2, h3, h4, h5⟩ := vmach_parts hv
    have q1 := rdr_some (rdR_text h1)
    have q2 := rdr_some (rdR_text h2)
    have q3 := rdr_some (rdR_text h3)
    have q4 := rd_some (rdDec_dec t.carry (by omega))
    rw [q1.1, q1.2, q2.1, q2.2, q3.1, q3.2, q4.1, q4.2]
    have e : (⟨⟨t.a.base, t.a.digits⟩, ⟨t.b.base, t.b.digits⟩, ⟨t.s.base, t.s.digits⟩, t.carry⟩ : Tri) = t := rfl
    rw [e, hv]; simp
  | none =>
    split
    · rename_i w0 w1 w2 w3 hsp
      split
      · rename_i hc
        exfalso
        simp only [Bool.and_eq_true] at hc
        obtain ⟨⟨⟨⟨c0, c1⟩, c2⟩, c3⟩, hv⟩ := hc
        have t0 := (isSome_R c0).2
        have t1 := (isSome_R c1).2
        have t2 := (isSome_R c2).2
        have t3 := isSome_N c3
        rcases split_join hsp with ⟨h1, -⟩ | ⟨y1, e1, hs1⟩
        · cases h1
        rcases split_join hs1 with ⟨h1, -⟩ | ⟨y2, e2, hs2⟩
        · cases h1
        rcases split_join hs2 with ⟨h1, -⟩ | ⟨y3, e3, hs3⟩
        · cases h1
        rcases split_join hs3 with ⟨-, e4⟩ | ⟨y4, e4, hs4⟩
        · have hm := strB_mtextL hv
          simp only [] at hm
          rw [t0, t1, t2, t3] at hm
          have : strB (mtextL ⟨rdReg w0, rdReg w1, rdReg w2, rdN w3⟩) = bs := by rw [hm, e1, e2, e3, e4]
          have h2 := (rdM_text hv).1
          rw [this, h] at h2; cases h2
        · exact splitB_ne 32 y4 hs4
      · rfl
    · rfl
end Go.Proofs.YtmmiahgmdllgdaaGreatDoor

namespace Go.Proofs.YtmmiahgmdllgdaaGreatDoor
open Go.RowKit Go.Sort
def rdMach (bs : List UInt8) : Tri := (rdM bs).getD zTri
theorem rdm_none {bs : List UInt8} (h : rdM bs = none) : rdMach bs = zTri ∧ (rdM bs).isSome = false := by simp [rdMach, h]
theorem rdm_some {bs : List UInt8} {r : Tri} (h : rdM bs = some r) : rdMach bs = r ∧ (rdM bs).isSome = true := by simp [rdMach, h]
theorem rdReg_len (bs : List UInt8) : (rdReg bs).digits.length ≤ 16 := by
  cases h : rdR bs with
  | none => rw [(rdr_none h).1]; simp
  | some r => rw [(rdr_some h).1]; exact (ok_bd (rdR_sound h).1).2.2
theorem readB (s : ByteArray) (hs : s.size ≤ 1048576) (R : Reg) (hR : rdReg (strB s) = R) (ok : Bool) (hok : (rdR (strB s)).isSome = ok) (w : World) (ht : TB w) :
    Calls Tryz.prog 165 #[.string s] w fun e w' => ∃ A c, e = .returned (.tuple #[.agg #[.int .i64 R.base, .slice A R.digits.length c], .bool ok]) ∧ Kn w [rowI A c R.digits] w' := by
  subst hR; subst hok; exact ReadRegister_any s w hs ht
theorem readS (s : ByteArray) (hs : s.size ≤ 1048576) (R : Reg) (hR : rdReg (strB s) = R) (ok : Bool) (hok : (rdR (strB s)).isSome = ok) (w : World) :
    Calls Tryz.prog 166 #[.string s] w fun e w' => ∃ A c, e = .returned (.tuple #[.agg #[.int .i64 R.base, .slice A R.digits.length c], .bool ok]) ∧ Kn w [rowI A c R.digits] w' := by
  subst hR; subst hok; exact specReadRegister_any s w hs
theorem words_each (bs : List UInt8) : ∀ x ∈ wordsB bs, x.length ≤ bs.length := fun x hx => splitB_each 32 bs x (List.mem_filter.1 hx).1
theorem Kn.sw6 {w0 w : World} {m : List Ent} {a b c d e f g : Ent} (h : Kn w0 (a :: b :: c :: d :: e :: f :: g :: m) w) : Kn w0 (g :: a :: b :: c :: d :: e :: f :: m) w := h.perm (by
  have := (List.perm_middle (a := g) (l₁ := [a, b, c, d, e, f]) (l₂ := m)); simpa using this)
theorem eq4B (a b c d : Bool) (w : World) : (Op.equalIn 10000 189 (.agg #[.bool a, .bool b, .bool c, .bool d]) (.agg #[.bool true, .bool true, .bool true, .bool true])).run Tryz.prog w = .ok (a && b && c && d) w := by
  cases a <;> cases b <;> cases c <;> cases d <;> kernel_rfl
set_option maxRecDepth 100000 in
set_option maxHeartbeats 800000 in
theorem ReadMachine_any (s : ByteArray) (w : World) (hs : s.size ≤ 1048576) (htb0 : TB w) :
    Calls Tryz.prog 125 #[.string s] w fun e w' => ∃ A1 c1 A2 c2 A3 c3, e = .returned (.tuple #[.agg #[.int .i64 (rdMach (strB s)).a.base, .slice A1 (rdMach (strB s)).a.digits.length c1, .int .i64 (rdMach (strB s)).b.base, .slice A2 (rdMach (strB s)).b.digits.length c2, .int .i64 (rdMach (strB s)).s.base, .slice A3 (rdMach (strB s)).s.digits.length c3, .int .i64 (rdMach (strB s)).carry], .bool (rdM (strB s)).isSome]) ∧
      Kn w [rowI A3 c3 (rdMach (strB s)).s.digits, rowI A2 c2 (rdMach (strB s)).b.digits, rowI A1 c1 (rdMach (strB s)).a.digits] w' := by
  have HRD := Lib.hid (show rdM (strB s) = _ from rfl)
  have KS := Lib.hid (fun W => SplitWords_any s W hs)
  have hjoin : ∀ x ∈ wordsB (strB s), x.length ≤ 1048576 := by
    intro x hx
    have := words_each (strB s) x hx; rw [strB_len] at this; omega
  have HT := Lib.hid (fun W (hW : Below w.heap.size w W) => TB.below htb0 hW)
  clear htb0
  go_enter Tryz.func125, Tryz.ntmps125
  go_wp2_with fail
  refine Calls.kn ((Kn.nil w).al [.int .i64 0, .slice none 0 0, .int .i64 0, .slice none 0 0, .int .i64 0, .slice none 0 0, .int .i64 0] 32) ?_; intro w1 hK1
  refine (KS.out w1).mono ?_; rintro e w2 ⟨A, c, ss, rfl, hss, hK⟩
  have hK2 := hK1.join hK
  have HSS := Lib.hid hss
  have HJ := Lib.hid hjoin
  clear hK hK1 hss hjoin
  obtain ⟨d1, d2, d3, -⟩ := hK2.cells
  have HNO : Hid (ss.length ≠ 4 → rdM (strB s) = none) := by
    intro h
    unfold rdM
    rw [← HSS.out]
    match ss, h with
    | [], _ => rfl
    | [_], _ => rfl
    | [_, _], _ => rfl
    | [_, _, _], _ => rfl
    | [_, _, _, _], h => exact absurd rfl h
    | _ :: _ :: _ :: _ :: _ :: _, _ => rfl
  by_cases hl4 : ss.length = 4
  · have HYES : Hid (∃ x0 x1 x2 x3, ss = [x0, x1, x2, x3]) := by
      match ss, hl4 with
      | [x0, x1, x2, x3], _ => exact ⟨x0, x1, x2, x3, rfl⟩
    obtain ⟨x0, x1, x2, x3, rfl⟩ := HYES.out
    obtain ⟨-, g, rfl, -, hg0, hg1⟩ := hK2.rowS_at (k := 0) (by simp)
    have b0 : x0.size ≤ 1048576 := by rw [← strB_len]; exact HJ.out _ (by rw [← HSS.out]; simp)
    have b1 : x1.size ≤ 1048576 := by rw [← strB_len]; exact HJ.out _ (by rw [← HSS.out]; simp)
    have b2 : x2.size ≤ 1048576 := by rw [← strB_len]; exact HJ.out _ (by rw [← HSS.out]; simp)
    have b3 : x3.size ≤ 1048576 := by rw [← strB_len]; exact HJ.out _ (by rw [← HSS.out]; simp)
    obtain ⟨t, ht⟩ : ∃ t : Tri, (⟨rdReg (strB x0), rdReg (strB x1), rdReg (strB x2), rdN (strB x3)⟩ : Tri) = t := ⟨_, rfl⟩
    have hta : rdReg (strB x0) = t.a := by rw [← ht]
    have htb : rdReg (strB x1) = t.b := by rw [← ht]
    have hts : rdReg (strB x2) = t.s := by rw [← ht]
    have htc : rdN (strB x3) = t.carry := by rw [← ht]
    have n1 := rdReg_len (strB x0); rw [hta] at n1
    have n2 := rdReg_len (strB x1); rw [htb] at n2
    have n3 := rdReg_len (strB x2); rw [hts] at n3
    obtain ⟨ok1, hok1⟩ : ∃ b, (rdR (strB x0)).isSome = b := ⟨_, rfl⟩
    obtain ⟨ok2, hok2⟩ : ∃ b, (rdR (strB x1)).isSome = b := ⟨_, rfl⟩
    obtain ⟨ok3, hok3⟩ : ∃ b, (rdR (strB x2)).isSome = b := ⟨_, rfl⟩
    obtain ⟨ok4, hok4⟩ : ∃ b, (rdDec (strB x3)).isSome = b := ⟨_, rfl⟩
    have HRR : Hid (rdM (strB s) = if (ok1 && ok2 && ok3 && ok4) && decide (strB (mtext t) = strB s) then some t else none) := by
      simp only [Hid, rdM]
      rw [← HSS.out]
      simp only [List.map_cons, List.map_nil]
      rw [hok1, hok2, hok3, hok4, ht]
    have K1 := Lib.hid (fun W hW => readB x0 b0 t.a hta ok1 hok1 W hW)
    have K2 := Lib.hid (fun W hW => readB x1 b1 t.b htb ok2 hok2 W hW)
    have K3 := Lib.hid (fun W hW => readB x2 b2 t.s hts ok3 hok3 W hW)
    have K4 := (fun W hW => ReadDecimal_any x3 W (by omega) hW)
    rw [htc, hok4] at K4
    have K4 := Lib.hid K4
    clear hl4 ht hta htb hts htc hok1 hok2 hok3 hok4
    have s0 := hK2.rowS_get (k := 0) (by simp)
    have s1 := hK2.rowS_get (k := 1) (by simp)
    have s2 := hK2.rowS_get (k := 2) (by simp)
    have s3 := hK2.rowS_get (k := 3) (by simp)
    simp only [List.getElem_cons_zero, List.getElem_cons_succ] at s0 s1 s2 s3
    have hK4 := ((hK2.al [.int .i64 0, .slice none 0 0, .int .i64 0, .slice none 0 0, .int .i64 0, .slice none 0 0, .int .i64 0] 32).al [.bool false, .bool false, .bool false, .bool false] 189).sw1
    simp only [World.size_alloc] at hK4
    have hap := hK4.apart
    simp [Ent.fp] at hap
    go_wp2_with fail
    refine Calls.kn hK4 ?_; intro w3 hK5
    clear s0 s1 s2 s3 hK4
    refine (K1.out _ (HT.out _ hK5.below)).mono ?_; rintro e w4 ⟨A1, c1, rfl, hK⟩
    have hK6 := hK5.join hK
    clear hK hK5
    obtain ⟨a1, a2, a3, f1, f2, f3, -⟩ := hK6.cells
    have s1 := hK6.drop.drop.drop.rowS_get (k := 1) (by simp)
    simp only [List.getElem_cons_succ, List.getElem_cons_zero] at s1
    go_wp2_with fail
    refine Calls.kn (m := [.blk (w2.heap.size + 1) [.bool ok1, .bool false, .bool false, .bool false] 189, .blk w2.heap.size [.int .i64 t.a.base, .slice A1 t.a.digits.length c1, .int .i64 0, .slice none 0 0, .int .i64 0, .slice none 0 0, .int .i64 0] 32, rowI A1 c1 t.a.digits, rowS (.slice (some ⟨g, 0, none⟩) 4 c) [x0, x1, x2, x3], .blk w.heap.size [.int .i64 0, .slice none 0 0, .int .i64 0, .slice none 0 0, .int .i64 0, .slice none 0 0, .int .i64 0] 32]) (((hK6.sw1.st 0 _).st 1 _).sw2.st 0 _) ?_; intro w5 hK7
    clear a1 a2 a3 f1 f2 f3 s1 hK6
    refine (K2.out _ (HT.out _ hK7.below)).mono ?_; rintro e w6 ⟨A2, c2, rfl, hK⟩
    have hK8 := hK7.join hK
    clear hK hK7
    obtain ⟨f1, f2, f3, a1, a2, a3, -⟩ := hK8.cells
    have s2 := hK8.drop.drop.drop.drop.rowS_get (k := 2) (by simp)
    simp only [List.getElem_cons_succ, List.getElem_cons_zero] at s2
    go_wp2_with fail
    refine Calls.kn (m := [.blk (w2.heap.size + 1) [.bool ok1, .bool ok2, .bool false, .bool false] 189, .blk w2.heap.size [.int .i64 t.a.base, .slice A1 t.a.digits.length c1, .int .i64 t.b.base, .slice A2 t.b.digits.length c2, .int .i64 0, .slice none 0 0, .int .i64 0] 32, rowI A2 c2 t.b.digits, rowI A1 c1 t.a.digits, rowS (.slice (some ⟨g, 0, none⟩) 4 c) [x0, x1, x2, x3], .blk w.heap.size [.int .i64 0, .slice none 0 0, .int .i64 0, .slice none 0 0, .int .i64 0, .slice none 0 0, .int .i64 0] 32]) (((hK8.sw2.st 2 _).st 3 _).sw2.st 1 _) ?_; intro w7 hK9
    clear a1 a2 a3 f1 f2 f3 s2 hK8
    refine (K3.out _ (HT.out _ hK9.below)).mono ?_; rintro e w8 ⟨A3, c3, rfl, hK⟩
    have hK10 := hK9.join hK
    clear hK hK9
    obtain ⟨f1, f2, f3, a1, a2, a3, -⟩ := hK10.cells
    have s3 := hK10.drop.drop.drop.drop.drop.rowS_get (k := 3) (by simp)
    simp only [List.getElem_cons_succ, List.getElem_cons_zero] at s3
    go_wp2_with fail
    refine Calls.kn (m := [.blk (w2.heap.size + 1) [.bool ok1, .bool ok2, .bool ok3, .bool false] 189, .blk w2.heap.size [.int .i64 t.a.base, .slice A1 t.a.digits.length c1, .int .i64 t.b.base, .slice A2 t.b.digits.length c2, .int .i64 t.s.base, .slice A3 t.s.digits.length c3, .int .i64 0] 32, rowI A3 c3 t.s.digits, rowI A2 c2 t.b.digits, rowI A1 c1 t.a.digits, rowS (.slice (some ⟨g, 0, none⟩) 4 c) [x0, x1, x2, x3], .blk w.heap.size [.int .i64 0, .slice none 0 0, .int .i64 0, .slice none 0 0, .int .i64 0, .slice none 0 0, .int .i64 0] 32]) (((hK10.sw2.st 4 _).st 5 _).sw2.st 2 _) ?_; intro w9 hK11
    clear a1 a2 a3 f1 f2 f3 s3 hK10
    refine (K4.out _ (HT.out _ hK11.below)).mono ?_; rintro e w10 ⟨rfl, hw⟩
    have hK12 := hK11.keep hw
    clear hw hK11
    obtain ⟨f1, f2, f3, a1, a2, a3, d1, d2, d3, -⟩ := hK12.cells
    have hKG : Kn w [.blk (w2.heap.size + 1) [.bool ok1, .bool ok2, .bool ok3, .bool ok4] 189, .blk w2.heap.size [.int .i64 t.a.base, .slice A1 t.a.digits.length c1, .int .i64 t.b.base, .slice A2 t.b.digits.length c2, .int .i64 t.s.base, .slice A3 t.s.digits.length c3, .int .i64 t.carry] 32, rowI A3 c3 t.s.digits, rowI A2 c2 t.b.digits, rowI A1 c1 t.a.digits, rowS (.slice (some ⟨g, 0, none⟩) 4 c) [x0, x1, x2, x3], .blk w.heap.size [.int .i64 0, .slice none 0 0, .int .i64 0, .slice none 0 0, .int .i64 0, .slice none 0 0, .int .i64 0] 32] _ := ((hK12.sw1.st 6 (.int .i64 t.carry)).sw1.st 3 (.bool ok4))
    rcases hall : (ok1 && ok2 && ok3 && ok4) with _ | _
    · have HU := Lib.hid (rdm_none (bs := strB s) (by rw [HRR.out, hall]; rfl))
      have HE4 := fun W => eq4B ok1 ok2 ok3 ok4 W
      simp only [hall] at HE4
      clear hall
      go_wp2_with (refine wpList.kn hKG ?_; intro w11 hK13; clear d1 d2 d3 f1 f2 f3 a1 a2 a3; obtain ⟨f1, f2, f3, a1, a2, a3, d1, d2, d3, -⟩ := hK13.cells)
      refine bodyPost_ret (v := .tuple #[.agg #[.int .i64 0, .slice none 0 0, .int .i64 0, .slice none 0 0, .int .i64 0, .slice none 0 0, .int .i64 0], .bool false]) (by simp [results, Tryz.results125, go_sem, d1]) rfl ⟨none, 0, none, 0, none, 0, by rw [HU.out.1, HU.out.2]; rfl, ?_⟩
      rw [HU.out.1]
      exact ((((((((((hK13.sw6.st 0 (.int .i64 0)).st 1 (.slice none 0 0)).st 2 (.int .i64 0)).st 3 (.slice none 0 0)).st 4 (.int .i64 0)).st 5 (.slice none 0 0)).st 6 (.int .i64 0))).bare.nilRow _ _).nilRow _ _).nilRow _ _
    · have HE4 := fun W => eq4B ok1 ok2 ok3 ok4 W
      simp only [hall] at HE4
      have HRR := Lib.hid (show rdM (strB s) = if decide (strB (mtext t) = strB s) then some t else none by rw [HRR.out, hall]; simp)
      clear hall
      have KM := Lib.hid (fun W (r1 : RI W A1 t.a.digits.length t.a.digits) (r2 : RI W A2 t.b.digits.length t.b.digits) (r3 : RI W A3 t.s.digits.length t.s.digits) hW => MachineText_any t A1 A2 A3 c1 c2 c3 W r1 r2 r3 ⟨by unfold SmallReg; omega, by unfold SmallReg; omega, by unfold SmallReg; omega⟩ hW)
      go_wp2_with (refine wpList.kn hKG ?_; intro w11 hK13; clear d1 d2 d3 f1 f2 f3 a1 a2 a3; obtain ⟨f1, f2, f3, a1, a2, a3, d1, d2, d3, -⟩ := hK13.cells)
      refine (KM.out w11 hK13.drop.drop.drop.drop.ownI.ri hK13.drop.drop.drop.ownI.ri hK13.drop.drop.ownI.ri (HT.out _ hK13.below)).mono ?_; rintro e w12 ⟨rfl, hw⟩
      have hK14 := hK13.keep hw
      clear hw d1 d2 d3 f1 f2 f3 a1 a2 a3 hKG
      obtain ⟨f1, f2, f3, a1, a2, a3, d1, d2, d3, -⟩ := hK14.cells
      rcases hq : ((mtext t).toList == s.toList) with _ | _
      · have HU := Lib.hid (rdm_none (bs := strB s) (by rw [HRR.out]; rw [strB_toList, strB_toList, beq_eq_false_iff_ne] at hq; simp [hq]))
        go_wp2_with fail
        refine bodyPost_ret (v := .tuple #[.agg #[.int .i64 0, .slice none 0 0, .int .i64 0, .slice none 0 0, .int .i64 0, .slice none 0 0, .int .i64 0], .bool false]) (by simp [results, Tryz.results125, go_sem, d1]) rfl ⟨none, 0, none, 0, none, 0, by rw [HU.out.1, HU.out.2]; rfl, ?_⟩
        rw [HU.out.1]
        exact ((((((((((hK14.sw6.st 0 (.int .i64 0)).st 1 (.slice none 0 0)).st 2 (.int .i64 0)).st 3 (.slice none 0 0)).st 4 (.int .i64 0)).st 5 (.slice none 0 0)).st 6 (.int .i64 0))).bare.nilRow _ _).nilRow _ _).nilRow _ _
      · have HU := Lib.hid (rdm_some (bs := strB s) (r := t) (by rw [HRR.out]; rw [strB_toList, strB_toList, beq_iff_eq] at hq; simp [hq]))
        go_wp2_with fail
        have hKT := hK14
        have hK15 := (((((((hKT.sw6.st 0 (.int .i64 t.a.base)).st 1 (.slice A1 t.a.digits.length c1)).st 2 (.int .i64 t.b.base)).st 3 (.slice A2 t.b.digits.length c2)).st 4 (.int .i64 t.s.base)).st 5 (.slice A3 t.s.digits.length c3)).st 6 (.int .i64 t.carry))
        refine bodyPost_ret (v := .tuple #[.agg #[.int .i64 t.a.base, .slice A1 t.a.digits.length c1, .int .i64 t.b.base, .slice A2 t.b.digits.length c2, .int .i64 t.s.base, .slice A3 t.s.digits.length c3, .int .i64 t.carry], .bool true]) (by simp [results, Tryz.results125, go_sem, d1]) rfl ⟨A1, c1, A2, c2, A3, c3, by rw [HU.out.1, HU.out.2], ?_⟩
        rw [HU.out.1]
        exact hK15.drop.drop.drop.drop3
  · have HU := Lib.hid (rdm_none (bs := strB s) (HNO.out hl4))
    have k1 : ((ss.length : Int) != 4) = true := by rw [bne_iff_ne]; omega
    clear hl4
    go_wp2_with fail
    refine bodyPost_ret (v := .tuple #[.agg #[.int .i64 0, .slice none 0 0, .int .i64 0, .slice none 0 0, .int .i64 0, .slice none 0 0, .int .i64 0], .bool false]) (by simp [results, Tryz.results125, go_sem, d1]) rfl ⟨none, 0, none, 0, none, 0, by rw [HU.out.1, HU.out.2]; rfl, ?_⟩
    rw [HU.out.1]
    exact ((((((((((hK2.sw1.st 0 (.int .i64 0)).st 1 (.slice none 0 0)).st 2 (.int .i64 0)).st 3 (.slice none 0 0)).st 4 (.int .i64 0)).st 5 (.slice none 0 0)).st 6 (.int .i64 0))).bare.nilRow _ _).nilRow _ _).nilRow _ _
end Go.Proofs.YtmmiahgmdllgdaaGreatDoor

namespace Go.Proofs.YtmmiahgmdllgdaaGreatDoor
open Go.RowKit Go.Sort
structure Ins where
  op : Int
  arg : Int
deriving DecidableEq
def InsM (w : World) (p : Addr) (x : Ins) : Prop := w.cell? p = some (.int .i64 x.op) ∧ w.cell? ⟨p.block, p.off + 1, none⟩ = some (.int .i64 x.arg)
theorem steady_InsM : Steady InsM := by
  rintro w w' p f hp hb ⟨h1, h2⟩
  exact ⟨by rw [hb.cell hp]; exact h1, by rw [hb.cell (by exact hp)]; exact h2⟩
def instrOk (op arg : Int) : Bool := if op = 1 then betB arg 0 1000000000000 else if op = 2 ∨ op = 3 ∨ op = 4 ∨ op = 5 ∨ op = 8 then betB arg 1 100 else if op = 6 ∨ op = 7 ∨ op = 9 ∨ op = 10 then arg == 0 else false
def opens (op : Int) : Bool := op == 8 || op == 9
/-- how many loops are open behind an instruction; none where it does not fit -/
def depthStep (op d : Int) : Option Int := if op = 10 then (if d = 0 then none else some (d - 1)) else if opens op then (if d = 4 then none else some (d + 1)) else some d
def stepI (d : Option Int) (x : Ins) : Option Int := d.bind fun d => if instrOk x.op x.arg then depthStep x.op d else none
def progD (xs : List Ins) : Option Int := xs.foldl stepI (some 0)
def vprog (xs : List Ins) : Bool := decide (progD xs = some 0) && decide (xs.length ≤ 120)
theorem progD_succ {xs : List Ins} {k : Nat} (h : k < xs.length) : progD (xs.take (k + 1)) = stepI (progD (xs.take k)) xs[k] := by
  unfold progD; rw [List.take_succ_eq_append_getElem h, List.foldl_append]; rfl
theorem stepI_none (xs : List Ins) : xs.foldl stepI none = none := by
  induction xs with
  | nil => rfl
  | cons x xs ih => exact ih
theorem progD_none {xs : List Ins} {k : Nat} (h : progD (xs.take k) = none) : progD xs = none := by
  unfold progD at *
  rw [← List.take_append_drop k xs, List.foldl_append, h, stepI_none]
theorem depthStep_bd {op d e : Int} (h : depthStep op d = some e) (h0 : 0 ≤ d) (h4 : d ≤ 4) : 0 ≤ e ∧ e ≤ 4 := by
  unfold depthStep at h
  split at h
  · split at h
    · cases h
    · injection h with h; omega
  · split at h
    · split at h
      · cases h
      · injection h with h; omega
    · injection h with h; omega
theorem op_cases (op : Int) : op = 1 ∨ op = 2 ∨ op = 3 ∨ op = 4 ∨ op = 5 ∨ op = 6 ∨ op = 7 ∨ op = 8 ∨ op = 9 ∨ op = 10 ∨ (op < 1 ∨ 10 < op) := by omega
theorem op_else {op : Int} (h : op < 1 ∨ 10 < op) : (op == 1) = false ∧ (op == 2) = false ∧ (op == 3) = false ∧ (op == 4) = false ∧ (op == 5) = false ∧ (op == 6) = false ∧ (op == 7) = false ∧ (op == 8) = false ∧ (op == 9) = false ∧ (op == 10) = false := by
  simp only [beq_eq_false_iff_ne]; omega
theorem instrOk_else {op arg : Int} (h : op < 1 ∨ 10 < op) : instrOk op arg = false := by
  unfold instrOk; rw [if_neg (by omega), if_neg (by omega), if_neg (by omega)]
theorem betB_0 (arg : Int) : betB arg 0 0 = (arg == 0) := by rw [Bool.eq_iff_iff, betB_iff, beq_iff_eq]; omega
end Go.Proofs.YtmmiahgmdllgdaaGreatDoor

namespace Go.Proofs.YtmmiahgmdllgdaaGreatDoor
open Go.RowKit Go.Sort
end Go.Proofs.YtmmiahgmdllgdaaGreatDoor

namespace Go.Proofs.YtmmiahgmdllgdaaGreatDoor
open Go.RowKit Go.Sort
/-- what is left of v when k digits are taken -/
def restD (b : Int) : Nat → Int → Int
  | 0, v => v
  | k + 1, v => (restD b k v).tdiv b
/-- the k lowest digits of v -/
def digD (b : Int) : Nat → Int → List Int
  | 0, _ => []
  | k + 1, v => digD b k v ++ [(restD b k v).tmod b]
theorem digD_len (b : Int) (k : Nat) (v : Int) : (digD b k v).length = k := by
  induction k with
  | zero => rfl
  | succ k ih => simp [digD, ih]
theorem restD_bd (b : Int) (hb : 2 ≤ b) (k : Nat) (v : Int) (h0 : 0 ≤ v) (_h1 : v ≤ 9223372036854775807) : 0 ≤ restD b k v ∧ restD b k v ≤ v := by
  induction k with
  | zero => exact ⟨h0, Int.le_refl _⟩
  | succ k ih =>
    simp only [restD]
    rw [Int.tdiv_eq_ediv_of_nonneg ih.1]
    have := Int.ediv_le_self b ih.1
    exact ⟨Int.ediv_nonneg ih.1 (by omega), by omega⟩
section
variable {ops : Array Oper} {rest : List Oper} {o : Oper} {a : Act} {Q : Exit → Act → World → Prop} {w0 w : World} {m : List Ent}
/-- append(s, x..), x a row that is only read -/
theorem kn_appC {t e : TypeId} {z : Value} {size bytes : Nat} (T : TP t e z size bytes) (hgd : o.guard = none) (s x : Operand) (ho : o.op = .call { callee := .builtin .append, args := #[s, x], argTypes := #[t, t] })
    (v : Value) (n : Nat) (xs : List Value) (hs : a.eval s = v) {ad : Addr} {c k : Nat} {l : List Value} (hx : a.eval x = .slice (some ad) k c) (hc : ∀ j u, l[j]? = some u → w.cell? (ad.add j) = some u)
    (hK : Kn w0 (.row v e size n xs :: m) w) (hl : l.length = k * size) (h1 : ∀ u ∈ l, u.oneCell' = true)
    (h63 : n + k ≤ 1000000000000000) (hb : (n + k) * bytes ≤ 140737488355328)
    (h : ∀ v' w', Kn w0 (.row v' e size (n + k) (xs ++ l) :: m) w' → wpList Tryz.prog ops Q rest (a.put o.dst v') w') : wpList Tryz.prog ops Q (o :: rest) a w :=
  appG T hgd s x ho 0 v n xs hs hK.at0 ad k c l hx hl hc h1 h63 hb (Nat.zero_le _) (fun v' w' ho' hg hv => h v' w' (hK.grow hg ho' hv))
end
set_option maxRecDepth 100000 in
theorem copyNumbers_any (A : Option Addr) (n c : Nat) (ds : List Int) (w : World) (hr : RI w A n ds) (h0 : 0 < n) (hm : n ≤ 1000000) :
    Calls Tryz.prog 169 #[.slice A n c] w fun e w' => ∃ A' c', e = .returned (.slice A' n c') ∧ Kn w [rowI A' c' ds] w' := by
  obtain ⟨hl, hc⟩ := hr
  obtain ⟨ad, rfl, hlt, hcell⟩ := hc h0
  have hcell := Lib.hid hcell
  subst hl
  go_enter Tryz.func169, Tryz.ntmps169
  go_wp2_with (first
    | (refine wpList.kn ((Kn.nil w).al [] 2) ?_; intro w1 hK1)
    | (at_builtin; refine kn_appC tpI rfl _ _ rfl _ 0 [] rfl (l := ds.map (Value.int .i64)) rfl (fun j u hu => by
        rw [List.getElem?_map] at hu
        obtain ⟨x, hx, rfl⟩ := Option.map_eq_some_iff.1 hu
        rw [hK1.below.cell (by rw [block_of_add]; exact hlt)]
        exact hcell.out j x hx) (hK1.litRow (size := 1) (n := 0) rfl (by decide)) (by simp) (by simp [Value.oneCell']) (by omega) (by omega) ?_; intro v2 w2 hK2; rw [Nat.zero_add] at hK2; obtain ⟨A2, c2, rfl⟩ := row_form hK2.at0))
  go_ret
  rw [List.nil_append] at hK2
  exact ⟨A2, c2, rfl, hK2⟩
set_option maxRecDepth 100000 in
theorem l00Own_any (A : Option Addr) (n c : Nat) (ds : List Int) (w : World) (hr : RI w A n ds) (h0 : 0 < n) (hm : n ≤ 1000000) :
    Calls Tryz.prog 118 #[.slice A n c] w fun e w' => ∃ A' c', e = .returned (.slice A' n c') ∧ Kn w [rowI A' c' ds] w' := by
  obtain ⟨hl, hc⟩ := hr
  obtain ⟨ad, rfl, hlt, hcell⟩ := hc h0
  have hcell := Lib.hid hcell
  subst hl
  go_enter Tryz.func118, Tryz.ntmps118
  go_wp2_with (first
    | (refine wpList.kn ((Kn.nil w).al [] 2) ?_; intro w1 hK1)
    | (at_builtin; refine kn_appC tpI rfl _ _ rfl _ 0 [] rfl (l := ds.map (Value.int .i64)) rfl (fun j u hu => by
        rw [List.getElem?_map] at hu
        obtain ⟨x, hx, rfl⟩ := Option.map_eq_some_iff.1 hu
        rw [hK1.below.cell (by rw [block_of_add]; exact hlt)]
        exact hcell.out j x hx) (hK1.litRow (size := 1) (n := 0) rfl (by decide)) (by simp) (by simp [Value.oneCell']) (by omega) (by omega) ?_; intro v2 w2 hK2; rw [Nat.zero_add] at hK2; obtain ⟨A2, c2, rfl⟩ := row_form hK2.at0))
  go_ret
  rw [List.nil_append] at hK2
  exact ⟨A2, c2, rfl, hK2⟩
end Go.Proofs.YtmmiahgmdllgdaaGreatDoor

namespace Go.Proofs.YtmmiahgmdllgdaaGreatDoor
open Go.RowKit Go.Sort
theorem restD_step (b : Int) (hb : 2 ≤ b) (hb2 : b ≤ 16) (k : Nat) (v : Int) (h0 : 0 ≤ v) (h1 : v ≤ 9223372036854775807) : 0 ≤ (restD b k v).tmod b ∧ (restD b k v).tmod b < b := by
  have := restD_bd b hb k v h0 h1
  have h2 := Int.tmod_nonneg b this.1
  have h3 : (restD b k v).tmod b < b := by rw [Int.tmod_eq_emod_of_nonneg this.1]; exact Int.emod_lt_of_pos _ (by omega)
  omega
set_option maxRecDepth 100000 in
set_option maxHeartbeats 1600000 in
theorem registerOf_any (b : Int) (k : Nat) (v : Int) (w : World) (hb : 2 ≤ b) (hb2 : b ≤ 16) (hk : k ≤ 1000000) (h0 : 0 ≤ v) (h1 : v ≤ 9223372036854775807) :
    Calls Tryz.prog 219 #[.int .i64 b, .int .i64 k, .int .i64 v] w fun e w' => ∃ A c, e = .returned (.tuple #[.agg #[.int .i64 b, .slice A (digD b k v).length c], .bool (restD b k v == 0)]) ∧ Kn w [rowI A c (digD b k v)] w' := by
  have HBD := Lib.hid (fun i => restD_bd b hb i v h0 h1)
  have HST := Lib.hid (fun i => restD_step b hb hb2 i v h0 h1)
  have nz1 : b ≠ 0 := by omega
  have nz2 : (b == 0) = false := by simp; omega
  have nz3 : ¬ b = 0 := by omega
  go_enter Tryz.func219, Tryz.ntmps219
  go_wp2_with (first | (refine wpList.kn ((Kn.nil w).al [.int .i64 0, .slice none 0 0] 30) ?_; intro w1 hK1) | (refine wpList.kn (hK1.al [.int .i64 0, .slice none 0 0] 30) ?_; intro w2 hK2; obtain ⟨a1, a2, a3, -⟩ := hK2.cells))
  have hK4 := ((hK2.st 0 (.int .i64 b)).st 1 (.slice none 0 0)).nilRow 2 1
  clear a1 a2 a3 hK1 hK2
  go_loopw [12, 2] (fun ii vv wr => ∃ (i : Nat) (x : Value), i ≤ k ∧ ii = .int .i64 i ∧ vv = .int .i64 (restD b i v) ∧
    Kn w [.row x 2 1 (digD b i v).length ((digD b i v).map (Value.int .i64)), .blk w1.heap.size [.int .i64 b, x] 30, .blk w.heap.size [.int .i64 0, .slice none 0 0] 30] wr) (fun i _ _ => k - (intOf i).toNat)
  case atStart => exact ⟨0, .slice none 0 0, Nat.zero_le _, rfl, rfl, hK4⟩
  case round =>
    obtain ⟨i, x, hi, rfl, rfl, hK⟩ := hrel
    clear hK4
    have hdl := digD_len b i v
    have HS := Lib.hid (show digD b (i + 1) v = digD b i v ++ [(restD b i v).tmod b] from rfl)
    have HR := Lib.hid (show restD b (i + 1) v = (restD b i v).tdiv b from rfl)
    have hbd := HBD.out i
    have hst := HST.out i
    have HLN := Lib.hid (digD_len b k v)
    obtain ⟨ds, hds⟩ : ∃ ds, digD b i v = ds := ⟨_, rfl⟩
    have HDS := Lib.hid hds
    rw [hds] at hK HS hdl
    obtain ⟨z, hz⟩ : ∃ z, restD b i v = z := ⟨_, rfl⟩
    rw [hz] at HS hbd hst HR ⊢
    have HZ := Lib.hid hz
    have HZ1 : Hid (-9223372036854775808 ≤ z.tmod b ∧ z.tmod b ≤ 9223372036854775807) := by simp only [Hid]; omega
    have hdm : ds.length ≤ 1000000 := by omega
    have HDL := Lib.hid hdl
    clear hds hz hdl
    obtain ⟨a1, a2, a3, d1, d2, d3, -⟩ := hK.cells
    by_cases hik : i < k
    · have hi1 : (i : Int) < (k : Int) := by omega
      go_wp2_with fail
      go_region_law (refine kn_stepI rfl _ _ rfl _ ds rfl rfl ((hK.al [.int .i64 (z.tmod b)] 2).drew) (by omega) ?_; intro v5 w6 hK9; obtain ⟨A5, c5, rfl⟩ := row_form hK9.at0; rw [show (ds ++ [z.tmod b]).length = ds.length + 1 by simp] at hK9; clear a1 a2 a3 d1 d2 d3; obtain ⟨a1, a2, a3, d1, d2, d3, -⟩ := hK9.cells)
      all_goals
        go_wp2_with fail
        go_roundw
        case rel => exact ⟨i + 1, _, by omega, by go_num, by rw [HR.out, Int.tdiv_eq_ediv_of_nonneg hbd.1], by rw [HS.out, show (ds ++ [z.tmod b]).length = ds.length + 1 by simp]; exact (hK9.sw1.st 1 _).sw1⟩
        case measure => simp [intOf]; omega
    · have hi1 : ¬ (i : Int) < (k : Int) := by omega
      obtain rfl : i = k := by omega
      obtain ⟨A, c, rfl⟩ := row_form hK.at0
      go_wp2_with fail
      refine bodyPost_ret (v := .tuple #[.agg #[.int .i64 b, .slice A ds.length c], .bool (z == 0)]) (by simp [results, Tryz.results219, go_sem, d1]) rfl ⟨A, c, by rw [HDS.out, HZ.out], ?_⟩
      rw [HDS.out]
      exact ((hK.sw2.st 0 (.int .i64 b)).st 1 (.slice A ds.length c)).drop.drop1
set_option maxRecDepth 100000 in
set_option maxHeartbeats 1600000 in
theorem l02NewV_any (b : Int) (k : Nat) (v : Int) (w : World) (hb : 2 ≤ b) (hb2 : b ≤ 16) (hk : k ≤ 1000000) (h0 : 0 ≤ v) (h1 : v ≤ 9223372036854775807) :
    Calls Tryz.prog 184 #[.int .i64 b, .int .i64 k, .int .i64 v] w fun e w' => ∃ A c, e = .returned (.tuple #[.agg #[.int .i64 b, .slice A (digD b k v).length c], .int .i64 (restD b k v)]) ∧ Kn w [rowI A c (digD b k v)] w' := by
  have HBD := Lib.hid (fun i => restD_bd b hb i v h0 h1)
  have HST := Lib.hid (fun i => restD_step b hb hb2 i v h0 h1)
  have nz1 : b ≠ 0 := by omega
  have nz2 : (b == 0) = false := by simp; omega
  have nz3 : ¬ b = 0 := by omega
  go_enter Tryz.func184, Tryz.ntmps184
  go_wp2_with (first | (refine wpList.kn ((Kn.nil w).al [.int .i64 0, .slice none 0 0] 30) ?_; intro w1 hK1) | (refine wpList.kn (hK1.al [.int .i64 0, .slice none 0 0] 30) ?_; intro w2 hK2; obtain ⟨a1, a2, a3, -⟩ := hK2.cells))
  have hK4 := ((hK2.st 0 (.int .i64 b)).st 1 (.slice none 0 0)).nilRow 2 1
  clear a1 a2 a3 hK1 hK2
  go_loopw [9, 2] (fun ii vv wr => ∃ (i : Nat) (x : Value), i ≤ k ∧ ii = .int .i64 i ∧ vv = .int .i64 (restD b i v) ∧
    Kn w [.row x 2 1 (digD b i v).length ((digD b i v).map (Value.int .i64)), .blk w1.heap.size [.int .i64 b, x] 30, .blk w.heap.size [.int .i64 0, .slice none 0 0] 30] wr) (fun i _ _ => k - (intOf i).toNat)
  case atStart => exact ⟨0, .slice none 0 0, Nat.zero_le _, rfl, rfl, hK4⟩
  case round =>
    obtain ⟨i, x, hi, rfl, rfl, hK⟩ := hrel
    clear hK4
    have hdl := digD_len b i v
    have HS := Lib.hid (show digD b (i + 1) v = digD b i v ++ [(restD b i v).tmod b] from rfl)
    have HR := Lib.hid (show restD b (i + 1) v = (restD b i v).tdiv b from rfl)
    have hbd := HBD.out i
    have hst := HST.out i
    have HLN := Lib.hid (digD_len b k v)
    obtain ⟨ds, hds⟩ : ∃ ds, digD b i v = ds := ⟨_, rfl⟩
    have HDS := Lib.hid hds
    rw [hds] at hK HS hdl
    obtain ⟨z, hz⟩ : ∃ z, restD b i v = z := ⟨_, rfl⟩
    rw [hz] at HS hbd hst HR ⊢
    have HZ := Lib.hid hz
    have HZ1 : Hid (-9223372036854775808 ≤ z.tmod b ∧ z.tmod b ≤ 9223372036854775807) := by simp only [Hid]; omega
    have hdm : ds.length ≤ 1000000 := by omega
    have HDL := Lib.hid hdl
    clear hds hz hdl
    obtain ⟨a1, a2, a3, d1, d2, d3, -⟩ := hK.cells
    by_cases hik : i < k
    · have hi1 : (i : Int) < (k : Int) := by omega
      go_wp2_with fail
      go_region_law (refine kn_stepI rfl _ _ rfl _ ds rfl rfl ((hK.al [.int .i64 (z.tmod b)] 2).drew) (by omega) ?_; intro v5 w6 hK9; obtain ⟨A5, c5, rfl⟩ := row_form hK9.at0; rw [show (ds ++ [z.tmod b]).length = ds.length + 1 by simp] at hK9; clear a1 a2 a3 d1 d2 d3; obtain ⟨a1, a2, a3, d1, d2, d3, -⟩ := hK9.cells)
      all_goals
        go_wp2_with fail
        go_roundw
        case rel => exact ⟨i + 1, _, by omega, by go_num, by rw [HR.out, Int.tdiv_eq_ediv_of_nonneg hbd.1], by rw [HS.out, show (ds ++ [z.tmod b]).length = ds.length + 1 by simp]; exact (hK9.sw1.st 1 _).sw1⟩
        case measure => simp [intOf]; omega
    · have hi1 : ¬ (i : Int) < (k : Int) := by omega
      obtain rfl : i = k := by omega
      obtain ⟨A, c, rfl⟩ := row_form hK.at0
      go_wp2_with fail
      refine bodyPost_ret (v := .tuple #[.agg #[.int .i64 b, .slice A ds.length c], .int .i64 z]) (by simp [results, Tryz.results184, go_sem, d1]) rfl ⟨A, c, by rw [HDS.out, HZ.out], ?_⟩
      rw [HDS.out]
      exact ((hK.sw2.st 0 (.int .i64 b)).st 1 (.slice A ds.length c)).drop.drop1
end Go.Proofs.YtmmiahgmdllgdaaGreatDoor

namespace Go.Proofs.YtmmiahgmdllgdaaGreatDoor
open Go.RowKit Go.Sort
set_option maxRecDepth 100000 in
set_option maxHeartbeats 1600000 in
theorem withValue_any (b : Int) (A : Option Addr) (n c : Nat) (v : Int) (w : World) (hb : 2 ≤ b) (hb2 : b ≤ 16) (hk : n ≤ 1000000) (h0 : 0 ≤ v) (h1 : v ≤ 9223372036854775807) :
    Calls Tryz.prog 175 #[.agg #[.int .i64 b, .slice A n c], .int .i64 v] w fun e w' => ∃ A' c', e = .returned (.agg #[.int .i64 b, .slice A' (digD b n v).length c']) ∧ Kn w [rowI A' c' (digD b n v)] w' := by
  have KR := Lib.hid (fun W => registerOf_any b n v W hb hb2 hk h0 h1)
  obtain ⟨ds, hds⟩ : ∃ ds, digD b n v = ds := ⟨_, rfl⟩
  obtain ⟨ok, hok⟩ : ∃ ok, (restD b n v == 0) = ok := ⟨_, rfl⟩
  have KR := KR.out
  rw [hds, hok] at KR
  have KR := Lib.hid KR
  rw [hds]
  clear hds hok
  go_enter Tryz.func175, Tryz.ntmps175
  go_wp2_with (first | (refine wpList.kn ((Kn.nil w).al [.int .i64 b, .slice A n c] 30) ?_; intro w1 hK1) | (refine wpList.kn (hK1.al [.int .i64 0, .slice none 0 0] 30) ?_; intro w2 hK2; obtain ⟨a1, a2, a3, d1, d2, d3, -⟩ := hK2.cells))
  have hK2 := hK1.al [.int .i64 0, .slice none 0 0] 30
  generalize w1.alloc (.cells #[.int .i64 0, .slice none 0 0] 30) = w2 at hK2 ⊢
  obtain ⟨a1, a2, a3, d1, d2, d3, -⟩ := hK2.cells
  have KW := Lib.hid (fun W => width_any b A n c W)
  go_cut [5] (fun pp wx => ∃ (g : Nat) (A' : Option Addr) (c' : Nat), pp = .pointer (some ⟨g, 0, none⟩) ∧ Kn w [.blk g [.int .i64 b, .slice A' ds.length c'] 30, rowI A' c' ds, .blk w1.heap.size [.int .i64 0, .slice none 0 0] 30, .blk w.heap.size [.int .i64 b, .slice A n c] 30] wx)
  case first =>
    go_region_law (first
      | (go_simp; go_at_call 179; refine (KW.out _).mono ?_; rintro e w3 ⟨rfl, hw3⟩; first | (have hK3 := hK2.drew.keep hw3; obtain ⟨p1, q1, s1, p2, q2, s2, -⟩ := hK3.cells) | (have hK3 := (hK2.al [.int .i64 0, .slice none 0 0] 30).drew.keep hw3; obtain ⟨p1, q1, s1, p2, q2, s2, p3, q3, s3, -⟩ := hK3.cells))
      | (go_simp; go_at_call 219; refine (KR.out _).mono ?_; rintro e w4 ⟨A', c', rfl, hK⟩; first | (have hK4 := hK3.join hK; obtain ⟨g1, f1, l1, g2, f2, l2, g3, f3, l3, -⟩ := hK4.cells) | (have hK4 := hK3.join hK; obtain ⟨g1, f1, l1, g2, f2, l2, -⟩ := hK4.cells) | (have hK4 := (hK3.al [.int .i64 0, .slice none 0 0] 30).join hK; obtain ⟨g1, f1, l1, g2, f2, l2, g3, f3, l3, -⟩ := hK4.cells)))
    all_goals
      go_wp2_with fail
      go_meet
      first
        | exact ⟨_, _, _, rfl, (hK4.sw1.st 0 _).st 1 _⟩
        | exact ⟨_, _, _, rfl, hK4.al _ _⟩
  case rest =>
    obtain ⟨g, A', c', rfl, hK⟩ := hcut
    clear a1 a2 a3 d1 d2 d3 hK1 hK2
    obtain ⟨a1, a2, a3, d1, d2, d3, -⟩ := hK.cells
    go_wp2_with fail
    refine bodyPost_ret (v := .agg #[.int .i64 b, .slice A' ds.length c']) (by simp [results, Tryz.results175, go_sem, d1]) rfl ⟨A', c', rfl, ?_⟩
    exact ((hK.sw2.st 0 _).st 1 _).drop.drop.drop1
set_option maxRecDepth 100000 in
set_option maxHeartbeats 1600000 in
theorem copiedR_any (b : Int) (A : Option Addr) (n c : Nat) (ds : List Int) (w : World) (hr : RI w A n ds) (h0 : 0 < n) (hm : n ≤ 1000000) :
    Calls Tryz.prog 129 #[.agg #[.int .i64 b, .slice A n c]] w fun e w' => ∃ A' c', e = .returned (.agg #[.int .i64 b, .slice A' ds.length c']) ∧ Kn w [rowI A' c' ds] w' := by
  have KC := Lib.hid (fun W (hW : Below w.heap.size w W) => copyNumbers_any A n c ds W (hr.below hW) h0 hm)
  have hl := hr.1
  subst hl
  clear hr
  go_enter Tryz.func129, Tryz.ntmps129
  go_wp2_with (first | (refine wpList.kn ((Kn.nil w).al [.int .i64 b, .slice A ds.length c] 30) ?_; intro w1 hK1) | (refine wpList.kn (hK1.al [.int .i64 0, .slice none 0 0] 30) ?_; intro w2 hK2; obtain ⟨a1, a2, a3, d1, d2, d3, -⟩ := hK2.cells))
  have hK2 := hK1.al [.int .i64 0, .slice none 0 0] 30
  generalize w1.alloc (.cells #[.int .i64 0, .slice none 0 0] 30) = w2 at hK2 ⊢
  obtain ⟨a1, a2, a3, d1, d2, d3, -⟩ := hK2.cells
  go_region_law (go_simp; go_at_call 169; refine (KC.out _ hK2.drew.below).mono ?_; rintro e w4 ⟨A', c', rfl, hK⟩; have hK4 := hK2.drew.join hK; obtain ⟨g1, f1, l1, g2, f2, l2, -⟩ := hK4.cells)
  all_goals
    go_wp2_with fail
    refine bodyPost_ret (v := .agg #[.int .i64 b, .slice A' ds.length c']) (by simp [results, Tryz.results129, go_sem, g1]) rfl ⟨A', c', rfl, ?_⟩
    exact ((hK4.sw1.st 0 _).st 1 _).drop.drop1
end Go.Proofs.YtmmiahgmdllgdaaGreatDoor

namespace Go.Proofs.YtmmiahgmdllgdaaGreatDoor
open Go.RowKit Go.Sort
theorem box7 {w0 w : World} {m : List Ent} {g : Nat} {v0 v1 v2 v3 v4 v5 v6 : Value} {T : TypeId} (h : Kn w0 (.blk g [v0, v1, v2, v3, v4, v5, v6] T :: m) w) :
    w.cell? ⟨g, 0, none⟩ = some v0 ∧ w.cell? ⟨g, 1, none⟩ = some v1 ∧ w.cell? ⟨g, 2, none⟩ = some v2 ∧ w.cell? ⟨g, 3, none⟩ = some v3 ∧ w.cell? ⟨g, 4, none⟩ = some v4 ∧ w.cell? ⟨g, 5, none⟩ = some v5 ∧ w.cell? ⟨g, 6, none⟩ = some v6 :=
  ⟨h.blkAt.1 0, h.blkAt.1 1, h.blkAt.1 2, h.blkAt.1 3, h.blkAt.1 4, h.blkAt.1 5, h.blkAt.1 6⟩
/-- the machine's own numbers -/
def MRows (t : Tri) (A1 : Option Addr) (c1 : Nat) (A2 : Option Addr) (c2 : Nat) (A3 : Option Addr) (c3 : Nat) : List Ent := [rowI A3 c3 t.s.digits, rowI A2 c2 t.b.digits, rowI A1 c1 t.a.digits]
structure Sized (t : Tri) : Prop where
  a0 : 0 < t.a.digits.length
  b0 : 0 < t.b.digits.length
  s0 : 0 < t.s.digits.length
  a : t.a.digits.length ≤ 16
  b : t.b.digits.length ≤ 16
  s : t.s.digits.length ≤ 16
set_option maxRecDepth 100000 in
set_option maxHeartbeats 1600000 in
theorem copiedM_any (t : Tri) (A1 A2 A3 : Option Addr) (c1 c2 c3 : Nat) (w : World) (r1 : RI w A1 t.a.digits.length t.a.digits) (r2 : RI w A2 t.b.digits.length t.b.digits) (r3 : RI w A3 t.s.digits.length t.s.digits) (hz : Sized t) :
    Calls Tryz.prog 67 #[.agg #[.int .i64 t.a.base, .slice A1 t.a.digits.length c1, .int .i64 t.b.base, .slice A2 t.b.digits.length c2, .int .i64 t.s.base, .slice A3 t.s.digits.length c3, .int .i64 t.carry]] w fun e w' => ∃ A1 c1 A2 c2 A3 c3, e = .returned (.agg #[.int .i64 t.a.base, .slice A1 t.a.digits.length c1, .int .i64 t.b.base, .slice A2 t.b.digits.length c2, .int .i64 t.s.base, .slice A3 t.s.digits.length c3, .int .i64 t.carry]) ∧ Kn w [rowI A3 c3 t.s.digits, rowI A2 c2 t.b.digits, rowI A1 c1 t.a.digits] w' := by
  have K1 := Lib.hid (fun W (hW : Below w.heap.size w W) => copiedR_any t.a.base A1 t.a.digits.length c1 t.a.digits W (r1.below hW) hz.a0 (by have := hz.a; omega))
  have K2 := Lib.hid (fun W (hW : Below w.heap.size w W) => copiedR_any t.b.base A2 t.b.digits.length c2 t.b.digits W (r2.below hW) hz.b0 (by have := hz.b; omega))
  have K3 := Lib.hid (fun W (hW : Below w.heap.size w W) => copiedR_any t.s.base A3 t.s.digits.length c3 t.s.digits W (r3.below hW) hz.s0 (by have := hz.s; omega))
  clear r1 r2 r3 hz
  go_enter Tryz.func67, Tryz.ntmps67
  go_wp2_with (first | (refine wpList.kn ((Kn.nil w).al [.int .i64 t.a.base, .slice A1 t.a.digits.length c1, .int .i64 t.b.base, .slice A2 t.b.digits.length c2, .int .i64 t.s.base, .slice A3 t.s.digits.length c3, .int .i64 t.carry] 32) ?_; intro w1 hK1))
  have hK2 := hK1.al [.int .i64 0, .slice none 0 0, .int .i64 0, .slice none 0 0, .int .i64 0, .slice none 0 0, .int .i64 0] 32
  generalize w1.alloc (.cells #[.int .i64 0, .slice none 0 0, .int .i64 0, .slice none 0 0, .int .i64 0, .slice none 0 0, .int .i64 0] 32) = w2 at hK2 ⊢
  have HG := Lib.hid (box7 hK2.drew.drop)
  go_region_held3 (fun W => W.cell? ⟨w.heap.size, 0, none⟩ = some (.int .i64 t.a.base) ∧ W.cell? ⟨w.heap.size, 1, none⟩ = some (.slice A1 t.a.digits.length c1) ∧ W.cell? ⟨w.heap.size, 2, none⟩ = some (.int .i64 t.b.base) ∧ W.cell? ⟨w.heap.size, 3, none⟩ = some (.slice A2 t.b.digits.length c2) ∧ W.cell? ⟨w.heap.size, 4, none⟩ = some (.int .i64 t.s.base) ∧ W.cell? ⟨w.heap.size, 5, none⟩ = some (.slice A3 t.s.digits.length c3) ∧ W.cell? ⟨w.heap.size, 6, none⟩ = some (.int .i64 t.carry))
    (first | with_reducible exact HG.out | with_reducible exact HG2.out | exact HG.out) (first
    | (go_at_call 129; with_reducible refine (K1.out _ hK2.drew.below).mono ?_; rintro e w4 ⟨B1, e1, rfl, hK⟩; have hK4 := hK2.drew.join hK; clear HG; have HG := Lib.hid (box7 hK4.drop.drop))
    | (go_at_call 129; with_reducible refine (K2.out _ hK4.below).mono ?_; rintro e w5 ⟨B2, e2, rfl, hK⟩; have hK5 := hK4.join hK; clear HG; have HG := Lib.hid (box7 hK5.drop.drop.drop))
    | (go_at_call 129; with_reducible refine (K3.out _ hK5.below).mono ?_; rintro e w6 ⟨B3, e3, rfl, hK⟩; have hK6 := hK5.join hK; clear HG; have HG := Lib.hid (box7 hK6.drop.drop.drop.drop); have hK7 := ((((((hK6.sw3.st 0 (.int .i64 t.a.base)).st 1 (.slice B1 (t.a.digits).length e1)).st 2 (.int .i64 t.b.base)).st 3 (.slice B2 (t.b.digits).length e2)).st 4 (.int .i64 t.s.base)).st 5 (.slice B3 (t.s.digits).length e3)).st 6 (.int .i64 t.carry); have HG2 := Lib.hid (box7 hK7.drop.drop.drop.drop); obtain ⟨g1, f1, l1⟩ := hK6.drop.drop.drop.blkAt))
  all_goals
    go_wp2_with fail
    refine bodyPost_ret (v := .agg #[.int .i64 t.a.base, .slice B1 (t.a.digits).length e1, .int .i64 t.b.base, .slice B2 (t.b.digits).length e2, .int .i64 t.s.base, .slice B3 (t.s.digits).length e3, .int .i64 t.carry]) (by simp [results, Tryz.results67, go_sem, g1]) rfl ⟨B1, e1, B2, e2, B3, e3, rfl, ?_⟩
    exact hK7.drop.drop3
/-- a machine on which everything is 0 -/
def clrT (t : Tri) : Tri := ⟨⟨t.a.base, digD t.a.base t.a.digits.length 0⟩, ⟨t.b.base, digD t.b.base t.b.digits.length 0⟩, ⟨t.s.base, digD t.s.base t.s.digits.length 0⟩, 0⟩
end Go.Proofs.YtmmiahgmdllgdaaGreatDoor

namespace Go.Proofs.YtmmiahgmdllgdaaGreatDoor
open Go.RowKit Go.Sort
theorem box2 {w0 w : World} {m : List Ent} {g : Nat} {v0 v1 : Value} {l : List Value} {T : TypeId} (h : Kn w0 (.blk g (v0 :: v1 :: l) T :: m) w) : w.cell? ⟨g, 0, none⟩ = some v0 ∧ w.cell? ⟨g, 1, none⟩ = some v1 :=
  ⟨h.blkAt.1 0, h.blkAt.1 1⟩
set_option maxRecDepth 100000 in
set_option maxHeartbeats 1600000 in
theorem withSetting_any (t : Tri) (A1 A2 A3 : Option Addr) (c1 c2 c3 : Nat) (v : Int) (w : World) (r1 : RI w A1 t.a.digits.length t.a.digits) (r2 : RI w A2 t.b.digits.length t.b.digits) (r3 : RI w A3 t.s.digits.length t.s.digits) (hz : Sized t)
    (hb : 2 ≤ t.a.base) (hb2 : t.a.base ≤ 16) (h0 : 0 ≤ v) (h1 : v ≤ 9223372036854775807) :
    Calls Tryz.prog 176 #[.agg #[.int .i64 t.a.base, .slice A1 t.a.digits.length c1, .int .i64 t.b.base, .slice A2 t.b.digits.length c2, .int .i64 t.s.base, .slice A3 t.s.digits.length c3, .int .i64 t.carry], .int .i64 v] w fun e w' => ∃ A1 c1 A2 c2 A3 c3, e = .returned (.tuple #[.agg #[.int .i64 t.a.base, .slice A1 (digD t.a.base t.a.digits.length v).length c1, .int .i64 t.b.base, .slice A2 t.b.digits.length c2, .int .i64 t.s.base, .slice A3 t.s.digits.length c3, .int .i64 t.carry], .bool (restD t.a.base t.a.digits.length v == 0)]) ∧
      Kn w [rowI A3 c3 t.s.digits, rowI A2 c2 t.b.digits, rowI A1 c1 (digD t.a.base t.a.digits.length v)] w' := by
  have KR := (fun W => registerOf_any t.a.base t.a.digits.length v W hb hb2 (by have := hz.a; omega) h0 h1)
  have KC := Lib.hid (fun W (hW : Below w.heap.size w W) => copiedM_any t A1 A2 A3 c1 c2 c3 W (r1.below hW) (r2.below hW) (r3.below hW) hz)
  have KW := Lib.hid (fun W => width_any t.a.base A1 t.a.digits.length c1 W)
  obtain ⟨ds, hds⟩ : ∃ ds, digD t.a.base t.a.digits.length v = ds := ⟨_, rfl⟩
  obtain ⟨ok, hok⟩ : ∃ ok, (restD t.a.base t.a.digits.length v == 0) = ok := ⟨_, rfl⟩
  rw [hds, hok] at KR
  rw [hds, hok]
  have KR := Lib.hid KR
  clear hds hok r1 r2 r3 hz hb hb2 h0 h1
  go_enter Tryz.func176, Tryz.ntmps176
  go_wp2_with (first | (refine wpList.kn ((Kn.nil w).al [.int .i64 t.a.base, .slice A1 t.a.digits.length c1, .int .i64 t.b.base, .slice A2 t.b.digits.length c2, .int .i64 t.s.base, .slice A3 t.s.digits.length c3, .int .i64 t.carry] 32) ?_; intro w1 hK1))
  have hK2 := hK1.al [.int .i64 0, .slice none 0 0, .int .i64 0, .slice none 0 0, .int .i64 0, .slice none 0 0, .int .i64 0] 32
  generalize w1.alloc (.cells #[.int .i64 0, .slice none 0 0, .int .i64 0, .slice none 0 0, .int .i64 0, .slice none 0 0, .int .i64 0] 32) = w2 at hK2 ⊢
  have HG := Lib.hid (box2 hK2.drew.drop)
  have HA := Lib.hid (box2 (hK2.drew.al [.int .i64 0, .slice none 0 0] 30).drop.drop)
  have HS := HG
  go_cut [6, 7] (fun pp oo wx => ∃ (g : Nat) (A' : Option Addr) (c' : Nat), pp = .pointer (some ⟨g, 0, none⟩) ∧ oo = .bool ok ∧ Kn w [.blk g [.int .i64 t.a.base, .slice A' ds.length c'] 30, rowI A' c' ds, .blk w1.heap.size [.int .i64 0, .slice none 0 0, .int .i64 0, .slice none 0 0, .int .i64 0, .slice none 0 0, .int .i64 0] 32, .blk w.heap.size [.int .i64 t.a.base, .slice A1 t.a.digits.length c1, .int .i64 t.b.base, .slice A2 t.b.digits.length c2, .int .i64 t.s.base, .slice A3 t.s.digits.length c3, .int .i64 t.carry] 32] wx)
  case first =>
    go_region_held3 (fun W => W.cell? ⟨w.heap.size, 0, none⟩ = some (.int .i64 t.a.base) ∧ W.cell? ⟨w.heap.size, 1, none⟩ = some (.slice A1 t.a.digits.length c1))
      (first | with_reducible exact HG.out | with_reducible exact HA.out | with_reducible exact HS.out | exact HG.out | exact HA.out | exact HS.out) (first
      | (go_at_call 179; with_reducible refine (KW.out _).mono ?_; rintro e w3 ⟨rfl, hw3⟩; first | (have hK3 := hK2.drew.keep hw3; clear HG HA; have HG := Lib.hid (box2 hK3.drop); have HA := Lib.hid (box2 (hK3.al [.int .i64 0, .slice none 0 0] 30).drop.drop)) | (have hK3 := (hK2.al [.int .i64 0, .slice none 0 0] 30).drew.keep hw3; clear HG; have HG := Lib.hid (box2 hK3.drop.drop)))
      | (go_at_call 219; with_reducible refine (KR.out _).mono ?_; rintro e w4 ⟨A', c', rfl, hK⟩; clear HG HA; first
        | (have hK4 := hK3.join hK; have HG := Lib.hid (box2 (v0 := .int .i64 t.a.base) hK4.drop.drop.drop); obtain ⟨g1, f1, l1⟩ := hK4.drop.blkAt; have hK5 := (hK4.sw1.st 0 (.int .i64 t.a.base)).st 1 (.slice A' ds.length c'); have HS := Lib.hid (box2 hK5.drop.drop.drop); have HA := HG)
        | (have hK4 := (hK3.al [.int .i64 0, .slice none 0 0] 30).join hK; have HG := Lib.hid (box2 (v0 := .int .i64 t.a.base) hK4.drop.drop.drop); obtain ⟨g1, f1, l1⟩ := hK4.drop.blkAt; have hK5 := (hK4.sw1.st 0 (.int .i64 t.a.base)).st 1 (.slice A' ds.length c'); have HS := Lib.hid (box2 hK5.drop.drop.drop); have HA := HG)
        | (have hK4 := hK3.join hK; have HG := Lib.hid (box2 hK4.drop.drop); have HA := Lib.hid (box2 (hK4.al [.int .i64 0, .slice none 0 0] 30).drop.drop.drop); have hK5 := hK4.al [.int .i64 t.a.base, .slice A' ds.length c'] 30; have HS := Lib.hid (box2 hK5.drop.drop.drop))))
    all_goals
      go_wp2_with fail
      go_meet
      exact ⟨_, _, _, rfl, rfl, hK5⟩
  case rest =>
    obtain ⟨g, B1, e1, rfl, rfl, hK⟩ := hcut
    clear HG HA HS hK1 hK2 KR KW
    obtain ⟨a1, a2, a3, d1, d2, d3, g1, f1, l1, -⟩ := hK.cells
    go_wp2_with fail
    with_reducible refine (KC.out _ hK.below).mono ?_; rintro e w5 ⟨A4, e4, A5, e5, A6, e6, rfl, hKC⟩
    have hK5 := hK.join hKC
    clear a1 a2 a3 d1 d2 d3 g1 f1 l1 hK hKC
    obtain ⟨a1, a2, a3, d1, d2, d3, g1, f1, l1, -⟩ := hK5.cells
    go_wp2_with fail
    refine bodyPost.kn (((((((((hK5.sw5.st 0 _).st 1 _).st 2 _).st 3 _).st 4 _).st 5 _).st 6 _).al_ _)) ?_; intro w6 hK6
    clear a1 a2 a3 d1 d2 d3 g1 f1 l1
    obtain ⟨a1, a2, a3, -⟩ := hK6.cells
    refine bodyPost_ret (v := .tuple #[.agg #[.int .i64 t.a.base, .slice B1 ds.length e1, .int .i64 t.b.base, .slice A5 t.b.digits.length e5, .int .i64 t.s.base, .slice A6 t.s.digits.length e6, .int .i64 t.carry], .bool ok]) (by simp [results, Tryz.results176, go_sem, a1]) rfl ⟨B1, e1, A5, e5, A6, e6, rfl, ?_⟩
    exact hK6.drop.drop2.drop2.drop3
end Go.Proofs.YtmmiahgmdllgdaaGreatDoor

namespace Go.Proofs.YtmmiahgmdllgdaaGreatDoor
open Go.RowKit Go.Sort
/-- a register's digits when a number is added, and whether it goes round -/
def shiftD (b : Int) (ds : List Int) (x : Int) : List Int := digD b ds.length (((valL b ds + x).tmod (pw b ds.length) + pw b ds.length).tmod (pw b ds.length))
def shiftB (b : Int) (ds : List Int) (x : Int) : Bool := decide (valL b ds + x < 0) || decide (pw b ds.length ≤ valL b ds + x)
theorem shiftD_len (b : Int) (ds : List Int) (x : Int) : (shiftD b ds x).length = ds.length := digD_len _ _ _
set_option maxRecDepth 100000 in
set_option maxHeartbeats 1600000 in
theorem shifted_any (b : Int) (A : Option Addr) (c : Nat) (ds : List Int) (x : Int) (w : World) (hr : RI w A ds.length ds) (hv : vreg b ds = true) (hp : pw b ds.length ≤ 1000000000001) (hx0 : -1000000000001 ≤ x) (hx1 : x ≤ 1000000000001) :
    Calls Tryz.prog 172 #[.agg #[.int .i64 b, .slice A ds.length c], .int .i64 x] w fun e w' => ∃ A' c', e = .returned (.tuple #[.agg #[.int .i64 b, .slice A' (shiftD b ds x).length c'], .bool (shiftB b ds x)]) ∧ Kn w [rowI A' c' (shiftD b ds x)] w' := by
  obtain ⟨⟨b1, b2⟩, ⟨n1, n2⟩, hd, hl⟩ := vreg_iff.1 hv
  have hp1 := pw_pos b b1 ds.length
  have hv0 := (valL_bd b b1 ds (fun d h => (hd d h).1)).1
  have KN := (fun W => values_any b A ds.length c W b1 b2 (by omega))
  have hpc : powC b ds.length = pw b ds.length := by unfold powC; rw [if_pos hp]
  rw [hpc] at KN
  have KV := (fun W (hW : Below w.heap.size w W) => value_any b A ds.length c ds W b1 b2 hd (hr.below hW) n2)
  have hsd : shiftD b ds x = digD b ds.length (((valL b ds + x).tmod (pw b ds.length) + pw b ds.length).tmod (pw b ds.length)) := rfl
  have hsb : shiftB b ds x = (decide (valL b ds + x < 0) || decide (pw b ds.length ≤ valL b ds + x)) := rfl
  obtain ⟨N, hN⟩ : ∃ N, pw b ds.length = N := ⟨_, rfl⟩
  obtain ⟨V, hV⟩ : ∃ V, valL b ds = V := ⟨_, rfl⟩
  rw [hN] at KN hsd hsb hp hp1
  rw [hV] at KV hsd hsb hv0 hl
  obtain ⟨S, hS⟩ : ∃ S, V + x = S := ⟨_, rfl⟩
  rw [hS] at hsd hsb
  have hSb : -1000000000001 ≤ S ∧ S ≤ 2000000000001 := by omega
  have hm1 : -N < S.tmod N ∧ S.tmod N < N := by
    have h1 := Int.tmod_lt_of_pos S (show 0 < N by omega)
    have h2 := Int.lt_tmod_of_pos S (show 0 < N by omega)
    omega
  have hm2 : 0 ≤ (S.tmod N + N).tmod N ∧ (S.tmod N + N).tmod N < N := ⟨Int.tmod_nonneg _ (by omega), Int.tmod_lt_of_pos _ (by omega)⟩
  have hwr : IntKind.i64.wrap (S.tmod N + N) = S.tmod N + N := wrapI64 (by omega)
  have nz1 : N ≠ 0 := by omega
  have nz2 : (N == 0) = false := by simp; omega
  have nz3 : ¬ N = 0 := by omega
  have KW := (fun W => withValue_any b A ds.length c ((S.tmod N + N).tmod N) W b1 b2 (by omega) hm2.1 (by omega))
  rw [← hsd] at KW
  obtain ⟨es, hes⟩ : ∃ es, shiftD b ds x = es := ⟨_, rfl⟩
  rw [hes] at KW ⊢
  obtain ⟨bell, hbl⟩ : ∃ e, shiftB b ds x = e := ⟨_, rfl⟩
  have HSB := Lib.hid (hbl.symm.trans hsb)
  rw [hbl]
  have KN := Lib.hid KN
  have KV := Lib.hid KV
  have KW := Lib.hid KW
  have HSS := Lib.hid hS
  have hV2 : -9223372036854775808 ≤ V + x ∧ V + x ≤ 9223372036854775807 := by omega
  clear hsd hsb hes hbl hr hv hd hl hpc hN hV hS
  go_enter Tryz.func172, Tryz.ntmps172
  go_wp2_with (first | (refine wpList.kn ((Kn.nil w).al [.int .i64 b, .slice A ds.length c] 30) ?_; intro w1 hK1))
  have hK2 := hK1.al [.int .i64 0, .slice none 0 0] 30
  generalize w1.alloc (.cells #[.int .i64 0, .slice none 0 0] 30) = w2 at hK2 ⊢
  have HG := Lib.hid (box2 hK2.drew.drop)
  go_cut [6, 7] (fun pp oo wx => pp = .int .i64 N ∧ oo = .int .i64 S ∧ Kn w [.blk w1.heap.size [.int .i64 0, .slice none 0 0] 30, .blk w.heap.size [.int .i64 b, .slice A ds.length c] 30] wx)
  case first =>
    go_region_held3 (fun W => W.cell? ⟨w.heap.size, 0, none⟩ = some (.int .i64 b) ∧ W.cell? ⟨w.heap.size, 1, none⟩ = some (.slice A ds.length c))
      (first | with_reducible exact HG.out | exact HG.out) (first
      | (go_at_call 178; with_reducible refine (KN.out _).mono ?_; rintro e w3 ⟨rfl, hw3⟩; have hK3 := hK2.drew.keep hw3; clear HG; have HG := Lib.hid (box2 hK3.drop))
      | (go_at_call 173; with_reducible refine (KV.out _ hK3.below).mono ?_; rintro e w4 ⟨rfl, hw4⟩; have hK4 := hK3.keep hw4; clear HG; have HG := Lib.hid (box2 hK4.drop)))
    all_goals
      go_wp2_with fail
      go_meet
      exact ⟨rfl, by rw [HSS.out, wrapI64 (by omega)], hK4⟩
  case rest =>
    obtain ⟨rfl, rfl, hK⟩ := hcut
    clear HG hK1 hK2
    clear hV2 hv0
    have HG := Lib.hid (box2 hK.drew.drop)
    have HS := HG
    obtain ⟨a1, a2, a3⟩ := hK.blkAt
    rcases hlt : decide (S < 0) with _ | _
    · have hl2 := of_decide_eq_false hlt
      rcases hge : decide (N ≤ S) with _ | _
      · have hg2 := of_decide_eq_false hge
        rw [hlt, hge] at HSB
        go_wp2_with fail
        go_region_held3 (fun W => W.cell? ⟨w.heap.size, 0, none⟩ = some (.int .i64 b) ∧ W.cell? ⟨w.heap.size, 1, none⟩ = some (.slice A ds.length c)) (first | with_reducible exact HG.out | with_reducible exact HS.out | exact HG.out) (first
            | (go_at_call 175; with_reducible refine (KW.out _).mono ?_; rintro e w3 ⟨A', c', rfl, hK'⟩; have hK3 := hK.drew.join hK'; clear HG; have HG := Lib.hid (box2 hK3.drop.drop); have hK4 := (hK3.sw1.st 0 (.int .i64 b)).st 1 (.slice A' es.length c'); have HS := Lib.hid (box2 hK4.drop.drop); clear a1 a2 a3; obtain ⟨a1, a2, a3⟩ := hK3.drop.blkAt)
          )
        all_goals
          go_wp2_with fail
          refine bodyPost.kn hK4 ?_; intro w6 hK6
          clear a1 a2 a3
          obtain ⟨a1, a2, a3, -⟩ := hK6.cells
          refine bodyPost_ret (v := .tuple #[.agg #[.int .i64 b, .slice A' es.length c'], .bool bell]) (by simp [results, Tryz.results172, go_sem, a1]; rw [HSB.out]; try simp) rfl ⟨A', c', rfl, ?_⟩
          exact hK6.drop.drop1
      · have hg2 := of_decide_eq_true hge
        rw [hlt, hge] at HSB
        go_wp2_with fail
        go_region_held3 (fun W => W.cell? ⟨w.heap.size, 0, none⟩ = some (.int .i64 b) ∧ W.cell? ⟨w.heap.size, 1, none⟩ = some (.slice A ds.length c)) (first | with_reducible exact HG.out | with_reducible exact HS.out | exact HG.out) (first
            | (go_at_call 175; with_reducible refine (KW.out _).mono ?_; rintro e w3 ⟨A', c', rfl, hK'⟩; have hK3 := hK.drew.join hK'; clear HG; have HG := Lib.hid (box2 hK3.drop.drop); have hK4 := (hK3.sw1.st 0 (.int .i64 b)).st 1 (.slice A' es.length c'); have HS := Lib.hid (box2 hK4.drop.drop); clear a1 a2 a3; obtain ⟨a1, a2, a3⟩ := hK3.drop.blkAt)
          )
        all_goals
          go_wp2_with fail
          refine bodyPost.kn hK4 ?_; intro w6 hK6
          clear a1 a2 a3
          obtain ⟨a1, a2, a3, -⟩ := hK6.cells
          refine bodyPost_ret (v := .tuple #[.agg #[.int .i64 b, .slice A' es.length c'], .bool bell]) (by simp [results, Tryz.results172, go_sem, a1]; rw [HSB.out]; try simp) rfl ⟨A', c', rfl, ?_⟩
          exact hK6.drop.drop1
    · have hl2 := of_decide_eq_true hlt
      have hbe : bell = true := by rw [HSB.out, hlt]; rfl
      have HSB := Lib.hid hbe
      clear hbe
      obtain ⟨x1, x2⟩ := box2 hK.drop
      go_wp2_with fail
      first | (go_region_law (go_simp; go_at_call 175; with_reducible refine (KW.out _).mono ?_; rintro e w3 ⟨A', c', rfl, hK'⟩; have hK3 := hK.drew.join hK'; clear HG; have HG := Lib.hid (box2 hK3.drop.drop); have hK4 := (hK3.sw1.st 0 (.int .i64 b)).st 1 (.slice A' es.length c'); have HS := Lib.hid (box2 hK4.drop.drop); clear a1 a2 a3; obtain ⟨a1, a2, a3⟩ := hK3.drop.blkAt)) | fail "no"
      all_goals
        go_wp2_with fail
        refine bodyPost.kn hK4 ?_; intro w6 hK6
        clear a1 a2 a3
        obtain ⟨a1, a2, a3, -⟩ := hK6.cells
        refine bodyPost_ret (v := .tuple #[.agg #[.int .i64 b, .slice A' es.length c'], .bool bell]) (by simp [results, Tryz.results172, go_sem, a1]; rw [HSB.out]; try simp) rfl ⟨A', c', rfl, ?_⟩
        exact hK6.drop.drop1
end Go.Proofs.YtmmiahgmdllgdaaGreatDoor

namespace Go.Proofs.YtmmiahgmdllgdaaGreatDoor
open Go.RowKit Go.Sort
theorem restD_succ (b : Int) (k : Nat) (v : Int) : restD b (k + 1) v = restD b k (v.tdiv b) := by
  induction k with
  | zero => rfl
  | succ k ih => rw [restD, ih]; rfl
theorem digD_cons (b : Int) (k : Nat) (v : Int) : digD b (k + 1) v = v.tmod b :: digD b k (v.tdiv b) := by
  induction k with
  | zero => rfl
  | succ k ih => rw [digD, ih, restD_succ]; rfl
theorem pw_succ (b : Int) (k : Nat) : pw b (k + 1) = pw b k * b := rfl
theorem valL_lt (b : Int) (hb : 2 ≤ b) (ds : List Int) (hd : ∀ d ∈ ds, 0 ≤ d ∧ d < b) : valL b ds < pw b ds.length := by
  induction ds with
  | nil => simp [valL, pw]
  | cons d ds ih =>
    have h1 := ih (fun x hx => hd x (List.mem_cons_of_mem _ hx))
    have h2 := (hd d (List.mem_cons_self ..)).2
    have h3 : valL b ds * b ≤ (pw b ds.length - 1) * b := Int.mul_le_mul_of_nonneg_right (by omega) (by omega)
    rw [List.length_cons, pw_succ]
    have h4 : (pw b ds.length - 1) * b = pw b ds.length * b - b := by rw [Int.sub_mul]; omega
    simp only [valL]
    omega
theorem valL_digD (b : Int) (hb : 2 ≤ b) : ∀ (k : Nat) (v : Int), 0 ≤ v → v < pw b k → v ≤ 1000000000000 → valL b (digD b k v) = v
  | 0, v, h0, h1, _ => by simp only [pw] at h1; simp [digD, valL]; omega
  | k + 1, v, h0, h1, h2 => by
    rw [digD_cons]
    have e1 : v.tdiv b = v / b := Int.tdiv_eq_ediv_of_nonneg h0
    have e2 : v.tmod b = v % b := Int.tmod_eq_emod_of_nonneg h0
    have h3 : 0 ≤ v / b := Int.ediv_nonneg h0 (by omega)
    have h4 : v / b < pw b k := by rw [pw_succ] at h1; exact Int.ediv_lt_of_lt_mul (by omega) h1
    have h5 : v / b ≤ v := Int.ediv_le_self b h0
    simp only [valL]
    rw [e1, e2, valL_digD b hb k (v / b) h3 h4 (by omega)]
    have h6 := Int.emod_add_mul_ediv v b
    have h7 : v / b * b + v % b = v := by rw [Int.mul_comm]; omega
    rw [h7]; omega
theorem digD_ok (b : Int) (hb : 2 ≤ b) : ∀ (k : Nat) (v : Int), 0 ≤ v → ∀ d ∈ digD b k v, 0 ≤ d ∧ d < b
  | 0, _, _, d, h => by simp [digD] at h
  | k + 1, v, h0, d, h => by
    rw [digD_cons] at h
    have e1 : v.tdiv b = v / b := Int.tdiv_eq_ediv_of_nonneg h0
    have e2 : v.tmod b = v % b := Int.tmod_eq_emod_of_nonneg h0
    rcases List.mem_cons.1 h with rfl | h
    · rw [e2]; exact ⟨Int.emod_nonneg _ (by omega), Int.emod_lt_of_pos _ (by omega)⟩
    · rw [e1] at h; exact digD_ok b hb k _ (Int.ediv_nonneg h0 (by omega)) d h
theorem digD_vreg (b : Int) (hb : 2 ≤ b) (hb2 : b ≤ 16) (k : Nat) (hk : 1 ≤ k) (hk2 : k ≤ 16) (v : Int) (h0 : 0 ≤ v) (h1 : v < pw b k) (h2 : v ≤ 1000000000000) : vreg b (digD b k v) = true := by
  rw [vreg_iff, digD_len, valL_digD b hb k v h0 h1 h2]
  exact ⟨⟨hb, hb2⟩, ⟨by omega, by omega⟩, digD_ok b hb k v h0, h2⟩
theorem digD_zero (b : Int) : ∀ k : Nat, digD b k 0 = List.replicate k 0
  | 0 => rfl
  | k + 1 => by rw [digD_cons, Int.zero_tdiv, Int.zero_tmod, digD_zero b k]; rfl
/-- the shifted digits are valid again -/
theorem shiftD_vreg (b : Int) (ds : List Int) (x : Int) (hv : vreg b ds = true) (hp : pw b ds.length ≤ 1000000000001) : vreg b (shiftD b ds x) = true := by
  obtain ⟨⟨b1, b2⟩, ⟨n1, n2⟩, -, -⟩ := vreg_iff.1 hv
  have hp1 := pw_pos b b1 ds.length
  have h1 := Int.tmod_lt_of_pos ((valL b ds + x).tmod (pw b ds.length) + pw b ds.length) (show 0 < pw b ds.length by omega)
  have h2 := Int.lt_tmod_of_pos (valL b ds + x) (show 0 < pw b ds.length by omega)
  exact digD_vreg b b1 b2 _ (by omega) (by omega) _ (Int.tmod_nonneg _ (by omega)) h1 (by omega)
end Go.Proofs.YtmmiahgmdllgdaaGreatDoor
