/- Part 2: lemmas and contracts of the claim's functions. -/
import Derived.Test.YtmmiahgmdllgdaaDoorZC1
import Derived.Deep.DeepCutAuto
import Derived.Deep.RegionHeld3
namespace Go.Proofs.YtmmiahgmdllgdaaDoor
open Go.RowKit Go.Sort
theorem TriM.of_block {w : World} {g : Nat} {T : TypeId} {t : Tri} {A1 A2 A3 : Option Addr} {c1 c2 c3 : Nat}
    (hg : w.heap[g]? = some (.cells #[.int .i64 t.a.base, .slice A1 t.a.digits.length c1, .int .i64 t.b.base, .slice A2 t.b.digits.length c2, .int .i64 t.s.base, .slice A3 t.s.digits.length c3, .int .i64 t.carry] T (0, 0)))
    (r1 : RI w A1 t.a.digits.length t.a.digits) (r2 : RI w A2 t.b.digits.length t.b.digits) (r3 : RI w A3 t.s.digits.length t.s.digits) : TriM w ⟨g, 0, none⟩ t := by
  have hc : ∀ i v, #[Value.int .i64 t.a.base, .slice A1 t.a.digits.length c1, .int .i64 t.b.base, .slice A2 t.b.digits.length c2, .int .i64 t.s.base, .slice A3 t.s.digits.length c3, .int .i64 t.carry][i]? = some v → w.cell? ⟨g, i, none⟩ = some v := fun i v hv => by rw [cell_of_row w g i _ T (0, 0) hg]; exact hv
  exact ⟨⟨A1, c1, ⟨hc 0 _ rfl, hc 1 _ rfl⟩, r1⟩, ⟨A2, c2, ⟨hc 2 _ rfl, hc 3 _ rfl⟩, r2⟩, ⟨A3, c3, ⟨hc 4 _ rfl, hc 5 _ rfl⟩, r3⟩, hc 6 _ rfl⟩
theorem RL.one {w : World} {g : Nat} {t : Tri} (h : TriM w ⟨g, 0, none⟩ t) (hl : g < w.heap.size) : RL TriM 7 w (some ⟨g, 0, none⟩) 1 [t] :=
  ⟨rfl, fun _ => ⟨_, rfl, hl, fun k hk => by
    have : k = 0 := by simp at hk; omega
    subst this
    rw [Nat.zero_mul, addr_add_zero]; exact h⟩⟩
def ttextL (t : Tri) : ByteArray := ((((((⟨(rtext t.a).toArray⟩ : ByteArray) ++ (⟨#[32, 43, 32]⟩ : ByteArray)) ++ (⟨(rtext t.b).toArray⟩ : ByteArray)) ++ (⟨#[32, 61, 32]⟩ : ByteArray)) ++ (⟨(rtext t.s).toArray⟩ : ByteArray)) ++ (⟨#[32]⟩ : ByteArray)) ++ (⟨(dec t.carry).toArray⟩ : ByteArray)
def ttext (t : Tri) : ByteArray := if vtrials [t] then ttextL t else ⟨#[]⟩
theorem rtext_len (r : Reg) : (rtext r).length ≤ 60 := by
  unfold rtext
  split
  · rename_i h
    obtain ⟨⟨hb1, hb2⟩, ⟨hl1, hl2⟩, -, -⟩ := vreg_iff.1 h
    have := dec_len r.base (by omega) (by omega)
    simp only [rtextL, List.length_append, List.length_map, List.length_reverse, List.length_cons, List.length_nil]; omega
  · simp
theorem vtrials_one {t : Tri} (h : vtrials [t] = true) : t.a.ok = true ∧ t.b.ok = true ∧ t.s.ok = true ∧ 0 ≤ t.carry ∧ t.carry ≤ 1 := by
  simp only [vtrials, List.all_cons, List.all_nil, Bool.and_true, Bool.and_eq_true, List.headD_cons, triGood, vlike] at h
  obtain ⟨⟨⟨⟨h1, h2⟩, h3⟩, h4⟩, -⟩ := h
  obtain ⟨h5, h6⟩ := betB_iff.1 h4
  exact ⟨h1.1.1, h2.1.1, h3.1.1, h5, h6⟩
end Go.Proofs.YtmmiahgmdllgdaaDoor

namespace Go.Proofs.YtmmiahgmdllgdaaDoor
open Go.RowKit Go.Sort
/-- powers -/
def pw (b : Int) : Nat → Int
  | 0 => 1
  | n + 1 => pw b n * b
theorem pw_pos (b : Int) (hb : 2 ≤ b) (n : Nat) : 1 ≤ pw b n := by
  induction n with
  | zero => simp [pw]
  | succ n ih => have := Int.mul_le_mul ih hb (by omega) (by omega); simp only [pw]; omega
theorem pw_step (b : Int) (hb : 2 ≤ b) (n : Nat) : 2 * pw b n ≤ pw b (n + 1) := by
  have := Int.mul_le_mul_of_nonneg_left hb (show 0 ≤ pw b n by have := pw_pos b hb n; omega)
  simp only [pw]; omega
theorem pw_mono (b : Int) (hb : 2 ≤ b) (n k : Nat) (h : n ≤ k) : pw b n ≤ pw b k := by
  induction h with
  | refl => omega
  | @step m _ ih => have h1 := pw_step b hb m; have h2 := pw_pos b hb m; exact Int.le_trans ih (by show pw b m ≤ pw b (m + 1); omega)
def powC (b : Int) (n : Nat) : Int := if pw b n ≤ 1000000000001 then pw b n else 0
def powS (b : Int) (n : Nat) : Int := min 1000000000002 (pw b n)
theorem powS_succ (b : Int) (hb : 2 ≤ b) (n : Nat) : powS b (n + 1) = min 1000000000002 (powS b n * b) := by
  unfold powS
  have h1 := pw_pos b hb n
  rcases Int.le_total (pw b n) 1000000000002 with h | h
  · rw [Int.min_eq_right h]; rfl
  · have h2 := pw_step b hb n
    rw [Int.min_eq_left h, Int.min_eq_left (by omega), Int.min_eq_left (by omega)]
theorem powS_bd (b : Int) (hb : 2 ≤ b) (n : Nat) : 1 ≤ powS b n ∧ powS b n ≤ 1000000000002 := by
  have := pw_pos b hb n; unfold powS; omega
theorem power_any (b : Int) (n : Nat) (w : World) (hb1 : 2 ≤ b) (hb2 : b ≤ 16) (hn : n ≤ 9223372036854775807) :
    Calls Tryd.prog 49 #[.int .i64 b, .int .i64 n] w fun e w' => e = .returned (.int .i64 (powC b n)) ∧ w = w' := by
  go_enter Tryd.func49, Tryd.ntmps49
  go_wp2
  go_loop [5, 7] (fun v i => ∃ k : Nat, k ≤ n ∧ i = .int .i64 k ∧ v = .int .i64 (pw b k) ∧ pw b k ≤ 1000000000001) (fun _ i => n - (intOf i).toNat)
  case atStart => exact ⟨0, Nat.zero_le _, rfl, rfl, by simp [pw]⟩
  case round =>
    obtain ⟨k, hk, rfl, rfl, hv⟩ := hrel
    have h1 := pw_pos b hb1 k
    have hm0 : 0 ≤ pw b k * b := Int.mul_nonneg (by omega) (by omega)
    have hm1 : pw b k * b ≤ 16000000000016 := by
      have := Int.mul_le_mul hv hb2 (by omega) (by omega); omega
    by_cases hkn : k < n
    · have hP : Hid (pw b (k + 1) = pw b k * b) := rfl
      have hi1 : (k : Int) < (n : Int) := by omega
      by_cases hq : 1000000000000 < pw b k * b - 1
      · go_wp2
        go_ret
        exact ⟨ret_int (by have h2 := pw_mono b hb1 (k + 1) n (by omega); rw [hP.out] at h2; unfold powC; rw [if_neg (by omega)]), rfl⟩
      · go_wp2
        go_round
        case rel => exact ⟨k + 1, by omega, by go_num, by rw [hP.out], by rw [hP.out]; omega⟩
        case measure => simp [intOf]; omega
    · have hi1 : ¬ (k : Int) < (n : Int) := by omega
      obtain rfl : k = n := by omega
      go_wp2
      go_ret
      exact ⟨ret_int (by unfold powC; rw [if_pos hv]), rfl⟩
theorem l10Power_any (b : Int) (n : Nat) (w : World) (hb1 : 2 ≤ b) (hb2 : b ≤ 16) (hn : n ≤ 9223372036854775807) :
    Calls Tryd.prog 80 #[.int .i64 b, .int .i64 n] w fun e w' => e = .returned (.int .i64 (powS b n)) ∧ w = w' := by
  go_enter Tryd.func80, Tryd.ntmps80
  go_wp2
  go_loop [5, 1] (fun v i => ∃ k j : Nat, k + j = n ∧ i = .int .i64 j ∧ v = .int .i64 (powS b k)) (fun _ i => (intOf i).toNat)
  case atStart => exact ⟨0, n, by omega, rfl, rfl⟩
  case round =>
    obtain ⟨k, j, hk, rfl, rfl⟩ := hrel
    obtain ⟨h1, hv⟩ := powS_bd b hb1 k
    have hm0 : 0 ≤ powS b k * b := Int.mul_nonneg (by omega) (by omega)
    have hm1 : powS b k * b ≤ 16000000000032 := by
      have := Int.mul_le_mul hv hb2 (by omega) (by omega); omega
    have HP := Lib.hid (powS_succ b hb1 k)
    by_cases hj : 0 < j
    · have hi1 : (0 : Int) < (j : Int) := by omega
      go_wp2_with (go_at_call 66; refine (l00Min_any _ _ _).mono ?_; rintro e w' ⟨rfl, rfl⟩)
      go_round
      case rel => exact ⟨k + 1, j - 1, by omega, by congr 1; omega, by rw [HP.out]⟩
      case measure => simp [intOf]; omega
    · obtain rfl : j = 0 := by omega
      go_wp2_with (go_at_call 66; refine (l00Min_any _ _ _).mono ?_; rintro e w' ⟨rfl, rfl⟩)
      go_ret
      exact ⟨ret_int (by congr 1), rfl⟩
theorem l10Full_any (b : Int) (n : Nat) (w : World) (hb1 : 2 ≤ b) (hb2 : b ≤ 16) (hn : n ≤ 9223372036854775807) :
    Calls Tryd.prog 58 #[.int .i64 b, .int .i64 n] w fun e w' => e = .returned (.bool (decide (pw b n ≤ 1000000000001))) ∧ w = w' := by
  obtain ⟨h1, hv⟩ := powS_bd b hb1 n
  go_enter Tryd.func58, Tryd.ntmps58
  go_wp2_with (go_at_call 80; refine (l10Power_any _ _ _ hb1 hb2 hn).mono ?_; rintro e w' ⟨rfl, rfl⟩)
  go_ret
  exact ⟨ret_bool (by unfold powS; rw [decide_eq_decide]; omega), rfl⟩
theorem powC_zero (b : Int) (hb : 2 ≤ b) (n : Nat) : (powC b n == 0) = !decide (pw b n ≤ 1000000000001) := by
  have := pw_pos b hb n
  unfold powC
  split
  · rename_i h; rw [decide_eq_true h]; simp; omega
  · rename_i h; rw [decide_eq_false h]; rfl
end Go.Proofs.YtmmiahgmdllgdaaDoor

namespace Go.Proofs.YtmmiahgmdllgdaaDoor
open Go.RowKit Go.Sort
theorem power_B (b : Int) (n : Nat) (w : World) (hb1 : 2 ≤ b) (hb2 : b ≤ 16) (hn : n ≤ 9223372036854775807) :
    Calls Tryd.prog 49 #[.int .i64 b, .int .i64 n] w fun e w' => e = .returned (.int .i64 (powC b n)) ∧ Below w.heap.size w w' :=
  (power_any b n w hb1 hb2 hn).mono fun _ _ ⟨h, e⟩ => ⟨h, e ▸ Below.refl _ _⟩
theorem between_B (a b c : Int) (w : World) : Calls Tryd.prog 45 #[.int .i64 a, .int .i64 b, .int .i64 c] w fun e w' => e = .returned (.bool (betB a b c)) ∧ Below w.heap.size w w' :=
  (between_any a b c w).mono fun _ _ ⟨h, e⟩ => ⟨h, e ▸ Below.refl _ _⟩
theorem values_any (b : Int) (A : Option Addr) (n c : Nat) (w : World) (hb1 : 2 ≤ b) (hb2 : b ≤ 16) (hn : n ≤ 9223372036854775807) :
    Calls Tryd.prog 43 #[.agg #[.int .i64 b, .slice A n c]] w fun e w' => e = .returned (.int .i64 (powC b n)) ∧ Below w.heap.size w w' := by
  go_enter Tryd.func43, Tryd.ntmps43
  go_wp2_with fail
  obtain ⟨WW, hWW⟩ : ∃ W, W = w.alloc (.cells #[.int .i64 b, .slice A n c] 26) := ⟨_, rfl⟩
  rw [← hWW]
  have hWb : Below w.heap.size w WW := by rw [hWW]; exact (Below.refl _ _).alloc (Nat.le_refl _) _
  have x1 := cell_regrown (show WW.cell? ⟨w.heap.size, 0, none⟩ = some (.int .i64 b) by rw [hWW]; go_simp)
  have x2 := cell_regrown (show WW.cell? ⟨w.heap.size, 1, none⟩ = some (.slice A n c) by rw [hWW]; go_simp)
  clear hWW
  refine wp_region_quiet_below (by kernel_rfl) (by kernel_rfl) ?_
  repeat (go_big_quiet_step (first | (go_at_call 44; exact quietB (fun W _ => width_any _ _ _ _ W)) | (go_at_call 49; exact quietB (fun W _ => power_B _ _ W hb1 hb2 hn))))
  refine wpQuiet_nil ?_
  intro W1 hw'
  have hB1 : Below WW.heap.size WW W1 := by
    obtain ⟨⟨dq, osq⟩, hw''⟩ := hw'
    rw [hw'']; exact below_regrown _ _ _
  clear hw'
  go_wp2
  go_ret
  exact ⟨rfl, hWb.trans (hB1.mono hWb.size)⟩
def vplaces (t : Tri) : Int := min ((t.b.digits.length : Int) - t.a.digits.length + 1) t.s.digits.length
def fullB (r : Reg) : Bool := decide (pw r.base r.digits.length ≤ 1000000000001)
def vmach (t : Tri) : Bool := (t.a.ok && t.b.ok && t.s.ok) && ((t.a.base == t.b.base) && (t.s.base == t.b.base) && fullB t.b && fullB t.s) && (decide (t.a.digits.length ≤ t.b.digits.length) && betB t.carry 0 (vplaces t - 1))
def TriC (w : World) (p : Addr) (t : Tri) (A1 : Option Addr) (c1 : Nat) (A2 : Option Addr) (c2 : Nat) (A3 : Option Addr) (c3 : Nat) : Prop :=
  (w.cell? ⟨p.block, p.off, none⟩ = some (.int .i64 t.a.base) ∧ w.cell? ⟨p.block, p.off + 1, none⟩ = some (.slice A1 t.a.digits.length c1) ∧ w.cell? ⟨p.block, p.off + 2, none⟩ = some (.int .i64 t.b.base) ∧ w.cell? ⟨p.block, p.off + 3, none⟩ = some (.slice A2 t.b.digits.length c2) ∧
    w.cell? ⟨p.block, p.off + 4, none⟩ = some (.int .i64 t.s.base) ∧ w.cell? ⟨p.block, p.off + 5, none⟩ = some (.slice A3 t.s.digits.length c3) ∧ w.cell? ⟨p.block, p.off + 6, none⟩ = some (.int .i64 t.carry)) ∧
    RI w A1 t.a.digits.length t.a.digits ∧ RI w A2 t.b.digits.length t.b.digits ∧ RI w A3 t.s.digits.length t.s.digits
theorem TriC.below {w w' : World} {p : Addr} {t : Tri} {A1 A2 A3 : Option Addr} {c1 c2 c3 : Nat} (h : TriC w p t A1 c1 A2 c2 A3 c3) (hp : p.block < w.heap.size) (hb : Below w.heap.size w w') : TriC w' p t A1 c1 A2 c2 A3 c3 := by
  obtain ⟨⟨h1, h2, h3, h4, h5, h6, h7⟩, r1, r2, r3⟩ := h
  exact ⟨⟨by rw [hb.cell (by exact hp)]; exact h1, by rw [hb.cell (by exact hp)]; exact h2, by rw [hb.cell (by exact hp)]; exact h3, by rw [hb.cell (by exact hp)]; exact h4, by rw [hb.cell (by exact hp)]; exact h5, by rw [hb.cell (by exact hp)]; exact h6, by rw [hb.cell (by exact hp)]; exact h7⟩, r1.below hb, r2.below hb, r3.below hb⟩
theorem TriC.of_block {w : World} {g : Nat} {T : TypeId} {t : Tri} {A1 A2 A3 : Option Addr} {c1 c2 c3 : Nat}
    (hg : w.heap[g]? = some (.cells #[.int .i64 t.a.base, .slice A1 t.a.digits.length c1, .int .i64 t.b.base, .slice A2 t.b.digits.length c2, .int .i64 t.s.base, .slice A3 t.s.digits.length c3, .int .i64 t.carry] T (0, 0)))
    (r1 : RI w A1 t.a.digits.length t.a.digits) (r2 : RI w A2 t.b.digits.length t.b.digits) (r3 : RI w A3 t.s.digits.length t.s.digits) : TriC w ⟨g, 0, none⟩ t A1 c1 A2 c2 A3 c3 := by
  have hc : ∀ i v, #[Value.int .i64 t.a.base, .slice A1 t.a.digits.length c1, .int .i64 t.b.base, .slice A2 t.b.digits.length c2, .int .i64 t.s.base, .slice A3 t.s.digits.length c3, .int .i64 t.carry][i]? = some v → w.cell? ⟨g, i, none⟩ = some v := fun i v hv => by rw [cell_of_row w g i _ T (0, 0) hg]; exact hv
  exact ⟨⟨hc 0 _ rfl, hc 1 _ rfl, hc 2 _ rfl, hc 3 _ rfl, hc 4 _ rfl, hc 5 _ rfl, hc 6 _ rfl⟩, r1, r2, r3⟩
theorem TriC.tri {w : World} {b o : Nat} {t : Tri} {A1 A2 A3 : Option Addr} {c1 c2 c3 : Nat} (h : TriC w ⟨b, o, none⟩ t A1 c1 A2 c2 A3 c3) : TriM w ⟨b, o, none⟩ t := by
  obtain ⟨⟨h1, h2, h3, h4, h5, h6, h7⟩, r1, r2, r3⟩ := h
  exact ⟨⟨A1, c1, ⟨h1, h2⟩, r1⟩, ⟨A2, c2, ⟨h3, h4⟩, r2⟩, ⟨A3, c3, ⟨h5, h6⟩, r3⟩, h7⟩
theorem places_any (t : Tri) (A1 A2 A3 : Option Addr) (c1 c2 c3 : Nat) (w : World) (r1 : RI w A1 t.a.digits.length t.a.digits) (r2 : RI w A2 t.b.digits.length t.b.digits) (r3 : RI w A3 t.s.digits.length t.s.digits) (h1 : t.a.digits.length ≤ 16) (h2 : t.b.digits.length ≤ 16) (_h3 : t.s.digits.length ≤ 16) :
    Calls Tryd.prog 46 #[.agg #[.int .i64 t.a.base, .slice A1 t.a.digits.length c1, .int .i64 t.b.base, .slice A2 t.b.digits.length c2, .int .i64 t.s.base, .slice A3 t.s.digits.length c3, .int .i64 t.carry]] w fun e w' => e = .returned (.int .i64 (vplaces t)) ∧ Below w.heap.size w w' := by
  go_enter Tryd.func46, Tryd.ntmps46
  go_wp2_with fail
  obtain ⟨WW, hWW⟩ : ∃ W, W = w.alloc (.cells #[.int .i64 t.a.base, .slice A1 t.a.digits.length c1, .int .i64 t.b.base, .slice A2 t.b.digits.length c2, .int .i64 t.s.base, .slice A3 t.s.digits.length c3, .int .i64 t.carry] 28) := ⟨_, rfl⟩
  have hbw : Below w.heap.size w WW := by rw [hWW]; exact (Below.refl _ _).alloc (Nat.le_refl _) _
  have hT : TriC WW ⟨w.heap.size, 0, none⟩ t A1 c1 A2 c2 A3 c3 := by rw [hWW]; exact TriC.of_block (g := w.heap.size) (heap_alloc_new _ _) (r1.below (hWW ▸ hbw)) (r2.below (hWW ▸ hbw)) (r3.below (hWW ▸ hbw))
  have hlt : w.heap.size < WW.heap.size := by rw [hWW]; simp
  clear r1 r2 r3
  rw [← hWW]
  clear hWW
  obtain ⟨⟨g1, g2, g3, g4, g5, g6, g7⟩, r1, r2, r3⟩ := (show _ ∧ _ from hT)
  simp only [Nat.zero_add] at g1 g2 g3 g4 g5 g6 g7
  have x1 := cell_regrown g1
  have x2 := cell_regrown g2
  have x3 := cell_regrown g3
  have x4 := cell_regrown g4
  have x5 := cell_regrown g5
  have x6 := cell_regrown g6
  have x7 := cell_regrown g7
  refine wp_region_quiet_below (by kernel_rfl) (by kernel_rfl) ?_
  repeat (go_big_quiet_step ((go_at_call 44; exact quietB (fun W _ => width_any _ _ _ _ W))))
  all_goals
    refine wpQuiet_nil ?_
    intro W1 hw'
    have hB1 : Below WW.heap.size WW W1 := by
      obtain ⟨⟨dq, osq⟩, hw''⟩ := hw'
      rw [hw'']; exact below_regrown _ _ _
    clear hw'
    go_wp2
    all_goals
      go_ret
      exact ⟨ret_int (by unfold vplaces; omega), hbw.trans (hB1.mono hbw.size)⟩
theorem ok_bd {r : Reg} (h : r.ok = true) : 2 ≤ r.base ∧ r.base ≤ 16 ∧ r.digits.length ≤ 16 := by
  obtain ⟨⟨h1, h2⟩, ⟨-, h4⟩, -⟩ := vreg_iff.1 h
  exact ⟨h1, h2, by omega⟩
set_option maxRecDepth 100000 in
set_option maxHeartbeats 1600000 in
theorem ValidMachine_any (t : Tri) (A1 A2 A3 : Option Addr) (c1 c2 c3 : Nat) (w : World) (r1 : RI w A1 t.a.digits.length t.a.digits) (r2 : RI w A2 t.b.digits.length t.b.digits) (r3 : RI w A3 t.s.digits.length t.s.digits) (hs : SmallTri t) :
    Calls Tryd.prog 19 #[.agg #[.int .i64 t.a.base, .slice A1 t.a.digits.length c1, .int .i64 t.b.base, .slice A2 t.b.digits.length c2, .int .i64 t.s.base, .slice A3 t.s.digits.length c3, .int .i64 t.carry]] w fun e w' => e = .returned (.bool (vmach t)) ∧ Below w.heap.size w w' := by
  have HV := Lib.hid (show vmach t = (((t.a.ok && t.b.ok && t.s.ok) && ((t.a.base == t.b.base) && (t.s.base == t.b.base) && fullB t.b && fullB t.s)) && (decide (t.a.digits.length ≤ t.b.digits.length) && betB t.carry 0 (vplaces t - 1))) from rfl)
  obtain ⟨s1, s2, s3⟩ := hs
  go_enter Tryd.func19, Tryd.ntmps19
  go_wp2_with fail
  obtain ⟨WW, hWW⟩ : ∃ W, W = w.alloc (.cells #[.int .i64 t.a.base, .slice A1 t.a.digits.length c1, .int .i64 t.b.base, .slice A2 t.b.digits.length c2, .int .i64 t.s.base, .slice A3 t.s.digits.length c3, .int .i64 t.carry] 28) := ⟨_, rfl⟩
  have hbw : Below w.heap.size w WW := by rw [hWW]; exact (Below.refl _ _).alloc (Nat.le_refl _) _
  have hT : TriC WW ⟨w.heap.size, 0, none⟩ t A1 c1 A2 c2 A3 c3 := by rw [hWW]; exact TriC.of_block (g := w.heap.size) (heap_alloc_new _ _) (r1.below (hWW ▸ hbw)) (r2.below (hWW ▸ hbw)) (r3.below (hWW ▸ hbw))
  have hlt : w.heap.size < WW.heap.size := by rw [hWW]; simp
  clear r1 r2 r3
  rw [← hWW]
  clear hWW
  obtain ⟨⟨g1, g2, g3, g4, g5, g6, g7⟩, r1, r2, r3⟩ := (show _ ∧ _ from hT)
  simp only [Nat.zero_add] at g1 g2 g3 g4 g5 g6 g7
  rcases k1 : t.a.ok with _ | _
  · refine (calls_val (ValidRegister_any t.a.base A1 t.a.digits.length c1 t.a.digits _ r1 (by have := s1; unfold SmallReg at this; omega)) (congrArg Value.bool k1)).mono ?_; rintro e w1 ⟨rfl, hw1⟩
    replace hT := hT.below hlt hw1
    replace hbw := hbw.trans (hw1.mono hbw.size)
    replace hlt := Nat.lt_of_lt_of_le hlt hw1.size
    clear hw1 g1 g2 g3 g4 g5 g6 g7 r1 r2 r3
    obtain ⟨⟨g1, g2, g3, g4, g5, g6, g7⟩, r1, r2, r3⟩ := (show _ ∧ _ from hT)
    simp only [Nat.zero_add] at g1 g2 g3 g4 g5 g6 g7
    go_wp2
    go_ret
    exact ⟨ret_bool (by rw [HV.out, k1]; rfl), hbw⟩
  rcases k2 : t.b.ok with _ | _
  · refine (calls_val (ValidRegister_any t.a.base A1 t.a.digits.length c1 t.a.digits _ r1 (by have := s1; unfold SmallReg at this; omega)) (congrArg Value.bool k1)).mono ?_; rintro e w1 ⟨rfl, hw1⟩
    replace hT := hT.below hlt hw1
    replace hbw := hbw.trans (hw1.mono hbw.size)
    replace hlt := Nat.lt_of_lt_of_le hlt hw1.size
    clear hw1 g1 g2 g3 g4 g5 g6 g7 r1 r2 r3
    obtain ⟨⟨g1, g2, g3, g4, g5, g6, g7⟩, r1, r2, r3⟩ := (show _ ∧ _ from hT)
    simp only [Nat.zero_add] at g1 g2 g3 g4 g5 g6 g7
    go_wp2_with fail
    refine (calls_val (ValidRegister_any t.b.base A2 t.b.digits.length c2 t.b.digits _ r2 (by have := s2; unfold SmallReg at this; omega)) (congrArg Value.bool k2)).mono ?_; rintro e w2 ⟨rfl, hw2⟩
    replace hT := hT.below hlt hw2
    replace hbw := hbw.trans (hw2.mono hbw.size)
    replace hlt := Nat.lt_of_lt_of_le hlt hw2.size
    clear hw2 g1 g2 g3 g4 g5 g6 g7 r1 r2 r3
    obtain ⟨⟨g1, g2, g3, g4, g5, g6, g7⟩, r1, r2, r3⟩ := (show _ ∧ _ from hT)
    simp only [Nat.zero_add] at g1 g2 g3 g4 g5 g6 g7
    go_wp2
    go_ret
    exact ⟨ret_bool (by rw [HV.out, k1, k2]; rfl), hbw⟩
  rcases k3 : t.s.ok with _ | _
  · refine (calls_val (ValidRegister_any t.a.base A1 t.a.digits.length c1 t.a.digits _ r1 (by have := s1; unfold SmallReg at this; omega)) (congrArg Value.bool k1)).mono ?_; rintro e w1 ⟨rfl, hw1⟩
    replace hT := hT.below hlt hw1
    replace hbw := hbw.trans (hw1.mono hbw.size)
    replace hlt := Nat.lt_of_lt_of_le hlt hw1.size
    clear hw1 g1 g2 g3 g4 g5 g6 g7 r1 r2 r3
    obtain ⟨⟨g1, g2, g3, g4, g5, g6, g7⟩, r1, r2, r3⟩ := (show _ ∧ _ from hT)
    simp only [Nat.zero_add] at g1 g2 g3 g4 g5 g6 g7
    go_wp2_with fail
    refine (calls_val (ValidRegister_any t.b.base A2 t.b.digits.length c2 t.b.digits _ r2 (by have := s2; unfold SmallReg at this; omega)) (congrArg Value.bool k2)).mono ?_; rintro e w2 ⟨rfl, hw2⟩
    replace hT := hT.below hlt hw2
    replace hbw := hbw.trans (hw2.mono hbw.size)
    replace hlt := Nat.lt_of_lt_of_le hlt hw2.size
    clear hw2 g1 g2 g3 g4 g5 g6 g7 r1 r2 r3
    obtain ⟨⟨g1, g2, g3, g4, g5, g6, g7⟩, r1, r2, r3⟩ := (show _ ∧ _ from hT)
    simp only [Nat.zero_add] at g1 g2 g3 g4 g5 g6 g7
    go_wp2_with fail
    refine (calls_val (ValidRegister_any t.s.base A3 t.s.digits.length c3 t.s.digits _ r3 (by have := s3; unfold SmallReg at this; omega)) (congrArg Value.bool k3)).mono ?_; rintro e w3 ⟨rfl, hw3⟩
    replace hT := hT.below hlt hw3
    replace hbw := hbw.trans (hw3.mono hbw.size)
    replace hlt := Nat.lt_of_lt_of_le hlt hw3.size
    clear hw3 g1 g2 g3 g4 g5 g6 g7 r1 r2 r3
    obtain ⟨⟨g1, g2, g3, g4, g5, g6, g7⟩, r1, r2, r3⟩ := (show _ ∧ _ from hT)
    simp only [Nat.zero_add] at g1 g2 g3 g4 g5 g6 g7
    go_wp2
    go_ret
    exact ⟨ret_bool (by rw [HV.out, k1, k2, k3]; rfl), hbw⟩
  refine (calls_val (ValidRegister_any t.a.base A1 t.a.digits.length c1 t.a.digits _ r1 (by have := s1; unfold SmallReg at this; omega)) (congrArg Value.bool k1)).mono ?_; rintro e w1 ⟨rfl, hw1⟩
  replace hT := hT.below hlt hw1
  replace hbw := hbw.trans (hw1.mono hbw.size)
  replace hlt := Nat.lt_of_lt_of_le hlt hw1.size
  clear hw1 g1 g2 g3 g4 g5 g6 g7 r1 r2 r3
  obtain ⟨⟨g1, g2, g3, g4, g5, g6, g7⟩, r1, r2, r3⟩ := (show _ ∧ _ from hT)
  simp only [Nat.zero_add] at g1 g2 g3 g4 g5 g6 g7
  go_wp2_with fail
  refine (calls_val (ValidRegister_any t.b.base A2 t.b.digits.length c2 t.b.digits _ r2 (by have := s2; unfold SmallReg at this; omega)) (congrArg Value.bool k2)).mono ?_; rintro e w2 ⟨rfl, hw2⟩
  replace hT := hT.below hlt hw2
  replace hbw := hbw.trans (hw2.mono hbw.size)
  replace hlt := Nat.lt_of_lt_of_le hlt hw2.size
  clear hw2 g1 g2 g3 g4 g5 g6 g7 r1 r2 r3
  obtain ⟨⟨g1, g2, g3, g4, g5, g6, g7⟩, r1, r2, r3⟩ := (show _ ∧ _ from hT)
  simp only [Nat.zero_add] at g1 g2 g3 g4 g5 g6 g7
  go_wp2_with fail
  refine (calls_val (ValidRegister_any t.s.base A3 t.s.digits.length c3 t.s.digits _ r3 (by have := s3; unfold SmallReg at this; omega)) (congrArg Value.bool k3)).mono ?_; rintro e w3 ⟨rfl, hw3⟩
  replace hT := hT.below hlt hw3
  replace hbw := hbw.trans (hw3.mono hbw.size)
  replace hlt := Nat.lt_of_lt_of_le hlt hw3.size
  clear hw3 g1 g2 g3 g4 g5 g6 g7 r1 r2 r3
  obtain ⟨⟨g1, g2, g3, g4, g5, g6, g7⟩, r1, r2, r3⟩ := (show _ ∧ _ from hT)
  simp only [Nat.zero_add] at g1 g2 g3 g4 g5 g6 g7
  obtain ⟨p1, p2, p3⟩ := ok_bd k1
  obtain ⟨p4, p5, p6⟩ := ok_bd k2
  obtain ⟨p7, p8, p9⟩ := ok_bd k3
  have HV := Lib.hid (show vmach t = (((t.a.base == t.b.base) && (t.s.base == t.b.base) && fullB t.b && fullB t.s) && (decide (t.a.digits.length ≤ t.b.digits.length) && betB t.carry 0 (vplaces t - 1))) by rw [HV.out, k1, k2, k3]; simp)
  clear k1 k2 k3
  have z1 := Lib.hid (powC_zero t.b.base p4 t.b.digits.length)
  have z2 := Lib.hid (powC_zero t.s.base p7 t.s.digits.length)
  rcases k1 : (t.a.base == t.b.base) with _ | _
  · have i1 : (t.a.base != t.b.base) = true := by simp [bne, k1]
    have K1 := Lib.hid k1; clear k1
    go_wp2
    go_ret
    exact ⟨ret_bool (by rw [HV.out, K1.out]; rfl), hbw⟩
  have i1 : (t.a.base != t.b.base) = false := by simp [bne, k1]
  rcases k2 : (t.s.base == t.b.base) with _ | _
  · have i2 : (t.s.base != t.b.base) = true := by simp [bne, k2]
    have K1 := Lib.hid k1; clear k1
    have K2 := Lib.hid k2; clear k2
    go_wp2
    go_ret
    exact ⟨ret_bool (by rw [HV.out, K1.out, K2.out]; rfl), hbw⟩
  have i2 : (t.s.base != t.b.base) = false := by simp [bne, k2]
  have HV := Lib.hid (show vmach t = (fullB t.b && fullB t.s && (decide (t.a.digits.length ≤ t.b.digits.length) && betB t.carry 0 (vplaces t - 1))) by rw [HV.out, k1, k2]; simp)
  clear k1 k2
  rcases k3 : fullB t.b with _ | _
  · have i3 : (powC t.b.base t.b.digits.length == 0) = true := by rw [z1.out]; unfold fullB at k3; rw [k3]; rfl
    have K3 := Lib.hid k3; clear k3
    go_wp2_with fail
    refine (values_any t.b.base A2 t.b.digits.length c2 _ p4 p5 (by omega)).mono ?_; rintro e w4 ⟨rfl, hw4⟩
    replace hT := hT.below hlt hw4
    replace hbw := hbw.trans (hw4.mono hbw.size)
    replace hlt := Nat.lt_of_lt_of_le hlt hw4.size
    clear hw4 g1 g2 g3 g4 g5 g6 g7 r1 r2 r3
    obtain ⟨⟨g1, g2, g3, g4, g5, g6, g7⟩, r1, r2, r3⟩ := (show _ ∧ _ from hT)
    simp only [Nat.zero_add] at g1 g2 g3 g4 g5 g6 g7
    go_wp2
    go_ret
    exact ⟨ret_bool (by rw [HV.out, K3.out]; rfl), hbw⟩
  have i3 : (powC t.b.base t.b.digits.length == 0) = false := by rw [z1.out]; unfold fullB at k3; rw [k3]; rfl
  go_wp2_with fail
  refine (values_any t.b.base A2 t.b.digits.length c2 _ p4 p5 (by omega)).mono ?_; rintro e w4 ⟨rfl, hw4⟩
  replace hT := hT.below hlt hw4
  replace hbw := hbw.trans (hw4.mono hbw.size)
  replace hlt := Nat.lt_of_lt_of_le hlt hw4.size
  clear hw4 g1 g2 g3 g4 g5 g6 g7 r1 r2 r3
  obtain ⟨⟨g1, g2, g3, g4, g5, g6, g7⟩, r1, r2, r3⟩ := (show _ ∧ _ from hT)
  simp only [Nat.zero_add] at g1 g2 g3 g4 g5 g6 g7
  go_wp2_with fail
  refine (values_any t.s.base A3 t.s.digits.length c3 _ p7 p8 (by omega)).mono ?_; rintro e w5 ⟨rfl, hw5⟩
  replace hT := hT.below hlt hw5
  replace hbw := hbw.trans (hw5.mono hbw.size)
  replace hlt := Nat.lt_of_lt_of_le hlt hw5.size
  clear hw5 g1 g2 g3 g4 g5 g6 g7 r1 r2 r3
  obtain ⟨⟨g1, g2, g3, g4, g5, g6, g7⟩, r1, r2, r3⟩ := (show _ ∧ _ from hT)
  simp only [Nat.zero_add] at g1 g2 g3 g4 g5 g6 g7
  rcases k4 : fullB t.s with _ | _
  · have i4 : (powC t.s.base t.s.digits.length == 0) = true := by rw [z2.out]; unfold fullB at k4; rw [k4]; rfl
    have K3 := Lib.hid k3; clear k3
    have K4 := Lib.hid k4; clear k4
    go_wp2
    go_ret
    exact ⟨ret_bool (by rw [HV.out, K3.out, K4.out]; rfl), hbw⟩
  have i4 : (powC t.s.base t.s.digits.length == 0) = false := by rw [z2.out]; unfold fullB at k4; rw [k4]; rfl
  have HV := Lib.hid (show vmach t = (decide (t.a.digits.length ≤ t.b.digits.length) && betB t.carry 0 (vplaces t - 1)) by rw [HV.out, k3, k4]; simp)
  clear k3 k4
  have hvp : vplaces t ≤ 16 ∧ -16 ≤ vplaces t := by unfold vplaces; omega
  go_wp2_with fail
  have x1 := cell_regrown g1
  have x2 := cell_regrown g2
  have x3 := cell_regrown g3
  have x4 := cell_regrown g4
  have x5 := cell_regrown g5
  have x6 := cell_regrown g6
  have x7 := cell_regrown g7
  have KP := Lib.hid (fun (W : World) (hW : Below w5.heap.size w5 W) => places_any t A1 A2 A3 c1 c2 c3 W (r1.below hW) (r2.below hW) (r3.below hW) p3 p6 p9)
  by_cases k5 : t.a.digits.length ≤ t.b.digits.length
  · have i5 : (t.a.digits.length : Int) ≤ (t.b.digits.length : Int) := by omega
    have K5 := Lib.hid k5; clear k5
    refine wp_region_quiet_below (by kernel_rfl) (by kernel_rfl) ?_
    repeat (go_big_quiet_step ((first | (go_at_call 44; exact quietB (fun W _ => width_any _ _ _ _ W)) | (go_at_call 46; exact quietB KP.out) | (go_at_call 45; exact quietB (fun W _ => between_B _ _ _ W)))))
    refine wpQuiet_nil ?_
    intro W1 hw'
    have hB1 : Below w5.heap.size w5 W1 := by
      obtain ⟨⟨dq, osq⟩, hw''⟩ := hw'
      rw [hw'']; exact below_regrown _ _ _
    clear hw'
    go_wp2
    go_ret
    exact ⟨ret_bool (by rw [HV.out, decide_eq_true K5.out]; rfl), hbw.trans (hB1.mono hbw.size)⟩
  · have i5 : ¬ (t.a.digits.length : Int) ≤ (t.b.digits.length : Int) := by omega
    have K5 := Lib.hid k5; clear k5
    refine wp_region_quiet_below (by kernel_rfl) (by kernel_rfl) ?_
    repeat (go_big_quiet_step ((first | (go_at_call 44; exact quietB (fun W _ => width_any _ _ _ _ W)) | (go_at_call 46; exact quietB KP.out) | (go_at_call 45; exact quietB (fun W _ => between_B _ _ _ W)))))
    refine wpQuiet_nil ?_
    intro W1 hw'
    have hB1 : Below w5.heap.size w5 W1 := by
      obtain ⟨⟨dq, osq⟩, hw''⟩ := hw'
      rw [hw'']; exact below_regrown _ _ _
    clear hw'
    go_wp2
    go_ret
    exact ⟨ret_bool (by rw [HV.out, decide_eq_false K5.out]; rfl), hbw.trans (hB1.mono hbw.size)⟩
end Go.Proofs.YtmmiahgmdllgdaaDoor

namespace Go.Proofs.YtmmiahgmdllgdaaDoor
open Go.RowKit Go.Sort
theorem l10Places_any (p : Addr) (t : Tri) (w : World) (hT : TriM w p t) (h1 : t.a.digits.length ≤ 16) (h2 : t.b.digits.length ≤ 16) (_h3 : t.s.digits.length ≤ 16) :
    Calls Tryd.prog 39 #[.pointer (some p)] w fun e w' => e = .returned (.int .i64 (vplaces t)) ∧ ∃ m, w' = w.drewN m := by
  obtain ⟨A1, c1, A2, c2, A3, c3, ⟨g1, g2, g3, g4, g5, g6, g7⟩, r1, r2, r3⟩ := hT.cells
  go_enter Tryd.func39, Tryd.ntmps39
  go_wp2_with fail
  go_quiet ((go_at_call 66; exact quiet_left (l00Min_any _ _ _)))
  go_wp2
  go_ret
  exact ⟨ret_int (by unfold vplaces; omega), _, rfl⟩
set_option maxRecDepth 100000 in
set_option maxHeartbeats 1600000 in
theorem l10Ok_any (p : Addr) (t : Tri) (w : World) (hT : TriM w p t) (hs : SmallTri t) :
    Calls Tryd.prog 30 #[.pointer (some p)] w fun e w' => e = .returned (.bool (vmach t)) ∧ ∃ m, w' = w.drewN m := by
  have HV := Lib.hid (show vmach t = (((t.a.ok && t.b.ok && t.s.ok) && ((t.a.base == t.b.base) && (t.s.base == t.b.base) && fullB t.b && fullB t.s)) && (decide (t.a.digits.length ≤ t.b.digits.length) && betB t.carry 0 (vplaces t - 1))) from rfl)
  have K1 := Lib.hid (fun (m : Nat) => l02Ok_reg p t.a (w.drewN m) hT.1 hs.1)
  have K2 := Lib.hid (fun (m : Nat) => l02Ok_reg ⟨p.block, p.off + 2, none⟩ t.b (w.drewN m) hT.2.1 hs.2.1)
  have K3 := Lib.hid (fun (m : Nat) => l02Ok_reg ⟨p.block, p.off + 4, none⟩ t.s (w.drewN m) hT.2.2.1 hs.2.2)
  have KP := Lib.hid (fun (m : Nat) => l10Places_any p t (w.drewN m) hT)
  obtain ⟨A1, c1, A2, c2, A3, c3, ⟨g1, g2, g3, g4, g5, g6, g7⟩, r1, r2, r3⟩ := hT.cells
  clear r1 r2 r3 hT
  go_enter Tryd.func30, Tryd.ntmps30
  rcases k1 : t.a.ok with _ | _
  · have HF : Hid (vmach t = false) := by simp only [Hid]; rw [HV.out, k1]; rfl
    have H1 := Lib.hid k1; clear k1
    try (have H2 := Lib.hid k2; clear k2)
    try (have H3 := Lib.hid k3; clear k3)
    go_wp2_with fail
    go_quiet ((go_at_call 57; first | (with_reducible exact quiet_of_ex (K1.out _ _ H1.out)) | (with_reducible exact quiet_of_ex (K2.out _ _ H2.out)) | (with_reducible exact quiet_of_ex (K3.out _ _ H3.out)) | (with_reducible exact quiet_add_ex (K1.out _ _ H1.out)) | (with_reducible exact quiet_add_ex (K2.out _ _ H2.out)) | (with_reducible exact quiet_add_ex (K3.out _ _ H3.out))))
    go_wp2
    go_ret
    exact ⟨ret_bool HF.out.symm, by first | exact ⟨_, rfl⟩ | exact ⟨_, World.drewN_drewN _ _ _⟩⟩
  rcases k2 : t.b.ok with _ | _
  · have HF : Hid (vmach t = false) := by simp only [Hid]; rw [HV.out, k1, k2]; rfl
    have H1 := Lib.hid k1; clear k1
    try (have H2 := Lib.hid k2; clear k2)
    try (have H3 := Lib.hid k3; clear k3)
    go_wp2_with fail
    go_quiet ((go_at_call 57; first | (with_reducible exact quiet_of_ex (K1.out _ _ H1.out)) | (with_reducible exact quiet_of_ex (K2.out _ _ H2.out)) | (with_reducible exact quiet_of_ex (K3.out _ _ H3.out)) | (with_reducible exact quiet_add_ex (K1.out _ _ H1.out)) | (with_reducible exact quiet_add_ex (K2.out _ _ H2.out)) | (with_reducible exact quiet_add_ex (K3.out _ _ H3.out))))
    go_wp2
    go_ret
    exact ⟨ret_bool HF.out.symm, by first | exact ⟨_, rfl⟩ | exact ⟨_, World.drewN_drewN _ _ _⟩⟩
  rcases k3 : t.s.ok with _ | _
  · have HF : Hid (vmach t = false) := by simp only [Hid]; rw [HV.out, k1, k2, k3]; rfl
    have H1 := Lib.hid k1; clear k1
    try (have H2 := Lib.hid k2; clear k2)
    try (have H3 := Lib.hid k3; clear k3)
    go_wp2_with fail
    go_quiet ((go_at_call 57; first | (with_reducible exact quiet_of_ex (K1.out _ _ H1.out)) | (with_reducible exact quiet_of_ex (K2.out _ _ H2.out)) | (with_reducible exact quiet_of_ex (K3.out _ _ H3.out)) | (with_reducible exact quiet_add_ex (K1.out _ _ H1.out)) | (with_reducible exact quiet_add_ex (K2.out _ _ H2.out)) | (with_reducible exact quiet_add_ex (K3.out _ _ H3.out))))
    go_wp2
    go_ret
    exact ⟨ret_bool HF.out.symm, by first | exact ⟨_, rfl⟩ | exact ⟨_, World.drewN_drewN _ _ _⟩⟩
  rcases k4 : (t.a.base == t.b.base) with _ | _
  · have HF : Hid (vmach t = false) := by simp only [Hid]; rw [HV.out, k1, k2, k3, k4]; rfl
    have i4 : (t.a.base != t.b.base) = true := by simp [bne, k4]
    clear k4
    have H1 := Lib.hid k1; clear k1
    try (have H2 := Lib.hid k2; clear k2)
    try (have H3 := Lib.hid k3; clear k3)
    go_wp2_with fail
    go_quiet ((go_at_call 57; first | (with_reducible exact quiet_of_ex (K1.out _ _ H1.out)) | (with_reducible exact quiet_of_ex (K2.out _ _ H2.out)) | (with_reducible exact quiet_of_ex (K3.out _ _ H3.out)) | (with_reducible exact quiet_add_ex (K1.out _ _ H1.out)) | (with_reducible exact quiet_add_ex (K2.out _ _ H2.out)) | (with_reducible exact quiet_add_ex (K3.out _ _ H3.out))))
    go_wp2
    go_ret
    exact ⟨ret_bool HF.out.symm, by first | exact ⟨_, rfl⟩ | exact ⟨_, World.drewN_drewN _ _ _⟩⟩
  rcases k5 : (t.s.base == t.b.base) with _ | _
  · have HF : Hid (vmach t = false) := by simp only [Hid]; rw [HV.out, k1, k2, k3, k4, k5]; rfl
    have e4 := eq_of_beq k4
    have i4 : (t.a.base != t.b.base) = false := by simp [bne, k4]
    have i5 : (t.a.base != t.s.base) = true := by
      rw [e4, bne_iff_ne]; intro h; rw [h] at k5; simp at k5
    have i6 : (t.b.base != t.s.base) = true := by rw [← e4]; exact i5
    clear k4 k5 e4
    have H1 := Lib.hid k1; clear k1
    try (have H2 := Lib.hid k2; clear k2)
    try (have H3 := Lib.hid k3; clear k3)
    go_wp2_with fail
    go_quiet ((go_at_call 57; first | (with_reducible exact quiet_of_ex (K1.out _ _ H1.out)) | (with_reducible exact quiet_of_ex (K2.out _ _ H2.out)) | (with_reducible exact quiet_of_ex (K3.out _ _ H3.out)) | (with_reducible exact quiet_add_ex (K1.out _ _ H1.out)) | (with_reducible exact quiet_add_ex (K2.out _ _ H2.out)) | (with_reducible exact quiet_add_ex (K3.out _ _ H3.out))))
    go_wp2
    go_ret
    exact ⟨ret_bool HF.out.symm, by first | exact ⟨_, rfl⟩ | exact ⟨_, World.drewN_drewN _ _ _⟩⟩
  have e4 := eq_of_beq k4
  have e5 := eq_of_beq k5
  have i4 : (t.a.base != t.b.base) = false := by simp [bne, k4]
  have i5 : (t.a.base != t.s.base) = false := by simp [e4, e5]
  obtain ⟨p1, p2, p3⟩ := ok_bd k1
  obtain ⟨p4, p5, p6⟩ := ok_bd k2
  obtain ⟨p7, p8, p9⟩ := ok_bd k3
  have HV := Lib.hid (show vmach t = ((fullB t.b && fullB t.s) && (decide (t.a.digits.length ≤ t.b.digits.length) && betB t.carry 0 (vplaces t - 1))) by rw [HV.out, k1, k2, k3, k4, k5]; simp)
  have H1 := Lib.hid k1; have H2 := Lib.hid k2; have H3 := Lib.hid k3
  have F1 := Lib.hid (fun (v : Bool) (hv : fullB t.b = v) W => calls_val (l10Full_any t.a.base t.b.digits.length W p1 p2 (by omega)) (congrArg Value.bool (show _ = v by rw [← hv]; unfold fullB; rw [e4])))
  have F2 := Lib.hid (fun (v : Bool) (hv : fullB t.s = v) W => calls_val (l10Full_any t.a.base t.s.digits.length W p1 p2 (by omega)) (congrArg Value.bool (show _ = v by rw [← hv]; unfold fullB; rw [e4, ← e5])))
  have hvp : vplaces t ≤ 16 ∧ -16 ≤ vplaces t := by unfold vplaces; omega
  clear k1 k2 k3 k4 k5 e4 e5
  go_wp2_with fail
  go_quiet ((go_at_call 57; first | (with_reducible exact quiet_of_ex (K1.out _ _ H1.out)) | (with_reducible exact quiet_of_ex (K2.out _ _ H2.out)) | (with_reducible exact quiet_of_ex (K3.out _ _ H3.out)) | (with_reducible exact quiet_add_ex (K1.out _ _ H1.out)) | (with_reducible exact quiet_add_ex (K2.out _ _ H2.out)) | (with_reducible exact quiet_add_ex (K3.out _ _ H3.out))))
  rcases f1 : fullB t.b with _ | _
  · have FF1 := Lib.hid f1; clear f1
    go_wp2_with (go_at_call 58; refine (F1.out _ FF1.out _).mono ?_; rintro e w' ⟨rfl, rfl⟩)
    go_ret
    exact ⟨ret_bool (by rw [HV.out, FF1.out]; rfl), _, rfl⟩
  rcases f2 : fullB t.s with _ | _
  · have FF1 := Lib.hid f1; have FF2 := Lib.hid f2; clear f1 f2
    go_wp2_with (go_at_call 58; first | (with_reducible refine (F1.out _ FF1.out _).mono ?_; rintro e w' ⟨rfl, rfl⟩) | (with_reducible refine (F2.out _ FF2.out _).mono ?_; rintro e w' ⟨rfl, rfl⟩))
    go_ret
    exact ⟨ret_bool (by rw [HV.out, FF1.out, FF2.out]; rfl), _, rfl⟩
  have HV := Lib.hid (show vmach t = (decide (t.a.digits.length ≤ t.b.digits.length) && betB t.carry 0 (vplaces t - 1)) by rw [HV.out, f1, f2]; simp)
  have FF1 := Lib.hid f1; have FF2 := Lib.hid f2; clear f1 f2
  by_cases k6 : t.a.digits.length ≤ t.b.digits.length
  · have i6 : (t.a.digits.length : Int) ≤ (t.b.digits.length : Int) := by omega
    have K6 := Lib.hid k6; clear k6
    go_wp2_with (go_at_call 58; first | (with_reducible refine (F1.out _ FF1.out _).mono ?_; rintro e w' ⟨rfl, rfl⟩) | (with_reducible refine (F2.out _ FF2.out _).mono ?_; rintro e w' ⟨rfl, rfl⟩))
    go_quiet ((first | (go_at_call 39; first | (with_reducible exact quiet_of_ex (KP.out _ p3 p6 p9)) | (with_reducible exact quiet_add_ex (KP.out _ p3 p6 p9)) | exact Calls.quiet_of (l10Places_any _ _ _ (by assumption) p3 p6 p9)) | (go_at_call 59; first | exact quiet_left (l00In_any _ _ _ _) | exact quiet_add_left (l00In_any _ _ _ _))))
    go_wp2
    go_ret
    exact ⟨ret_bool (by rw [HV.out, decide_eq_true K6.out]; rfl), by first | exact ⟨_, rfl⟩ | exact ⟨_, World.drewN_drewN _ _ _⟩⟩
  · have i6 : decide ((t.a.digits.length : Int) ≤ (t.b.digits.length : Int)) = false := decide_eq_false (by omega)
    have i7 : decide (t.a.digits.length ≤ t.b.digits.length) = false := decide_eq_false (by omega)
    have K6 := Lib.hid k6; clear k6
    go_wp2_with (go_at_call 58; first | (with_reducible refine (F1.out _ FF1.out _).mono ?_; rintro e w' ⟨rfl, rfl⟩) | (with_reducible refine (F2.out _ FF2.out _).mono ?_; rintro e w' ⟨rfl, rfl⟩))
    go_quiet ((first | (go_at_call 39; first | (with_reducible exact quiet_of_ex (KP.out _ p3 p6 p9)) | (with_reducible exact quiet_add_ex (KP.out _ p3 p6 p9)) | exact Calls.quiet_of (l10Places_any _ _ _ (by assumption) p3 p6 p9)) | (go_at_call 59; first | exact quiet_left (l00In_any _ _ _ _) | exact quiet_add_left (l00In_any _ _ _ _))))
    go_wp2
    go_ret
    exact ⟨ret_bool (by rw [HV.out, decide_eq_false K6.out]; rfl), by first | exact ⟨_, rfl⟩ | exact ⟨_, World.drewN_drewN _ _ _⟩⟩
end Go.Proofs.YtmmiahgmdllgdaaDoor

namespace Go.Proofs.YtmmiahgmdllgdaaDoor
open Go.RowKit
end Go.Proofs.YtmmiahgmdllgdaaDoor

namespace Go.Proofs.YtmmiahgmdllgdaaDoor
open Go.RowKit Go.Sort
def mtextL (t : Tri) : ByteArray := (((((((⟨(rtext t.a).toArray⟩ : ByteArray) ++ (⟨#[32]⟩ : ByteArray)) ++ (⟨(rtext t.b).toArray⟩ : ByteArray)) ++ (⟨#[32]⟩ : ByteArray)) ++ (⟨(rtext t.s).toArray⟩ : ByteArray)) ++ (⟨#[32]⟩ : ByteArray)) ++ (⟨(dec t.carry).toArray⟩ : ByteArray))
def mtext (t : Tri) : ByteArray := if vmach t then mtextL t else ⟨#[]⟩
theorem vmach_parts {t : Tri} (h : vmach t = true) : t.a.ok = true ∧ t.b.ok = true ∧ t.s.ok = true ∧ 0 ≤ t.carry ∧ t.carry ≤ 16 := by
  simp only [vmach, Bool.and_eq_true] at h
  obtain ⟨⟨⟨⟨h1, h2⟩, h3⟩, -⟩, -, h4⟩ := h
  obtain ⟨h5, h6⟩ := betB_iff.1 h4
  obtain ⟨-, -, p1⟩ := ok_bd h3
  exact ⟨h1, h2, h3, h5, by unfold vplaces at h6; omega⟩
end Go.Proofs.YtmmiahgmdllgdaaDoor

namespace Go.Proofs.YtmmiahgmdllgdaaDoor
open Go.RowKit Go.Sort
theorem digs_zero : digs 0 = [] := by simp [digs]
theorem digs_facts : ∀ u : Nat, (digs u).all isD = true ∧ foldD (digs u) = u ∧ (∀ k, u < 10 ^ k → (digs u).length ≤ k) ∧ (u ≠ 0 → 1 ≤ (digs u).length) := by
  intro u
  induction u using Nat.strongRecOn with
  | _ u ih =>
    by_cases h : u = 0
    · subst h; rw [digs_zero]; exact ⟨rfl, rfl, fun _ _ => by simp, fun h => absurd rfl h⟩
    · obtain ⟨h1, h2, h3, -⟩ := ih (u / 10) (by omega)
      have hb : (UInt8.ofNat (48 + u % 10)).toNat = 48 + u % 10 := by rw [UInt8.toNat_ofNat']; omega
      rw [digs_step u h]
      refine ⟨?_, ?_, fun k hk => ?_, fun _ => by simp⟩
      · rw [List.all_append, h1]
        simp only [List.all_cons, List.all_nil, Bool.and_true, Bool.true_and]
        unfold isD; rw [hb]; exact decide_eq_true (by omega)
      · rw [foldD_snoc, h2, hb]; omega
      · cases k with
        | zero => simp at hk; omega
        | succ k =>
          have := h3 k (by rw [Nat.pow_succ] at hk; omega)
          simp; omega
theorem signOff_digs {l : List UInt8} (h : l.all isD = true) : signOff l = l := by
  cases l with
  | nil => rfl
  | cons b t =>
    rw [List.all_cons, Bool.and_eq_true] at h
    have h1 := of_decide_eq_true (show decide (48 ≤ b.toNat ∧ b.toNat ≤ 57) = true from h.1)
    simp only [signOff]; rw [if_neg (by omega)]
/-- a number is read back from its decimal form -/
theorem rdDec_dec (n : Int) (h : n.natAbs < 1000000000000000000) : rdDec (dec n) = some n := by
  obtain ⟨d1, d2, d3, d4⟩ := digs_facts n.natAbs
  have hlen := d3 18 h
  by_cases h0 : n = 0
  · subst h0
    have e : dec 0 = [48] := by rw [dec_of]; rfl
    have : numOf [48] = 0 := by decide
    unfold rdDec
    rw [e, this, e]; rfl
  · have d5 := d4 (by omega)
    by_cases hn : n < 0
    · have e : dec n = 45 :: digs n.natAbs := by rw [dec_of, if_neg h0, if_pos hn]
      have hs : signOff (dec n) = digs n.natAbs := by rw [e]; rfl
      have hv : numOf (dec n) = n := by
        unfold numOf; rw [hs, d2, if_pos (by rw [e]; simp)]; omega
      unfold rdDec
      rw [hv, hs, d1]; simp; omega
    · have e : dec n = digs n.natAbs := by rw [dec_of, if_neg h0, if_neg hn]
      have hs : signOff (dec n) = digs n.natAbs := by rw [e]; exact signOff_digs d1
      have hv : numOf (dec n) = n := by
        unfold numOf; rw [hs, d2, if_neg (by rw [e]; omega)]; omega
      unfold rdDec
      rw [hv, hs, d1]; simp; omega
theorem rdDec_sound {bs : List UInt8} {n : Int} (h : rdDec bs = some n) : dec n = bs := by
  unfold rdDec at h
  split at h
  · rename_i h1
    injection h with h
    simp only [Bool.and_eq_true, decide_eq_true_eq] at h1
    rw [← h]; exact h1.2
  · cases h
theorem dec_bytes (n : Int) : ∀ c ∈ dec n, c.toNat = 45 ∨ (48 ≤ c.toNat ∧ c.toNat ≤ 57) := by
  intro c hc
  rw [dec_of] at hc
  have hd : ∀ c ∈ digs n.natAbs, 48 ≤ c.toNat ∧ c.toNat ≤ 57 := fun c hc => of_decide_eq_true (List.all_eq_true.1 (digs_facts n.natAbs).1 c hc)
  split at hc
  · rw [List.mem_singleton.1 hc]; right; decide
  · split at hc
    · rcases List.mem_cons.1 hc with rfl | hc
      · left; rfl
      · right; exact hd c hc
    · right; exact hd c hc
theorem dec_ne (n : Int) : dec n ≠ [] := by
  rw [dec_of]
  split
  · simp
  · split
    · simp
    · intro h
      have := (digs_facts n.natAbs).2.2.2 (by omega)
      rw [h] at this; simp at this
theorem not_mem_dec {k : UInt8} (n : Int) (h : k.toNat ≠ 45) (h2 : k.toNat < 48 ∨ 57 < k.toNat) : k ∉ dec n := fun hm => by
  rcases dec_bytes n k hm with h3 | h3
  · exact h h3
  · omega
theorem dch_nat (d : Int) (h0 : 0 ≤ d) (h1 : d < 16) : (dch d).toNat = if d < 10 then 48 + d.toNat else 87 + d.toNat := by
  unfold dch; split <;> (rw [UInt8.toNat_ofNat']; omega)
theorem digV_dch (d : Int) (h0 : 0 ≤ d) (h1 : d < 16) : digV (dch d) = d := by
  unfold digV
  rw [dch_nat d h0 h1]
  by_cases h : d < 10
  · rw [if_pos h, if_pos (by omega)]; omega
  · rw [if_neg h, if_neg (by omega), if_pos (by omega)]; omega
theorem dch_digV (c : UInt8) (h : 0 ≤ digV c) : dch (digV c) = c := by
  have hlt := c.toNat_lt
  apply UInt8.toNat_inj.1
  unfold digV at h ⊢
  by_cases h1 : 48 ≤ c.toNat ∧ c.toNat ≤ 57
  · rw [if_pos h1, dch_nat _ (by omega) (by omega), if_pos (by omega)]; omega
  · rw [if_neg h1] at h ⊢
    by_cases h2 : 97 ≤ c.toNat ∧ c.toNat ≤ 102
    · rw [if_pos h2, dch_nat _ (by omega) (by omega), if_neg (by omega)]; omega
    · rw [if_neg h2] at h; omega
theorem rdR_text {b : Int} {ds : List Int} (h : vreg b ds = true) : rdR (rtextL b ds) = some ⟨b, ds⟩ := by
  obtain ⟨⟨b1, b2⟩, -, hd, -⟩ := vreg_iff.1 h
  unfold rdR rtextL
  rw [List.append_assoc, List.singleton_append, cutB_of 58 _ _ (not_mem_dec b (by decide) (by right; decide))]
  simp only [Option.bind_some]
  rw [rdDec_dec b (by omega)]
  simp only [Option.bind_some]
  have e : ((ds.reverse.map dch).reverse.map digV) = ds := by
    rw [← List.map_reverse, List.reverse_reverse, List.map_map]
    conv => rhs; rw [← List.map_id ds]
    refine List.map_congr_left fun d hm => ?_
    have := hd d hm
    exact digV_dch d this.1 (by omega)
  rw [e, h]; rfl
theorem rdR_sound {w : List UInt8} {r : Reg} (h : rdR w = some r) : r.ok = true ∧ rtextL r.base r.digits = w := by
  unfold rdR at h
  obtain ⟨⟨x, y⟩, h1, h2⟩ := Option.bind_eq_some_iff.1 h
  obtain ⟨n, h3, h4⟩ := Option.bind_eq_some_iff.1 h2
  split at h4
  · rename_i hv
    injection h4 with h4
    rw [← h4]
    refine ⟨hv, ?_⟩
    obtain ⟨h5, -⟩ := cutB_mem 58 w x y h1
    unfold rtextL
    simp only []
    rw [rdDec_sound h3, h5, List.append_assoc, List.singleton_append]
    congr 2
    rw [← List.map_reverse, List.reverse_reverse, List.map_map]
    conv => rhs; rw [← List.map_id y]
    refine List.map_congr_left fun c hc => ?_
    exact dch_digV c ((vreg_iff.1 hv).2.2.1 _ (List.mem_map.2 ⟨c, by simpa using hc, rfl⟩)).1
  · cases h4
theorem no32 {b : Int} {ds : List Int} (h : vreg b ds = true) : (32 : UInt8) ∉ rtextL b ds := by
  obtain ⟨⟨b1, b2⟩, -, hd, -⟩ := vreg_iff.1 h
  unfold rtextL
  intro hm
  rcases List.mem_append.1 hm with hm | hm
  · rcases List.mem_append.1 hm with hm | hm
    · exact not_mem_dec b (by decide) (by left; decide) hm
    · simp at hm
  · obtain ⟨d, hd1, hd2⟩ := List.mem_map.1 hm
    have h1 := hd d (by simpa using hd1)
    have h2 := dch_nat d h1.1 (by omega)
    rw [hd2] at h2
    have h3 : (32 : UInt8).toNat = 32 := rfl
    rw [h3] at h2
    split at h2 <;> omega
theorem rtextL_ne (b : Int) (ds : List Int) : rtextL b ds ≠ [] := by unfold rtextL; simp
theorem split_cases (k : UInt8) (bs : List UInt8) : (splitB k.toNat bs = [bs] ∧ k ∉ bs) ∨ ∃ x y, bs = x ++ k :: y ∧ k ∉ x ∧ splitB k.toNat bs = x :: splitB k.toNat y := by
  cases h : cutB [k] bs with
  | none => exact .inl ⟨splitB_none k bs (cutB_none k bs h), cutB_none k bs h⟩
  | some q =>
    obtain ⟨x, y⟩ := q
    obtain ⟨h1, h2⟩ := cutB_mem k bs x y h
    exact .inr ⟨x, y, h1, h2, by rw [h1, splitB_at k y x h2]⟩
theorem split_join {bs x : List UInt8} {t : List (List UInt8)} (h : splitB 32 bs = x :: t) : (t = [] ∧ bs = x) ∨ ∃ y, bs = x ++ 32 :: y ∧ splitB 32 y = t := by
  have e32 : (32 : UInt8).toNat = 32 := rfl
  rcases split_cases 32 bs with ⟨h1, -⟩ | ⟨a, y, h1, -, h3⟩
  · rw [e32, h] at h1; injection h1 with h1 h2; exact .inl ⟨h2, h1.symm⟩
  · rw [e32, h] at h3; injection h3 with h3 h4; exact .inr ⟨y, by rw [h3]; exact h1, h4.symm⟩
theorem strB_cat (a b : ByteArray) : strB (a ++ b) = strB a ++ strB b := by simp [strB]
theorem strB_mtextL {t : Tri} (h : vmach t = true) : strB (mtextL t) = rtextL t.a.base t.a.digits ++ 32 :: (rtextL t.b.base t.b.digits ++ 32 :: (rtextL t.s.base t.s.digits ++ 32 :: dec t.carry)) := by
  obtain ⟨h1, h2, h3, -⟩ := vmach_parts h
  unfold mtextL
  simp only [strB_cat, strB_mk]
  unfold rtext
  rw [if_pos h1, if_pos h2, if_pos h3]
  simp
/-- the machine of a text -/
def rdM (bs : List UInt8) : Option Tri := match wordsB bs with
  | [w0, w1, w2, w3] => if ((rdR w0).isSome && (rdR w1).isSome && (rdR w2).isSome && (rdDec w3).isSome) && decide (strB (mtext ⟨rdReg w0, rdReg w1, rdReg w2, rdN w3⟩) = bs) then some ⟨rdReg w0, rdReg w1, rdReg w2, rdN w3⟩ else none
  | _ => none
theorem isSome_R {w : List UInt8} (h : (rdR w).isSome = true) : (rdReg w).ok = true ∧ rtextL (rdReg w).base (rdReg w).digits = w := by
  obtain ⟨r, hr⟩ := Option.isSome_iff_exists.1 h
  rw [(rdr_some hr).1]; exact rdR_sound hr
theorem isSome_N {w : List UInt8} (h : (rdDec w).isSome = true) : dec (rdN w) = w := by
  obtain ⟨r, hr⟩ := Option.isSome_iff_exists.1 h
  rw [(rd_some hr).1]; exact rdDec_sound hr
theorem rdM_text {t : Tri} (h : vmach t = true) : rdM (strB (mtextL t)) = some t ∧ splitB 32 (strB (mtextL t)) = [rtextL t.a.base t.a.digits, rtextL t.b.base t.b.digits, rtextL t.s.base t.s.digits, dec t.carry] := by
  obtain ⟨h1, h2, h3, h4, h5⟩ := vmach_parts h
  have e32 : (32 : UInt8).toNat = 32 := rfl
  have hsp : splitB 32 (strB (mtextL t)) = [rtextL t.a.base t.a.digits, rtextL t.b.base t.b.digits, rtextL t.s.base t.s.digits, dec t.carry] := by
    rw [strB_mtextL h, ← e32, splitB_at 32 _ _ (no32 h1), splitB_at 32 _ _ (no32 h2), splitB_at 32 _ _ (no32 h3), splitB_none 32 _ (not_mem_dec _ (by decide) (by left; decide))]
  have hw : wordsB (strB (mtextL t)) = [rtextL t.a.base t.a.digits, rtextL t.b.base t.b.digits, rtextL t.s.base t.s.digits, dec t.carry] := by
    unfold wordsB
    rw [hsp, List.filter_eq_self]
    intro x hx
    simp only [List.mem_cons, List.not_mem_nil, or_false] at hx
    rcases hx with rfl | rfl | rfl | rfl
    · simpa using rtextL_ne _ _
    · simpa using rtextL_ne _ _
    · simpa using rtextL_ne _ _
    · simpa using dec_ne _
  have q1 := rdr_some (rdR_text h1)
  have q2 := rdr_some (rdR_text h2)
  have q3 := rdr_some (rdR_text h3)
  have q4 := rd_some (rdDec_dec t.carry (by omega))
  refine ⟨?_, hsp⟩
  unfold rdM
  rw [hw]
  simp only []
  rw [q1.1, q1.2, q2.1, q2.2, q3.1, q3.2, q4.1, q4.2]
  have e : (⟨⟨t.a.base, t.a.digits⟩, ⟨t.b.base, t.b.digits⟩, ⟨t.s.base, t.s.digits⟩, t.carry⟩ : Tri) = t := rfl
  have e2 : mtext t = mtextL t := by unfold mtext; rw [if_pos h]
  rw [e, e2]; simp
theorem rdM_sound {bs : List UInt8} {t : Tri} (h : rdM bs = some t) : vmach t = true ∧ strB (mtextL t) = bs := by
  unfold rdM at h
  split at h
  · rename_i w0 w1 w2 w3 hw
    split at h
    · rename_i hc
      injection h with h
      simp only [Bool.and_eq_true, decide_eq_true_eq] at hc
      obtain ⟨-, hm⟩ := hc
      rw [h] at hm
      rcases hv : vmach t with _ | _
      · unfold mtext at hm; rw [hv] at hm
        have : bs = [] := by rw [← hm]; rfl
        subst this
        simp [wordsB, splitB] at hw
      · unfold mtext at hm; rw [hv] at hm; exact ⟨rfl, hm⟩
    · cases h
  · cases h
theorem rdM_spec (bs : List UInt8) : rdM bs = match splitB 32 bs with
    | [w0, w1, w2, w3] => if ((rdR w0).isSome && (rdR w1).isSome && (rdR w2).isSome && (rdDec w3).isSome) && vmach ⟨rdReg w0, rdReg w1, rdReg w2, rdN w3⟩ then some ⟨rdReg w0, rdReg w1, rdReg w2, rdN w3⟩ else none
    | _ => none := by
  cases h : rdM bs with
  | some t =>
    obtain ⟨hv, hm⟩ := rdM_sound h
    obtain ⟨-, hsp⟩ := rdM_text hv
    rw [hm] at hsp
    rw [hsp]
    simp only []
    obtain ⟨h1, h2, h3, h4, h5⟩ := vmach_parts hv
    have q1 := rdr_some (rdR_text h1)
    have q2 := rdr_some (rdR_text h2)
    have q3 := rdr_some (rdR_text h3)
    have q4 := rd_some (rdDec_dec t.carry (by omega))
    rw [q1.1, q1.2, q2.1, q2.2, q3.1, q3.2, q4.1, q4.2]
    have e : (⟨⟨t.a.base, t.a.digits⟩, ⟨t.b.base, t.b.digits⟩, ⟨t.s.base, t.s.digits⟩, t.carry⟩ : Tri) = t := rfl
    rw [e, hv]; simp
  | none =>
    split
    · rename_i w0 w1 w2 w3 hsp
      split
      · rename_i hc
        exfalso
        simp only [Bool.and_eq_true] at hc
        obtain ⟨⟨⟨⟨c0, c1⟩, c2⟩, c3⟩, hv⟩ := hc
        have t0 := (isSome_R c0).2
        have t1 := (isSome_R c1).2
        have t2 := (isSome_R c2).2
        have t3 := isSome_N c3
        rcases split_join hsp with ⟨h1, -⟩ | ⟨y1, e1, hs1⟩
        · cases h1
        rcases split_join hs1 with ⟨h1, -⟩ | ⟨y2, e2, hs2⟩
        · cases h1
        rcases split_join hs2 with ⟨h1, -⟩ | ⟨y3, e3, hs3⟩
        · cases h1
        rcases split_join hs3 with ⟨-, e4⟩ | ⟨y4, e4, hs4⟩
        · have hm := strB_mtextL hv
          simp only [] at hm
          rw [t0, t1, t2, t3] at hm
          have : strB (mtextL ⟨rdReg w0, rdReg w1, rdReg w2, rdN w3⟩) = bs := by rw [hm, e1, e2, e3, e4]
          have h2 := (rdM_text hv).1
          rw [this, h] at h2; cases h2
        · exact splitB_ne 32 y4 hs4
      · rfl
    · rfl
end Go.Proofs.YtmmiahgmdllgdaaDoor

namespace Go.Proofs.YtmmiahgmdllgdaaDoor
open Go.RowKit Go.Sort
def rdMach (bs : List UInt8) : Tri := (rdM bs).getD zTri
theorem rdm_none {bs : List UInt8} (h : rdM bs = none) : rdMach bs = zTri ∧ (rdM bs).isSome = false := by simp [rdMach, h]
theorem rdm_some {bs : List UInt8} {r : Tri} (h : rdM bs = some r) : rdMach bs = r ∧ (rdM bs).isSome = true := by simp [rdMach, h]
theorem rdReg_len (bs : List UInt8) : (rdReg bs).digits.length ≤ 16 := by
  cases h : rdR bs with
  | none => rw [(rdr_none h).1]; simp
  | some r => rw [(rdr_some h).1]; exact (ok_bd (rdR_sound h).1).2.2
theorem words_each (bs : List UInt8) : ∀ x ∈ wordsB bs, x.length ≤ bs.length := fun x hx => splitB_each 32 bs x (List.mem_filter.1 hx).1
theorem Kn.sw6 {w0 w : World} {m : List Ent} {a b c d e f g : Ent} (h : Kn w0 (a :: b :: c :: d :: e :: f :: g :: m) w) : Kn w0 (g :: a :: b :: c :: d :: e :: f :: m) w := h.perm (by
  have := (List.perm_middle (a := g) (l₁ := [a, b, c, d, e, f]) (l₂ := m)); simpa using this)
end Go.Proofs.YtmmiahgmdllgdaaDoor

namespace Go.Proofs.YtmmiahgmdllgdaaDoor
open Go.RowKit Go.Sort
structure Ins where
  op : Int
  arg : Int
deriving DecidableEq
def InsM (w : World) (p : Addr) (x : Ins) : Prop := w.cell? p = some (.int .i64 x.op) ∧ w.cell? ⟨p.block, p.off + 1, none⟩ = some (.int .i64 x.arg)
theorem steady_InsM : Steady InsM := by
  rintro w w' p f hp hb ⟨h1, h2⟩
  exact ⟨by rw [hb.cell hp]; exact h1, by rw [hb.cell (by exact hp)]; exact h2⟩
def instrOk (op arg : Int) : Bool := if op = 1 then betB arg 0 1000000000000 else if op = 2 ∨ op = 3 ∨ op = 4 ∨ op = 5 ∨ op = 8 then betB arg 1 100 else if op = 6 ∨ op = 7 ∨ op = 9 ∨ op = 10 then arg == 0 else false
def opens (op : Int) : Bool := op == 8 || op == 9
/-- how many loops are open behind an instruction; none where it does not fit -/
def depthStep (op d : Int) : Option Int := if op = 10 then (if d = 0 then none else some (d - 1)) else if opens op then (if d = 4 then none else some (d + 1)) else some d
def stepI (d : Option Int) (x : Ins) : Option Int := d.bind fun d => if instrOk x.op x.arg then depthStep x.op d else none
def progD (xs : List Ins) : Option Int := xs.foldl stepI (some 0)
def vprog (xs : List Ins) : Bool := decide (progD xs = some 0) && decide (xs.length ≤ 120)
theorem progD_succ {xs : List Ins} {k : Nat} (h : k < xs.length) : progD (xs.take (k + 1)) = stepI (progD (xs.take k)) xs[k] := by
  unfold progD; rw [List.take_succ_eq_append_getElem h, List.foldl_append]; rfl
theorem stepI_none (xs : List Ins) : xs.foldl stepI none = none := by
  induction xs with
  | nil => rfl
  | cons x xs ih => exact ih
theorem progD_none {xs : List Ins} {k : Nat} (h : progD (xs.take k) = none) : progD xs = none := by
  unfold progD at *
  rw [← List.take_append_drop k xs, List.foldl_append, h, stepI_none]
theorem depthStep_bd {op d e : Int} (h : depthStep op d = some e) (h0 : 0 ≤ d) (h4 : d ≤ 4) : 0 ≤ e ∧ e ≤ 4 := by
  unfold depthStep at h
  split at h
  · split at h
    · cases h
    · injection h with h; omega
  · split at h
    · split at h
      · cases h
      · injection h with h; omega
    · injection h with h; omega
theorem op_cases (op : Int) : op = 1 ∨ op = 2 ∨ op = 3 ∨ op = 4 ∨ op = 5 ∨ op = 6 ∨ op = 7 ∨ op = 8 ∨ op = 9 ∨ op = 10 ∨ (op < 1 ∨ 10 < op) := by omega
theorem op_else {op : Int} (h : op < 1 ∨ 10 < op) : (op == 1) = false ∧ (op == 2) = false ∧ (op == 3) = false ∧ (op == 4) = false ∧ (op == 5) = false ∧ (op == 6) = false ∧ (op == 7) = false ∧ (op == 8) = false ∧ (op == 9) = false ∧ (op == 10) = false := by
  simp only [beq_eq_false_iff_ne]; omega
theorem instrOk_else {op arg : Int} (h : op < 1 ∨ 10 < op) : instrOk op arg = false := by
  unfold instrOk; rw [if_neg (by omega), if_neg (by omega), if_neg (by omega)]
theorem betB_0 (arg : Int) : betB arg 0 0 = (arg == 0) := by rw [Bool.eq_iff_iff, betB_iff, beq_iff_eq]; omega
end Go.Proofs.YtmmiahgmdllgdaaDoor

namespace Go.Proofs.YtmmiahgmdllgdaaDoor
open Go.RowKit Go.Sort
end Go.Proofs.YtmmiahgmdllgdaaDoor

namespace Go.Proofs.YtmmiahgmdllgdaaDoor
open Go.RowKit Go.Sort
/-- what is left of v when k digits are taken -/
def restD (b : Int) : Nat → Int → Int
  | 0, v => v
  | k + 1, v => (restD b k v).tdiv b
/-- the k lowest digits of v -/
def digD (b : Int) : Nat → Int → List Int
  | 0, _ => []
  | k + 1, v => digD b k v ++ [(restD b k v).tmod b]
theorem digD_len (b : Int) (k : Nat) (v : Int) : (digD b k v).length = k := by
  induction k with
  | zero => rfl
  | succ k ih => simp [digD, ih]
theorem restD_bd (b : Int) (hb : 2 ≤ b) (k : Nat) (v : Int) (h0 : 0 ≤ v) (_h1 : v ≤ 9223372036854775807) : 0 ≤ restD b k v ∧ restD b k v ≤ v := by
  induction k with
  | zero => exact ⟨h0, Int.le_refl _⟩
  | succ k ih =>
    simp only [restD]
    rw [Int.tdiv_eq_ediv_of_nonneg ih.1]
    have := Int.ediv_le_self b ih.1
    exact ⟨Int.ediv_nonneg ih.1 (by omega), by omega⟩
section
variable {ops : Array Oper} {rest : List Oper} {o : Oper} {a : Act} {Q : Exit → Act → World → Prop} {w0 w : World} {m : List Ent}
/-- append(s, x..), x a row that is only read -/
theorem kn_appC {t e : TypeId} {z : Value} {size bytes : Nat} (T : TP t e z size bytes) (hgd : o.guard = none) (s x : Operand) (ho : o.op = .call { callee := .builtin .append, args := #[s, x], argTypes := #[t, t] })
    (v : Value) (n : Nat) (xs : List Value) (hs : a.eval s = v) {ad : Addr} {c k : Nat} {l : List Value} (hx : a.eval x = .slice (some ad) k c) (hc : ∀ j u, l[j]? = some u → w.cell? (ad.add j) = some u)
    (hK : Kn w0 (.row v e size n xs :: m) w) (hl : l.length = k * size) (h1 : ∀ u ∈ l, u.oneCell' = true)
    (h63 : n + k ≤ 1000000000000000) (hb : (n + k) * bytes ≤ 140737488355328)
    (h : ∀ v' w', Kn w0 (.row v' e size (n + k) (xs ++ l) :: m) w' → wpList Tryd.prog ops Q rest (a.put o.dst v') w') : wpList Tryd.prog ops Q (o :: rest) a w :=
  appG T hgd s x ho 0 v n xs hs hK.at0 ad k c l hx hl hc h1 h63 hb (Nat.zero_le _) (fun v' w' ho' hg hv => h v' w' (hK.grow hg ho' hv))
end
set_option maxRecDepth 100000 in
theorem copyNumbers_any (A : Option Addr) (n c : Nat) (ds : List Int) (w : World) (hr : RI w A n ds) (h0 : 0 < n) (hm : n ≤ 1000000) :
    Calls Tryd.prog 72 #[.slice A n c] w fun e w' => ∃ A' c', e = .returned (.slice A' n c') ∧ Kn w [rowI A' c' ds] w' := by
  obtain ⟨hl, hc⟩ := hr
  obtain ⟨ad, rfl, hlt, hcell⟩ := hc h0
  have hcell := Lib.hid hcell
  subst hl
  go_enter Tryd.func72, Tryd.ntmps72
  go_wp2_with (first
    | (refine wpList.kn ((Kn.nil w).al [] 2) ?_; intro w1 hK1)
    | (at_builtin; refine kn_appC tpI rfl _ _ rfl _ 0 [] rfl (l := ds.map (Value.int .i64)) rfl (fun j u hu => by
        rw [List.getElem?_map] at hu
        obtain ⟨x, hx, rfl⟩ := Option.map_eq_some_iff.1 hu
        rw [hK1.below.cell (by rw [block_of_add]; exact hlt)]
        exact hcell.out j x hx) (hK1.litRow (size := 1) (n := 0) rfl (by decide)) (by simp) (by simp [Value.oneCell']) (by omega) (by omega) ?_; intro v2 w2 hK2; rw [Nat.zero_add] at hK2; obtain ⟨A2, c2, rfl⟩ := row_form hK2.at0))
  go_ret
  rw [List.nil_append] at hK2
  exact ⟨A2, c2, rfl, hK2⟩
set_option maxRecDepth 100000 in
theorem l00Own_any (A : Option Addr) (n c : Nat) (ds : List Int) (w : World) (hr : RI w A n ds) (h0 : 0 < n) (hm : n ≤ 1000000) :
    Calls Tryd.prog 81 #[.slice A n c] w fun e w' => ∃ A' c', e = .returned (.slice A' n c') ∧ Kn w [rowI A' c' ds] w' := by
  obtain ⟨hl, hc⟩ := hr
  obtain ⟨ad, rfl, hlt, hcell⟩ := hc h0
  have hcell := Lib.hid hcell
  subst hl
  go_enter Tryd.func81, Tryd.ntmps81
  go_wp2_with (first
    | (refine wpList.kn ((Kn.nil w).al [] 2) ?_; intro w1 hK1)
    | (at_builtin; refine kn_appC tpI rfl _ _ rfl _ 0 [] rfl (l := ds.map (Value.int .i64)) rfl (fun j u hu => by
        rw [List.getElem?_map] at hu
        obtain ⟨x, hx, rfl⟩ := Option.map_eq_some_iff.1 hu
        rw [hK1.below.cell (by rw [block_of_add]; exact hlt)]
        exact hcell.out j x hx) (hK1.litRow (size := 1) (n := 0) rfl (by decide)) (by simp) (by simp [Value.oneCell']) (by omega) (by omega) ?_; intro v2 w2 hK2; rw [Nat.zero_add] at hK2; obtain ⟨A2, c2, rfl⟩ := row_form hK2.at0))
  go_ret
  rw [List.nil_append] at hK2
  exact ⟨A2, c2, rfl, hK2⟩
end Go.Proofs.YtmmiahgmdllgdaaDoor

namespace Go.Proofs.YtmmiahgmdllgdaaDoor
open Go.RowKit Go.Sort
theorem restD_step (b : Int) (hb : 2 ≤ b) (hb2 : b ≤ 16) (k : Nat) (v : Int) (h0 : 0 ≤ v) (h1 : v ≤ 9223372036854775807) : 0 ≤ (restD b k v).tmod b ∧ (restD b k v).tmod b < b := by
  have := restD_bd b hb k v h0 h1
  have h2 := Int.tmod_nonneg b this.1
  have h3 : (restD b k v).tmod b < b := by rw [Int.tmod_eq_emod_of_nonneg this.1]; exact Int.emod_lt_of_pos _ (by omega)
  omega
set_option maxRecDepth 100000 in
set_option maxHeartbeats 1600000 in
theorem registerOf_any (b : Int) (k : Nat) (v : Int) (w : World) (hb : 2 ≤ b) (hb2 : b ≤ 16) (hk : k ≤ 1000000) (h0 : 0 ≤ v) (h1 : v ≤ 9223372036854775807) :
    Calls Tryd.prog 73 #[.int .i64 b, .int .i64 k, .int .i64 v] w fun e w' => ∃ A c, e = .returned (.tuple #[.agg #[.int .i64 b, .slice A (digD b k v).length c], .bool (restD b k v == 0)]) ∧ Kn w [rowI A c (digD b k v)] w' := by
  have HBD := Lib.hid (fun i => restD_bd b hb i v h0 h1)
  have HST := Lib.hid (fun i => restD_step b hb hb2 i v h0 h1)
  have nz1 : b ≠ 0 := by omega
  have nz2 : (b == 0) = false := by simp; omega
  have nz3 : ¬ b = 0 := by omega
  go_enter Tryd.func73, Tryd.ntmps73
  go_wp2_with (first | (refine wpList.kn ((Kn.nil w).al [.int .i64 0, .slice none 0 0] 26) ?_; intro w1 hK1) | (refine wpList.kn (hK1.al [.int .i64 0, .slice none 0 0] 26) ?_; intro w2 hK2; obtain ⟨a1, a2, a3, -⟩ := hK2.cells))
  have hK4 := ((hK2.st 0 (.int .i64 b)).st 1 (.slice none 0 0)).nilRow 2 1
  clear a1 a2 a3 hK1 hK2
  go_loopw [12, 2] (fun ii vv wr => ∃ (i : Nat) (x : Value), i ≤ k ∧ ii = .int .i64 i ∧ vv = .int .i64 (restD b i v) ∧
    Kn w [.row x 2 1 (digD b i v).length ((digD b i v).map (Value.int .i64)), .blk w1.heap.size [.int .i64 b, x] 26, .blk w.heap.size [.int .i64 0, .slice none 0 0] 26] wr) (fun i _ _ => k - (intOf i).toNat)
  case atStart => exact ⟨0, .slice none 0 0, Nat.zero_le _, rfl, rfl, hK4⟩
  case round =>
    obtain ⟨i, x, hi, rfl, rfl, hK⟩ := hrel
    clear hK4
    have hdl := digD_len b i v
    have HS := Lib.hid (show digD b (i + 1) v = digD b i v ++ [(restD b i v).tmod b] from rfl)
    have HR := Lib.hid (show restD b (i + 1) v = (restD b i v).tdiv b from rfl)
    have hbd := HBD.out i
    have hst := HST.out i
    have HLN := Lib.hid (digD_len b k v)
    obtain ⟨ds, hds⟩ : ∃ ds, digD b i v = ds := ⟨_, rfl⟩
    have HDS := Lib.hid hds
    rw [hds] at hK HS hdl
    obtain ⟨z, hz⟩ : ∃ z, restD b i v = z := ⟨_, rfl⟩
    rw [hz] at HS hbd hst HR ⊢
    have HZ := Lib.hid hz
    have HZ1 : Hid (-9223372036854775808 ≤ z.tmod b ∧ z.tmod b ≤ 9223372036854775807) := by simp only [Hid]; omega
    have hdm : ds.length ≤ 1000000 := by omega
    have HDL := Lib.hid hdl
    clear hds hz hdl
    obtain ⟨a1, a2, a3, d1, d2, d3, -⟩ := hK.cells
    by_cases hik : i < k
    · have hi1 : (i : Int) < (k : Int) := by omega
      go_wp2_with fail
      go_region_law (refine kn_stepI rfl _ _ rfl _ ds rfl rfl ((hK.al [.int .i64 (z.tmod b)] 2).drew) (by omega) ?_; intro v5 w6 hK9; obtain ⟨A5, c5, rfl⟩ := row_form hK9.at0; rw [show (ds ++ [z.tmod b]).length = ds.length + 1 by simp] at hK9; clear a1 a2 a3 d1 d2 d3; obtain ⟨a1, a2, a3, d1, d2, d3, -⟩ := hK9.cells)
      all_goals
        go_wp2_with fail
        go_roundw
        case rel => exact ⟨i + 1, _, by omega, by go_num, by rw [HR.out, Int.tdiv_eq_ediv_of_nonneg hbd.1], by rw [HS.out, show (ds ++ [z.tmod b]).length = ds.length + 1 by simp]; exact (hK9.sw1.st 1 _).sw1⟩
        case measure => simp [intOf]; omega
    · have hi1 : ¬ (i : Int) < (k : Int) := by omega
      obtain rfl : i = k := by omega
      obtain ⟨A, c, rfl⟩ := row_form hK.at0
      go_wp2_with fail
      refine bodyPost_ret (v := .tuple #[.agg #[.int .i64 b, .slice A ds.length c], .bool (z == 0)]) (by simp [results, Tryd.results73, go_sem, d1]) rfl ⟨A, c, by rw [HDS.out, HZ.out], ?_⟩
      rw [HDS.out]
      exact ((hK.sw2.st 0 (.int .i64 b)).st 1 (.slice A ds.length c)).drop.drop1
set_option maxRecDepth 100000 in
set_option maxHeartbeats 1600000 in
theorem l02NewV_any (b : Int) (k : Nat) (v : Int) (w : World) (hb : 2 ≤ b) (hb2 : b ≤ 16) (hk : k ≤ 1000000) (h0 : 0 ≤ v) (h1 : v ≤ 9223372036854775807) :
    Calls Tryd.prog 65 #[.int .i64 b, .int .i64 k, .int .i64 v] w fun e w' => ∃ A c, e = .returned (.tuple #[.agg #[.int .i64 b, .slice A (digD b k v).length c], .int .i64 (restD b k v)]) ∧ Kn w [rowI A c (digD b k v)] w' := by
  have HBD := Lib.hid (fun i => restD_bd b hb i v h0 h1)
  have HST := Lib.hid (fun i => restD_step b hb hb2 i v h0 h1)
  have nz1 : b ≠ 0 := by omega
  have nz2 : (b == 0) = false := by simp; omega
  have nz3 : ¬ b = 0 := by omega
  go_enter Tryd.func65, Tryd.ntmps65
  go_wp2_with (first | (refine wpList.kn ((Kn.nil w).al [.int .i64 0, .slice none 0 0] 26) ?_; intro w1 hK1) | (refine wpList.kn (hK1.al [.int .i64 0, .slice none 0 0] 26) ?_; intro w2 hK2; obtain ⟨a1, a2, a3, -⟩ := hK2.cells))
  have hK4 := ((hK2.st 0 (.int .i64 b)).st 1 (.slice none 0 0)).nilRow 2 1
  clear a1 a2 a3 hK1 hK2
  go_loopw [9, 2] (fun ii vv wr => ∃ (i : Nat) (x : Value), i ≤ k ∧ ii = .int .i64 i ∧ vv = .int .i64 (restD b i v) ∧
    Kn w [.row x 2 1 (digD b i v).length ((digD b i v).map (Value.int .i64)), .blk w1.heap.size [.int .i64 b, x] 26, .blk w.heap.size [.int .i64 0, .slice none 0 0] 26] wr) (fun i _ _ => k - (intOf i).toNat)
  case atStart => exact ⟨0, .slice none 0 0, Nat.zero_le _, rfl, rfl, hK4⟩
  case round =>
    obtain ⟨i, x, hi, rfl, rfl, hK⟩ := hrel
    clear hK4
    have hdl := digD_len b i v
    have HS := Lib.hid (show digD b (i + 1) v = digD b i v ++ [(restD b i v).tmod b] from rfl)
    have HR := Lib.hid (show restD b (i + 1) v = (restD b i v).tdiv b from rfl)
    have hbd := HBD.out i
    have hst := HST.out i
    have HLN := Lib.hid (digD_len b k v)
    obtain ⟨ds, hds⟩ : ∃ ds, digD b i v = ds := ⟨_, rfl⟩
    have HDS := Lib.hid hds
    rw [hds] at hK HS hdl
    obtain ⟨z, hz⟩ : ∃ z, restD b i v = z := ⟨_, rfl⟩
    rw [hz] at HS hbd hst HR ⊢
    have HZ := Lib.hid hz
    have HZ1 : Hid (-9223372036854775808 ≤ z.tmod b ∧ z.tmod b ≤ 9223372036854775807) := by simp only [Hid]; omega
    have hdm : ds.length ≤ 1000000 := by omega
    have HDL := Lib.hid hdl
    clear hds hz hdl
    obtain ⟨a1, a2, a3, d1, d2, d3, -⟩ := hK.cells
    by_cases hik : i < k
    · have hi1 : (i : Int) < (k : Int) := by omega
      go_wp2_with fail
      go_region_law (refine kn_stepI rfl _ _ rfl _ ds rfl rfl ((hK.al [.int .i64 (z.tmod b)] 2).drew) (by omega) ?_; intro v5 w6 hK9; obtain ⟨A5, c5, rfl⟩ := row_form hK9.at0; rw [show (ds ++ [z.tmod b]).length = ds.length + 1 by simp] at hK9; clear a1 a2 a3 d1 d2 d3; obtain ⟨a1, a2, a3, d1, d2, d3, -⟩ := hK9.cells)
      all_goals
        go_wp2_with fail
        go_roundw
        case rel => exact ⟨i + 1, _, by omega, by go_num, by rw [HR.out, Int.tdiv_eq_ediv_of_nonneg hbd.1], by rw [HS.out, show (ds ++ [z.tmod b]).length = ds.length + 1 by simp]; exact (hK9.sw1.st 1 _).sw1⟩
        case measure => simp [intOf]; omega
    · have hi1 : ¬ (i : Int) < (k : Int) := by omega
      obtain rfl : i = k := by omega
      obtain ⟨A, c, rfl⟩ := row_form hK.at0
      go_wp2_with fail
      refine bodyPost_ret (v := .tuple #[.agg #[.int .i64 b, .slice A ds.length c], .int .i64 z]) (by simp [results, Tryd.results65, go_sem, d1]) rfl ⟨A, c, by rw [HDS.out, HZ.out], ?_⟩
      rw [HDS.out]
      exact ((hK.sw2.st 0 (.int .i64 b)).st 1 (.slice A ds.length c)).drop.drop1
end Go.Proofs.YtmmiahgmdllgdaaDoor

namespace Go.Proofs.YtmmiahgmdllgdaaDoor
open Go.RowKit Go.Sort
set_option maxRecDepth 100000 in
set_option maxHeartbeats 1600000 in
theorem withValue_any (b : Int) (A : Option Addr) (n c : Nat) (v : Int) (w : World) (hb : 2 ≤ b) (hb2 : b ≤ 16) (hk : n ≤ 1000000) (h0 : 0 ≤ v) (h1 : v ≤ 9223372036854775807) :
    Calls Tryd.prog 52 #[.agg #[.int .i64 b, .slice A n c], .int .i64 v] w fun e w' => ∃ A' c', e = .returned (.agg #[.int .i64 b, .slice A' (digD b n v).length c']) ∧ Kn w [rowI A' c' (digD b n v)] w' := by
  have KR := Lib.hid (fun W => registerOf_any b n v W hb hb2 hk h0 h1)
  obtain ⟨ds, hds⟩ : ∃ ds, digD b n v = ds := ⟨_, rfl⟩
  obtain ⟨ok, hok⟩ : ∃ ok, (restD b n v == 0) = ok := ⟨_, rfl⟩
  have KR := KR.out
  rw [hds, hok] at KR
  have KR := Lib.hid KR
  rw [hds]
  clear hds hok
  go_enter Tryd.func52, Tryd.ntmps52
  go_wp2_with (first | (refine wpList.kn ((Kn.nil w).al [.int .i64 b, .slice A n c] 26) ?_; intro w1 hK1) | (refine wpList.kn (hK1.al [.int .i64 0, .slice none 0 0] 26) ?_; intro w2 hK2; obtain ⟨a1, a2, a3, d1, d2, d3, -⟩ := hK2.cells))
  have hK2 := hK1.al [.int .i64 0, .slice none 0 0] 26
  generalize w1.alloc (.cells #[.int .i64 0, .slice none 0 0] 26) = w2 at hK2 ⊢
  obtain ⟨a1, a2, a3, d1, d2, d3, -⟩ := hK2.cells
  have KW := Lib.hid (fun W => width_any b A n c W)
  go_cut [5] (fun pp wx => ∃ (g : Nat) (A' : Option Addr) (c' : Nat), pp = .pointer (some ⟨g, 0, none⟩) ∧ Kn w [.blk g [.int .i64 b, .slice A' ds.length c'] 26, rowI A' c' ds, .blk w1.heap.size [.int .i64 0, .slice none 0 0] 26, .blk w.heap.size [.int .i64 b, .slice A n c] 26] wx)
  case first =>
    go_region_law (first
      | (go_simp; go_at_call 44; refine (KW.out _).mono ?_; rintro e w3 ⟨rfl, hw3⟩; first | (have hK3 := hK2.drew.keep hw3; obtain ⟨p1, q1, s1, p2, q2, s2, -⟩ := hK3.cells) | (have hK3 := (hK2.al [.int .i64 0, .slice none 0 0] 26).drew.keep hw3; obtain ⟨p1, q1, s1, p2, q2, s2, p3, q3, s3, -⟩ := hK3.cells))
      | (go_simp; go_at_call 73; refine (KR.out _).mono ?_; rintro e w4 ⟨A', c', rfl, hK⟩; first | (have hK4 := hK3.join hK; obtain ⟨g1, f1, l1, g2, f2, l2, g3, f3, l3, -⟩ := hK4.cells) | (have hK4 := hK3.join hK; obtain ⟨g1, f1, l1, g2, f2, l2, -⟩ := hK4.cells) | (have hK4 := (hK3.al [.int .i64 0, .slice none 0 0] 26).join hK; obtain ⟨g1, f1, l1, g2, f2, l2, g3, f3, l3, -⟩ := hK4.cells)))
    all_goals
      go_wp2_with fail
      go_meet
      first
        | exact ⟨_, _, _, rfl, (hK4.sw1.st 0 _).st 1 _⟩
        | exact ⟨_, _, _, rfl, hK4.al _ _⟩
  case rest =>
    obtain ⟨g, A', c', rfl, hK⟩ := hcut
    clear a1 a2 a3 d1 d2 d3 hK1 hK2
    obtain ⟨a1, a2, a3, d1, d2, d3, -⟩ := hK.cells
    go_wp2_with fail
    refine bodyPost_ret (v := .agg #[.int .i64 b, .slice A' ds.length c']) (by simp [results, Tryd.results52, go_sem, d1]) rfl ⟨A', c', rfl, ?_⟩
    exact ((hK.sw2.st 0 _).st 1 _).drop.drop.drop1
set_option maxRecDepth 100000 in
set_option maxHeartbeats 1600000 in
theorem copiedR_any (b : Int) (A : Option Addr) (n c : Nat) (ds : List Int) (w : World) (hr : RI w A n ds) (h0 : 0 < n) (hm : n ≤ 1000000) :
    Calls Tryd.prog 48 #[.agg #[.int .i64 b, .slice A n c]] w fun e w' => ∃ A' c', e = .returned (.agg #[.int .i64 b, .slice A' ds.length c']) ∧ Kn w [rowI A' c' ds] w' := by
  have KC := Lib.hid (fun W (hW : Below w.heap.size w W) => copyNumbers_any A n c ds W (hr.below hW) h0 hm)
  have hl := hr.1
  subst hl
  clear hr
  go_enter Tryd.func48, Tryd.ntmps48
  go_wp2_with (first | (refine wpList.kn ((Kn.nil w).al [.int .i64 b, .slice A ds.length c] 26) ?_; intro w1 hK1) | (refine wpList.kn (hK1.al [.int .i64 0, .slice none 0 0] 26) ?_; intro w2 hK2; obtain ⟨a1, a2, a3, d1, d2, d3, -⟩ := hK2.cells))
  have hK2 := hK1.al [.int .i64 0, .slice none 0 0] 26
  generalize w1.alloc (.cells #[.int .i64 0, .slice none 0 0] 26) = w2 at hK2 ⊢
  obtain ⟨a1, a2, a3, d1, d2, d3, -⟩ := hK2.cells
  go_region_law (go_simp; go_at_call 72; refine (KC.out _ hK2.drew.below).mono ?_; rintro e w4 ⟨A', c', rfl, hK⟩; have hK4 := hK2.drew.join hK; obtain ⟨g1, f1, l1, g2, f2, l2, -⟩ := hK4.cells)
  all_goals
    go_wp2_with fail
    refine bodyPost_ret (v := .agg #[.int .i64 b, .slice A' ds.length c']) (by simp [results, Tryd.results48, go_sem, g1]) rfl ⟨A', c', rfl, ?_⟩
    exact ((hK4.sw1.st 0 _).st 1 _).drop.drop1
end Go.Proofs.YtmmiahgmdllgdaaDoor

namespace Go.Proofs.YtmmiahgmdllgdaaDoor
open Go.RowKit Go.Sort
theorem box7 {w0 w : World} {m : List Ent} {g : Nat} {v0 v1 v2 v3 v4 v5 v6 : Value} {T : TypeId} (h : Kn w0 (.blk g [v0, v1, v2, v3, v4, v5, v6] T :: m) w) :
    w.cell? ⟨g, 0, none⟩ = some v0 ∧ w.cell? ⟨g, 1, none⟩ = some v1 ∧ w.cell? ⟨g, 2, none⟩ = some v2 ∧ w.cell? ⟨g, 3, none⟩ = some v3 ∧ w.cell? ⟨g, 4, none⟩ = some v4 ∧ w.cell? ⟨g, 5, none⟩ = some v5 ∧ w.cell? ⟨g, 6, none⟩ = some v6 :=
  ⟨h.blkAt.1 0, h.blkAt.1 1, h.blkAt.1 2, h.blkAt.1 3, h.blkAt.1 4, h.blkAt.1 5, h.blkAt.1 6⟩
/-- the machine's own numbers -/
def MRows (t : Tri) (A1 : Option Addr) (c1 : Nat) (A2 : Option Addr) (c2 : Nat) (A3 : Option Addr) (c3 : Nat) : List Ent := [rowI A3 c3 t.s.digits, rowI A2 c2 t.b.digits, rowI A1 c1 t.a.digits]
structure Sized (t : Tri) : Prop where
  a0 : 0 < t.a.digits.length
  b0 : 0 < t.b.digits.length
  s0 : 0 < t.s.digits.length
  a : t.a.digits.length ≤ 16
  b : t.b.digits.length ≤ 16
  s : t.s.digits.length ≤ 16
set_option maxRecDepth 100000 in
set_option maxHeartbeats 1600000 in
theorem copiedM_any (t : Tri) (A1 A2 A3 : Option Addr) (c1 c2 c3 : Nat) (w : World) (r1 : RI w A1 t.a.digits.length t.a.digits) (r2 : RI w A2 t.b.digits.length t.b.digits) (r3 : RI w A3 t.s.digits.length t.s.digits) (hz : Sized t) :
    Calls Tryd.prog 21 #[.agg #[.int .i64 t.a.base, .slice A1 t.a.digits.length c1, .int .i64 t.b.base, .slice A2 t.b.digits.length c2, .int .i64 t.s.base, .slice A3 t.s.digits.length c3, .int .i64 t.carry]] w fun e w' => ∃ A1 c1 A2 c2 A3 c3, e = .returned (.agg #[.int .i64 t.a.base, .slice A1 t.a.digits.length c1, .int .i64 t.b.base, .slice A2 t.b.digits.length c2, .int .i64 t.s.base, .slice A3 t.s.digits.length c3, .int .i64 t.carry]) ∧ Kn w [rowI A3 c3 t.s.digits, rowI A2 c2 t.b.digits, rowI A1 c1 t.a.digits] w' := by
  have K1 := Lib.hid (fun W (hW : Below w.heap.size w W) => copiedR_any t.a.base A1 t.a.digits.length c1 t.a.digits W (r1.below hW) hz.a0 (by have := hz.a; omega))
  have K2 := Lib.hid (fun W (hW : Below w.heap.size w W) => copiedR_any t.b.base A2 t.b.digits.length c2 t.b.digits W (r2.below hW) hz.b0 (by have := hz.b; omega))
  have K3 := Lib.hid (fun W (hW : Below w.heap.size w W) => copiedR_any t.s.base A3 t.s.digits.length c3 t.s.digits W (r3.below hW) hz.s0 (by have := hz.s; omega))
  clear r1 r2 r3 hz
  go_enter Tryd.func21, Tryd.ntmps21
  go_wp2_with (first | (refine wpList.kn ((Kn.nil w).al [.int .i64 t.a.base, .slice A1 t.a.digits.length c1, .int .i64 t.b.base, .slice A2 t.b.digits.length c2, .int .i64 t.s.base, .slice A3 t.s.digits.length c3, .int .i64 t.carry] 28) ?_; intro w1 hK1))
  have hK2 := hK1.al [.int .i64 0, .slice none 0 0, .int .i64 0, .slice none 0 0, .int .i64 0, .slice none 0 0, .int .i64 0] 28
  generalize w1.alloc (.cells #[.int .i64 0, .slice none 0 0, .int .i64 0, .slice none 0 0, .int .i64 0, .slice none 0 0, .int .i64 0] 28) = w2 at hK2 ⊢
  have HG := Lib.hid (box7 hK2.drew.drop)
  go_region_held3 (fun W => W.cell? ⟨w.heap.size, 0, none⟩ = some (.int .i64 t.a.base) ∧ W.cell? ⟨w.heap.size, 1, none⟩ = some (.slice A1 t.a.digits.length c1) ∧ W.cell? ⟨w.heap.size, 2, none⟩ = some (.int .i64 t.b.base) ∧ W.cell? ⟨w.heap.size, 3, none⟩ = some (.slice A2 t.b.digits.length c2) ∧ W.cell? ⟨w.heap.size, 4, none⟩ = some (.int .i64 t.s.base) ∧ W.cell? ⟨w.heap.size, 5, none⟩ = some (.slice A3 t.s.digits.length c3) ∧ W.cell? ⟨w.heap.size, 6, none⟩ = some (.int .i64 t.carry))
    (first | with_reducible exact HG.out | with_reducible exact HG2.out | exact HG.out) (first
    | (go_at_call 48; with_reducible refine (K1.out _ hK2.drew.below).mono ?_; rintro e w4 ⟨B1, e1, rfl, hK⟩; have hK4 := hK2.drew.join hK; clear HG; have HG := Lib.hid (box7 hK4.drop.drop))
    | (go_at_call 48; with_reducible refine (K2.out _ hK4.below).mono ?_; rintro e w5 ⟨B2, e2, rfl, hK⟩; have hK5 := hK4.join hK; clear HG; have HG := Lib.hid (box7 hK5.drop.drop.drop))
    | (go_at_call 48; with_reducible refine (K3.out _ hK5.below).mono ?_; rintro e w6 ⟨B3, e3, rfl, hK⟩; have hK6 := hK5.join hK; clear HG; have HG := Lib.hid (box7 hK6.drop.drop.drop.drop); have hK7 := ((((((hK6.sw3.st 0 (.int .i64 t.a.base)).st 1 (.slice B1 (t.a.digits).length e1)).st 2 (.int .i64 t.b.base)).st 3 (.slice B2 (t.b.digits).length e2)).st 4 (.int .i64 t.s.base)).st 5 (.slice B3 (t.s.digits).length e3)).st 6 (.int .i64 t.carry); have HG2 := Lib.hid (box7 hK7.drop.drop.drop.drop); obtain ⟨g1, f1, l1⟩ := hK6.drop.drop.drop.blkAt))
  all_goals
    go_wp2_with fail
    refine bodyPost_ret (v := .agg #[.int .i64 t.a.base, .slice B1 (t.a.digits).length e1, .int .i64 t.b.base, .slice B2 (t.b.digits).length e2, .int .i64 t.s.base, .slice B3 (t.s.digits).length e3, .int .i64 t.carry]) (by simp [results, Tryd.results21, go_sem, g1]) rfl ⟨B1, e1, B2, e2, B3, e3, rfl, ?_⟩
    exact hK7.drop.drop3
/-- a machine on which everything is 0 -/
def clrT (t : Tri) : Tri := ⟨⟨t.a.base, digD t.a.base t.a.digits.length 0⟩, ⟨t.b.base, digD t.b.base t.b.digits.length 0⟩, ⟨t.s.base, digD t.s.base t.s.digits.length 0⟩, 0⟩
end Go.Proofs.YtmmiahgmdllgdaaDoor

namespace Go.Proofs.YtmmiahgmdllgdaaDoor
open Go.RowKit
section
variable {w0 w w' : World} {m : List Ent} {e : Ent}
theorem Kn.get (h : Kn w0 m w) (i : Nat) {e : Ent} (hi : m[i]? = some e) : e.holds w := h.ents e (List.mem_of_getElem? hi)
/-- a thing of the list, by its place, comes to the front -/
theorem Kn.front (h : Kn w0 m w) (i : Nat) {e : Ent} (hi : m[i]? = some e) : Kn w0 (e :: m.eraseIdx i) w := by
  refine h.perm ?_
  induction m generalizing i with
  | nil => simp at hi
  | cons a m ih =>
    cases i with
    | zero => simp at hi; subst hi; simp
    | succ i =>
      simp only [List.getElem?_cons_succ] at hi
      simp only [List.eraseIdx_cons_succ]
      have hp : m.Perm (e :: m.eraseIdx i) := by
        clear ih h
        induction m generalizing i with
        | nil => simp at hi
        | cons b m ih =>
          cases i with
          | zero => simp at hi; subst hi; simp
          | succ i =>
            simp only [List.getElem?_cons_succ] at hi
            exact ((ih i hi).cons b).trans (.swap _ _ _)
      exact (hp.cons a).trans (.swap _ _ _)
/-- some things are forgotten -/
theorem Kn.only (h : Kn w0 m w) {m' : List Ent} (hs : m'.Sublist m) : Kn w0 m' w :=
  ⟨h.below, fun x hx => h.ents x (hs.subset hx), fun x hx => h.own x (hs.subset hx), h.apart.sublist hs⟩
/-- blocks of different places are different ones -/
theorem Kn.ne (h : Kn w0 m w) (i j : Nat) {g g' : Nat} {l l' : List Value} {T T' : TypeId} (hi : m[i]? = some (.blk g l T)) (hj : m[j]? = some (.blk g' l' T')) (hne : i ≠ j) : g ≠ g' := by
  rintro rfl
  obtain ⟨hi1, hi2⟩ := List.getElem?_eq_some_iff.1 hi
  obtain ⟨hj1, hj2⟩ := List.getElem?_eq_some_iff.1 hj
  have hp := List.pairwise_iff_getElem.1 h.apart
  rcases Nat.lt_or_gt_of_ne hne with h3 | h3
  · exact hp i j hi1 hj1 h3 g (by rw [hi2]; exact rfl) (by rw [hj2]; exact rfl)
  · exact hp j i hj1 hi1 h3 g (by rw [hj2]; exact rfl) (by rw [hi2]; exact rfl)
/-- some things, by their places and in a new order, and all behind the first n -/
theorem Kn.sel (h : Kn w0 m w) (is : List Nat) (n : Nat) (h1 : is.Nodup) (h2 : ∀ i ∈ is, i < n) : Kn w0 (is.filterMap (fun i => m[i]?) ++ m.drop n) w := by
  have hsub : ∀ x ∈ is.filterMap (fun i => m[i]?) ++ m.drop n, x ∈ m := fun x hx => by
    rcases List.mem_append.1 hx with hx | hx
    · obtain ⟨i, -, hi⟩ := List.mem_filterMap.1 hx
      exact List.mem_of_getElem? hi
    · exact List.mem_of_mem_drop hx
  have hR : ∀ (i j : Nat) (a b : Ent), m[i]? = some a → m[j]? = some b → i ≠ j → ∀ k, a.fp k → ¬ b.fp k := fun i j a b hi hj hne k h1 h2 => by
    obtain ⟨hi1, hi2⟩ := List.getElem?_eq_some_iff.1 hi
    obtain ⟨hj1, hj2⟩ := List.getElem?_eq_some_iff.1 hj
    have hp := List.pairwise_iff_getElem.1 h.apart
    rcases Nat.lt_or_gt_of_ne hne with h3 | h3
    · exact hp i j hi1 hj1 h3 k (by rw [hi2]; exact h1) (by rw [hj2]; exact h2)
    · exact hp j i hj1 hi1 h3 k (by rw [hj2]; exact h2) (by rw [hi2]; exact h1)
  refine ⟨h.below, fun x hx => h.ents x (hsub x hx), fun x hx => h.own x (hsub x hx), List.pairwise_append.2 ⟨?_, h.apart.sublist (List.drop_sublist _ _), fun a ha b hb => ?_⟩⟩
  · refine List.pairwise_filterMap.2 (h1.imp ?_)
    intro i j hne a ha b hb
    exact hR i j a b ha hb hne
  · obtain ⟨i, hi, hia⟩ := List.mem_filterMap.1 ha
    obtain ⟨j, hj⟩ := List.getElem?_of_mem hb
    rw [List.getElem?_drop] at hj
    exact hR i (n + j) a b hia hj (by have := h2 i hi; omega)
/-- a store into a row that is owned -/
theorem Kn.rowSt {g c n size : Nat} {t : TypeId} {xs : List Value} (h : Kn w0 (.row (.slice (some ⟨g, 0, none⟩) n c) t size n xs :: m) w) (j : Nat) (v : Value) :
    Kn w0 (.row (.slice (some ⟨g, 0, none⟩) n c) t size n (xs.set j v) :: m) (w.setCell ⟨g, j, none⟩ v) := by
  refine h.upd ⟨rfl, rfl, rfl, by simp [World.setCell], fun k _ hk => Below.heap_setCell _ _ _ _ (fun e => hk (by subst e; rfl))⟩ ?_ (fun k hk => .inl hk)
  have h0 : w.ownsRow 0 t size (.slice (some ⟨g, 0, none⟩) n c) n xs := h.at0
  rcases h0.2 with ⟨h1, h2⟩ | ⟨g', cap, cur, hv, hb, hg, hn, hc, hs, ht⟩
  · cases h1
  injection hv with hv hv2 hv3
  injection hv with hv
  injection hv with hv hv4
  subst hv; subst hv3
  refine ⟨by rw [List.length_set]; exact h0.1, .inr ⟨g, c, cur.setIfInBounds j v, rfl, hb, ?_, hn, hc, by simpa using hs, ?_⟩⟩
  · show (w.setCell ⟨g, j, none⟩ v).heap[g]? = some (.cells (cur.setIfInBounds j v) t (0, 0))
    simp [World.setCell, Array.getElem?_modify, hg]
  · rw [Array.toList_setIfInBounds, List.take_set, ht]
theorem Kn.rowCell {g c n size : Nat} {t : TypeId} {xs : List Value} (h : Kn w0 (.row (.slice (some ⟨g, 0, none⟩) n c) t size n xs :: m) w) {j : Nat} {u : Value} (hu : xs[j]? = some u) :
    w.cell? ⟨g, j, none⟩ = some u ∧ w.frozen? ⟨g, j, none⟩ = false := by
  have h0 : w.ownsRow 0 t size (.slice (some ⟨g, 0, none⟩) n c) n xs := h.at0
  refine ⟨by have := h0.cells (g := g) rfl j u hu; rwa [add_zero_block] at this, ?_⟩
  rcases h0.2 with ⟨h1, h2⟩ | ⟨g', cap, cur, hv, hb, hg, -⟩
  · cases h1
  injection hv with hv hv2 hv3
  injection hv with hv
  injection hv with hv hv4
  subst hv
  simp [World.frozen?, hg]
theorem Kn.rowForm {v : Value} {n size : Nat} {t : TypeId} {xs : List Value} (h : Kn w0 (.row v t size n xs :: m) w) (hn : 0 < n) : ∃ g c, v = .slice (some ⟨g, 0, none⟩) n c := by
  have h0 : w.ownsRow 0 t size v n xs := h.at0
  rcases h0.2 with ⟨h1, h2⟩ | ⟨g', cap, cur, hv, -⟩
  · omega
  · exact ⟨_, _, hv⟩
end
theorem bodyPost.kn {P : Program} {f : Func} {R : Ending → World → Prop} {x : Exit} {a : Act} {w0 w : World} {m : List Ent} (h : Kn w0 m w) (k : ∀ W, Kn w0 m W → bodyPost P f R x a W) : bodyPost P f R x a w := k w h
theorem Code.wp.kn {P : Program} {c : Code} {Q : Exit → Act → World → Prop} {a : Act} {w0 w : World} {m : List Ent} (h : Kn w0 m w) (k : ∀ W, Kn w0 m W → c.wp P Q a W) : c.wp P Q a w := k w h
/-- a store into numbers that are owned -/
theorem Kn.setI {w0 w : World} {m : List Ent} {g c : Nat} {ds : List Int} (h : Kn w0 (rowI (some ⟨g, 0, none⟩) c ds :: m) w) (j : Nat) (v : Int) :
    Kn w0 (rowI (some ⟨g, 0, none⟩) c (ds.set j v) :: m) (w.setCell ⟨g, j, none⟩ (.int .i64 v)) := by
  have h1 := Kn.rowSt h j (.int .i64 v)
  unfold rowI
  rw [List.length_set, List.map_set]
  exact h1
theorem Kn.cellIs {w0 w : World} {m : List Ent} {g : Nat} {cs : List Value} {T : TypeId} (h : Kn w0 (.blk g cs T :: m) w) (j : Nat) (v : Value) (hj : cs[j]? = some v) : w.cell? ⟨g, j, none⟩ = some v := (h.blkAt.1 j).trans hj
theorem box7' {w0 w : World} {m : List Ent} {g : Nat} {v0 v1 v2 v3 v4 v5 v6 : Value} {l : List Value} {T : TypeId} (h : Kn w0 (.blk g (v0 :: v1 :: v2 :: v3 :: v4 :: v5 :: v6 :: l) T :: m) w) :
    w.cell? ⟨g, 0, none⟩ = some v0 ∧ w.cell? ⟨g, 1, none⟩ = some v1 ∧ w.cell? ⟨g, 2, none⟩ = some v2 ∧ w.cell? ⟨g, 3, none⟩ = some v3 ∧ w.cell? ⟨g, 4, none⟩ = some v4 ∧ w.cell? ⟨g, 5, none⟩ = some v5 ∧ w.cell? ⟨g, 6, none⟩ = some v6 :=
  ⟨h.blkAt.1 0, h.blkAt.1 1, h.blkAt.1 2, h.blkAt.1 3, h.blkAt.1 4, h.blkAt.1 5, h.blkAt.1 6⟩
theorem box7at {w0 w : World} {m : List Ent} {g : Nat} {v0 v1 v2 v3 v4 v5 v6 : Value} {T : TypeId} (h : Kn w0 m w) (i : Nat) (hi : m[i]? = some (.blk g [v0, v1, v2, v3, v4, v5, v6] T)) :
    w.cell? ⟨g, 0, none⟩ = some v0 ∧ w.cell? ⟨g, 1, none⟩ = some v1 ∧ w.cell? ⟨g, 2, none⟩ = some v2 ∧ w.cell? ⟨g, 3, none⟩ = some v3 ∧ w.cell? ⟨g, 4, none⟩ = some v4 ∧ w.cell? ⟨g, 5, none⟩ = some v5 ∧ w.cell? ⟨g, 6, none⟩ = some v6 := box7' (h.front i hi)
end Go.Proofs.YtmmiahgmdllgdaaDoor

namespace Go.Proofs.YtmmiahgmdllgdaaDoor
open Go.RowKit Go.Sort
theorem box2 {w0 w : World} {m : List Ent} {g : Nat} {v0 v1 : Value} {l : List Value} {T : TypeId} (h : Kn w0 (.blk g (v0 :: v1 :: l) T :: m) w) : w.cell? ⟨g, 0, none⟩ = some v0 ∧ w.cell? ⟨g, 1, none⟩ = some v1 :=
  ⟨h.blkAt.1 0, h.blkAt.1 1⟩
end Go.Proofs.YtmmiahgmdllgdaaDoor

namespace Go.Proofs.YtmmiahgmdllgdaaDoor
open Go.RowKit Go.Sort
/-- a register's digits when a number is added, and whether it goes round -/
def shiftD (b : Int) (ds : List Int) (x : Int) : List Int := digD b ds.length (((valL b ds + x).tmod (pw b ds.length) + pw b ds.length).tmod (pw b ds.length))
def shiftB (b : Int) (ds : List Int) (x : Int) : Bool := decide (valL b ds + x < 0) || decide (pw b ds.length ≤ valL b ds + x)
theorem shiftD_len (b : Int) (ds : List Int) (x : Int) : (shiftD b ds x).length = ds.length := digD_len _ _ _
set_option maxRecDepth 100000 in
set_option maxHeartbeats 1600000 in
theorem shifted_any (b : Int) (A : Option Addr) (c : Nat) (ds : List Int) (x : Int) (w : World) (hr : RI w A ds.length ds) (hv : vreg b ds = true) (hp : pw b ds.length ≤ 1000000000001) (hx0 : -1000000000001 ≤ x) (hx1 : x ≤ 1000000000001) :
    Calls Tryd.prog 50 #[.agg #[.int .i64 b, .slice A ds.length c], .int .i64 x] w fun e w' => ∃ A' c', e = .returned (.tuple #[.agg #[.int .i64 b, .slice A' (shiftD b ds x).length c'], .bool (shiftB b ds x)]) ∧ Kn w [rowI A' c' (shiftD b ds x)] w' := by
  obtain ⟨⟨b1, b2⟩, ⟨n1, n2⟩, hd, hl⟩ := vreg_iff.1 hv
  have hp1 := pw_pos b b1 ds.length
  have hv0 := (valL_bd b b1 ds (fun d h => (hd d h).1)).1
  have KN := (fun W => values_any b A ds.length c W b1 b2 (by omega))
  have hpc : powC b ds.length = pw b ds.length := by unfold powC; rw [if_pos hp]
  rw [hpc] at KN
  have KV := (fun W (hW : Below w.heap.size w W) => value_any b A ds.length c ds W b1 b2 hd (hr.below hW) n2)
  have hsd : shiftD b ds x = digD b ds.length (((valL b ds + x).tmod (pw b ds.length) + pw b ds.length).tmod (pw b ds.length)) := rfl
  have hsb : shiftB b ds x = (decide (valL b ds + x < 0) || decide (pw b ds.length ≤ valL b ds + x)) := rfl
  obtain ⟨N, hN⟩ : ∃ N, pw b ds.length = N := ⟨_, rfl⟩
  obtain ⟨V, hV⟩ : ∃ V, valL b ds = V := ⟨_, rfl⟩
  rw [hN] at KN hsd hsb hp hp1
  rw [hV] at KV hsd hsb hv0 hl
  obtain ⟨S, hS⟩ : ∃ S, V + x = S := ⟨_, rfl⟩
  rw [hS] at hsd hsb
  have hSb : -1000000000001 ≤ S ∧ S ≤ 2000000000001 := by omega
  have hm1 : -N < S.tmod N ∧ S.tmod N < N := by
    have h1 := Int.tmod_lt_of_pos S (show 0 < N by omega)
    have h2 := Int.lt_tmod_of_pos S (show 0 < N by omega)
    omega
  have hm2 : 0 ≤ (S.tmod N + N).tmod N ∧ (S.tmod N + N).tmod N < N := ⟨Int.tmod_nonneg _ (by omega), Int.tmod_lt_of_pos _ (by omega)⟩
  have hwr : IntKind.i64.wrap (S.tmod N + N) = S.tmod N + N := wrapI64 (by omega)
  have nz1 : N ≠ 0 := by omega
  have nz2 : (N == 0) = false := by simp; omega
  have nz3 : ¬ N = 0 := by omega
  have KW := (fun W => withValue_any b A ds.length c ((S.tmod N + N).tmod N) W b1 b2 (by omega) hm2.1 (by omega))
  rw [← hsd] at KW
  obtain ⟨es, hes⟩ : ∃ es, shiftD b ds x = es := ⟨_, rfl⟩
  rw [hes] at KW ⊢
  obtain ⟨bell, hbl⟩ : ∃ e, shiftB b ds x = e := ⟨_, rfl⟩
  have HSB := Lib.hid (hbl.symm.trans hsb)
  rw [hbl]
  have KN := Lib.hid KN
  have KV := Lib.hid KV
  have KW := Lib.hid KW
  have HSS := Lib.hid hS
  have hV2 : -9223372036854775808 ≤ V + x ∧ V + x ≤ 9223372036854775807 := by omega
  clear hsd hsb hes hbl hr hv hd hl hpc hN hV hS
  go_enter Tryd.func50, Tryd.ntmps50
  go_wp2_with (first | (refine wpList.kn ((Kn.nil w).al [.int .i64 b, .slice A ds.length c] 26) ?_; intro w1 hK1))
  have hK2 := hK1.al [.int .i64 0, .slice none 0 0] 26
  generalize w1.alloc (.cells #[.int .i64 0, .slice none 0 0] 26) = w2 at hK2 ⊢
  have HG := Lib.hid (box2 hK2.drew.drop)
  go_cut [6, 7] (fun pp oo wx => pp = .int .i64 N ∧ oo = .int .i64 S ∧ Kn w [.blk w1.heap.size [.int .i64 0, .slice none 0 0] 26, .blk w.heap.size [.int .i64 b, .slice A ds.length c] 26] wx)
  case first =>
    go_region_held3 (fun W => W.cell? ⟨w.heap.size, 0, none⟩ = some (.int .i64 b) ∧ W.cell? ⟨w.heap.size, 1, none⟩ = some (.slice A ds.length c))
      (first | with_reducible exact HG.out | exact HG.out) (first
      | (go_at_call 43; with_reducible refine (KN.out _).mono ?_; rintro e w3 ⟨rfl, hw3⟩; have hK3 := hK2.drew.keep hw3; clear HG; have HG := Lib.hid (box2 hK3.drop))
      | (go_at_call 51; with_reducible refine (KV.out _ hK3.below).mono ?_; rintro e w4 ⟨rfl, hw4⟩; have hK4 := hK3.keep hw4; clear HG; have HG := Lib.hid (box2 hK4.drop)))
    all_goals
      go_wp2_with fail
      go_meet
      exact ⟨rfl, by rw [HSS.out, wrapI64 (by omega)], hK4⟩
  case rest =>
    obtain ⟨rfl, rfl, hK⟩ := hcut
    clear HG hK1 hK2
    clear hV2 hv0
    have HG := Lib.hid (box2 hK.drew.drop)
    have HS := HG
    obtain ⟨a1, a2, a3⟩ := hK.blkAt
    rcases hlt : decide (S < 0) with _ | _
    · have hl2 := of_decide_eq_false hlt
      rcases hge : decide (N ≤ S) with _ | _
      · have hg2 := of_decide_eq_false hge
        rw [hlt, hge] at HSB
        go_wp2_with fail
        go_region_held3 (fun W => W.cell? ⟨w.heap.size, 0, none⟩ = some (.int .i64 b) ∧ W.cell? ⟨w.heap.size, 1, none⟩ = some (.slice A ds.length c)) (first | with_reducible exact HG.out | with_reducible exact HS.out | exact HG.out) (first
            | (go_at_call 52; with_reducible refine (KW.out _).mono ?_; rintro e w3 ⟨A', c', rfl, hK'⟩; have hK3 := hK.drew.join hK'; clear HG; have HG := Lib.hid (box2 hK3.drop.drop); have hK4 := (hK3.sw1.st 0 (.int .i64 b)).st 1 (.slice A' es.length c'); have HS := Lib.hid (box2 hK4.drop.drop); clear a1 a2 a3; obtain ⟨a1, a2, a3⟩ := hK3.drop.blkAt)
          )
        all_goals
          go_wp2_with fail
          refine bodyPost.kn hK4 ?_; intro w6 hK6
          clear a1 a2 a3
          obtain ⟨a1, a2, a3, -⟩ := hK6.cells
          refine bodyPost_ret (v := .tuple #[.agg #[.int .i64 b, .slice A' es.length c'], .bool bell]) (by simp [results, Tryd.results50, go_sem, a1]; rw [HSB.out]; try simp) rfl ⟨A', c', rfl, ?_⟩
          exact hK6.drop.drop1
      · have hg2 := of_decide_eq_true hge
        rw [hlt, hge] at HSB
        go_wp2_with fail
        go_region_held3 (fun W => W.cell? ⟨w.heap.size, 0, none⟩ = some (.int .i64 b) ∧ W.cell? ⟨w.heap.size, 1, none⟩ = some (.slice A ds.length c)) (first | with_reducible exact HG.out | with_reducible exact HS.out | exact HG.out) (first
            | (go_at_call 52; with_reducible refine (KW.out _).mono ?_; rintro e w3 ⟨A', c', rfl, hK'⟩; have hK3 := hK.drew.join hK'; clear HG; have HG := Lib.hid (box2 hK3.drop.drop); have hK4 := (hK3.sw1.st 0 (.int .i64 b)).st 1 (.slice A' es.length c'); have HS := Lib.hid (box2 hK4.drop.drop); clear a1 a2 a3; obtain ⟨a1, a2, a3⟩ := hK3.drop.blkAt)
          )
        all_goals
          go_wp2_with fail
          refine bodyPost.kn hK4 ?_; intro w6 hK6
          clear a1 a2 a3
          obtain ⟨a1, a2, a3, -⟩ := hK6.cells
          refine bodyPost_ret (v := .tuple #[.agg #[.int .i64 b, .slice A' es.length c'], .bool bell]) (by simp [results, Tryd.results50, go_sem, a1]; rw [HSB.out]; try simp) rfl ⟨A', c', rfl, ?_⟩
          exact hK6.drop.drop1
    · have hl2 := of_decide_eq_true hlt
      have hbe : bell = true := by rw [HSB.out, hlt]; rfl
      have HSB := Lib.hid hbe
      clear hbe
      obtain ⟨x1, x2⟩ := box2 hK.drop
      go_wp2_with fail
      first | (go_region_law (go_simp; go_at_call 52; with_reducible refine (KW.out _).mono ?_; rintro e w3 ⟨A', c', rfl, hK'⟩; have hK3 := hK.drew.join hK'; clear HG; have HG := Lib.hid (box2 hK3.drop.drop); have hK4 := (hK3.sw1.st 0 (.int .i64 b)).st 1 (.slice A' es.length c'); have HS := Lib.hid (box2 hK4.drop.drop); clear a1 a2 a3; obtain ⟨a1, a2, a3⟩ := hK3.drop.blkAt)) | fail "no"
      all_goals
        go_wp2_with fail
        refine bodyPost.kn hK4 ?_; intro w6 hK6
        clear a1 a2 a3
        obtain ⟨a1, a2, a3, -⟩ := hK6.cells
        refine bodyPost_ret (v := .tuple #[.agg #[.int .i64 b, .slice A' es.length c'], .bool bell]) (by simp [results, Tryd.results50, go_sem, a1]; rw [HSB.out]; try simp) rfl ⟨A', c', rfl, ?_⟩
        exact hK6.drop.drop1
end Go.Proofs.YtmmiahgmdllgdaaDoor

namespace Go.Proofs.YtmmiahgmdllgdaaDoor
open Go.RowKit Go.Sort
theorem restD_succ (b : Int) (k : Nat) (v : Int) : restD b (k + 1) v = restD b k (v.tdiv b) := by
  induction k with
  | zero => rfl
  | succ k ih => rw [restD, ih]; rfl
theorem digD_cons (b : Int) (k : Nat) (v : Int) : digD b (k + 1) v = v.tmod b :: digD b k (v.tdiv b) := by
  induction k with
  | zero => rfl
  | succ k ih => rw [digD, ih, restD_succ]; rfl
theorem pw_succ (b : Int) (k : Nat) : pw b (k + 1) = pw b k * b := rfl
theorem valL_lt (b : Int) (hb : 2 ≤ b) (ds : List Int) (hd : ∀ d ∈ ds, 0 ≤ d ∧ d < b) : valL b ds < pw b ds.length := by
  induction ds with
  | nil => simp [valL, pw]
  | cons d ds ih =>
    have h1 := ih (fun x hx => hd x (List.mem_cons_of_mem _ hx))
    have h2 := (hd d (List.mem_cons_self ..)).2
    have h3 : valL b ds * b ≤ (pw b ds.length - 1) * b := Int.mul_le_mul_of_nonneg_right (by omega) (by omega)
    rw [List.length_cons, pw_succ]
    have h4 : (pw b ds.length - 1) * b = pw b ds.length * b - b := by rw [Int.sub_mul]; omega
    simp only [valL]
    omega
theorem valL_digD (b : Int) (hb : 2 ≤ b) : ∀ (k : Nat) (v : Int), 0 ≤ v → v < pw b k → v ≤ 1000000000000 → valL b (digD b k v) = v
  | 0, v, h0, h1, _ => by simp only [pw] at h1; simp [digD, valL]; omega
  | k + 1, v, h0, h1, h2 => by
    rw [digD_cons]
    have e1 : v.tdiv b = v / b := Int.tdiv_eq_ediv_of_nonneg h0
    have e2 : v.tmod b = v % b := Int.tmod_eq_emod_of_nonneg h0
    have h3 : 0 ≤ v / b := Int.ediv_nonneg h0 (by omega)
    have h4 : v / b < pw b k := by rw [pw_succ] at h1; exact Int.ediv_lt_of_lt_mul (by omega) h1
    have h5 : v / b ≤ v := Int.ediv_le_self b h0
    simp only [valL]
    rw [e1, e2, valL_digD b hb k (v / b) h3 h4 (by omega)]
    have h6 := Int.emod_add_mul_ediv v b
    have h7 : v / b * b + v % b = v := by rw [Int.mul_comm]; omega
    rw [h7]; omega
theorem digD_ok (b : Int) (hb : 2 ≤ b) : ∀ (k : Nat) (v : Int), 0 ≤ v → ∀ d ∈ digD b k v, 0 ≤ d ∧ d < b
  | 0, _, _, d, h => by simp [digD] at h
  | k + 1, v, h0, d, h => by
    rw [digD_cons] at h
    have e1 : v.tdiv b = v / b := Int.tdiv_eq_ediv_of_nonneg h0
    have e2 : v.tmod b = v % b := Int.tmod_eq_emod_of_nonneg h0
    rcases List.mem_cons.1 h with rfl | h
    · rw [e2]; exact ⟨Int.emod_nonneg _ (by omega), Int.emod_lt_of_pos _ (by omega)⟩
    · rw [e1] at h; exact digD_ok b hb k _ (Int.ediv_nonneg h0 (by omega)) d h
theorem digD_vreg (b : Int) (hb : 2 ≤ b) (hb2 : b ≤ 16) (k : Nat) (hk : 1 ≤ k) (hk2 : k ≤ 16) (v : Int) (h0 : 0 ≤ v) (h1 : v < pw b k) (h2 : v ≤ 1000000000000) : vreg b (digD b k v) = true := by
  rw [vreg_iff, digD_len, valL_digD b hb k v h0 h1 h2]
  exact ⟨⟨hb, hb2⟩, ⟨by omega, by omega⟩, digD_ok b hb k v h0, h2⟩
theorem digD_zero (b : Int) : ∀ k : Nat, digD b k 0 = List.replicate k 0
  | 0 => rfl
  | k + 1 => by rw [digD_cons, Int.zero_tdiv, Int.zero_tmod, digD_zero b k]; rfl
/-- the shifted digits are valid again -/
theorem shiftD_vreg (b : Int) (ds : List Int) (x : Int) (hv : vreg b ds = true) (hp : pw b ds.length ≤ 1000000000001) : vreg b (shiftD b ds x) = true := by
  obtain ⟨⟨b1, b2⟩, ⟨n1, n2⟩, -, -⟩ := vreg_iff.1 hv
  have hp1 := pw_pos b b1 ds.length
  have h1 := Int.tmod_lt_of_pos ((valL b ds + x).tmod (pw b ds.length) + pw b ds.length) (show 0 < pw b ds.length by omega)
  have h2 := Int.lt_tmod_of_pos (valL b ds + x) (show 0 < pw b ds.length by omega)
  exact digD_vreg b b1 b2 _ (by omega) (by omega) _ (Int.tmod_nonneg _ (by omega)) h1 (by omega)
end Go.Proofs.YtmmiahgmdllgdaaDoor

namespace Go.Proofs.YtmmiahgmdllgdaaDoor
open Go.RowKit Go.Sort
/-- a turn: the setting times the unit is added -/
def turnT (t : Tri) (sign : Int) : Tri × Bool :=
  let u := pw t.b.base t.carry.toNat
  (⟨t.a, ⟨t.b.base, shiftD t.b.base t.b.digits (sign * (valL t.a.base t.a.digits * u))⟩, ⟨t.s.base, shiftD t.s.base t.s.digits (sign * u)⟩, t.carry⟩, shiftB t.b.base t.b.digits (sign * (valL t.a.base t.a.digits * u)))
/-- a stroke, and whether the bell rings -/
def strokeT (k : Int) (t : Tri) : Tri × Bool :=
  if k = 1 then turnT t 1
  else if k = 2 then turnT t (-1)
  else if k = 3 then (if t.carry + 1 = vplaces t then (t, true) else ({ t with carry := t.carry + 1 }, false))
  else if k = 4 then (if t.carry = 0 then (t, true) else ({ t with carry := t.carry - 1 }, false))
  else if k = 5 then (⟨t.a, ⟨t.b.base, digD t.b.base t.b.digits.length 0⟩, ⟨t.s.base, digD t.s.base t.s.digits.length 0⟩, t.carry⟩, false)
  else if k = 6 then ({ t with a := ⟨t.a.base, digD t.a.base t.a.digits.length 0⟩ }, false)
  else (t, false)
theorem pw_add (b : Int) (m n : Nat) : pw b (m + n) = pw b m * pw b n := by
  induction n with
  | zero => simp [pw]
  | succ n ih => rw [← Nat.add_assoc, pw_succ, ih, pw_succ, Int.mul_assoc]
theorem vmach_all {t : Tri} (h : vmach t = true) : t.a.ok = true ∧ t.b.ok = true ∧ t.s.ok = true ∧ t.a.base = t.b.base ∧ t.s.base = t.b.base ∧ pw t.b.base t.b.digits.length ≤ 1000000000001 ∧ pw t.s.base t.s.digits.length ≤ 1000000000001 ∧
    t.a.digits.length ≤ t.b.digits.length ∧ 0 ≤ t.carry ∧ t.carry ≤ vplaces t - 1 := by
  simp only [vmach, Bool.and_eq_true, beq_iff_eq, fullB, decide_eq_true_eq] at h
  obtain ⟨⟨⟨⟨h1, h2⟩, h3⟩, ⟨⟨h4, h5⟩, h6⟩, h7⟩, h8, h9⟩ := h
  obtain ⟨p, q⟩ := betB_iff.1 h9
  exact ⟨h1, h2, h3, h4, h5, h6, h7, h8, p, q⟩
theorem vmach_mk {t : Tri} (h1 : t.a.ok = true) (h2 : t.b.ok = true) (h3 : t.s.ok = true) (h4 : t.a.base = t.b.base) (h5 : t.s.base = t.b.base) (h6 : pw t.b.base t.b.digits.length ≤ 1000000000001) (h7 : pw t.s.base t.s.digits.length ≤ 1000000000001)
    (h8 : t.a.digits.length ≤ t.b.digits.length) (h9 : 0 ≤ t.carry) (h10 : t.carry ≤ vplaces t - 1) : vmach t = true := by
  simp only [vmach, Bool.and_eq_true, beq_iff_eq, fullB, decide_eq_true_eq]
  exact ⟨⟨⟨⟨h1, h2⟩, h3⟩, ⟨⟨h4, h5⟩, h6⟩, h7⟩, h8, betB_iff.2 ⟨h9, h10⟩⟩
theorem reg_ok {r : Reg} : r.ok = vreg r.base r.digits := rfl
/-- no sum of a turn runs over -/
theorem turn_bd {t : Tri} (h : vmach t = true) : 1 ≤ pw t.b.base t.carry.toNat ∧ pw t.b.base t.carry.toNat ≤ 1000000000001 ∧ 0 ≤ valL t.a.base t.a.digits * pw t.b.base t.carry.toNat ∧ valL t.a.base t.a.digits * pw t.b.base t.carry.toNat ≤ 1000000000001 := by
  obtain ⟨k1, k2, k3, e1, e2, f1, f2, l1, c0, c1⟩ := vmach_all h
  obtain ⟨⟨b1, b2⟩, ⟨n1, n2⟩, hd, hl⟩ := vreg_iff.1 k1
  have hu := pw_pos t.b.base (by omega) t.carry.toNat
  have hv0 := (valL_bd t.a.base b1 t.a.digits (fun d h => (hd d h).1)).1
  have hv1 := valL_lt t.a.base b1 t.a.digits hd
  have hadd := pw_add t.b.base t.a.digits.length t.carry.toNat
  have hc : t.a.digits.length + t.carry.toNat ≤ t.b.digits.length := by unfold vplaces at c1; omega
  have hm := pw_mono t.b.base (by omega) _ _ hc
  rw [e1] at hv1
  have h3 : valL t.a.base t.a.digits * pw t.b.base t.carry.toNat ≤ pw t.b.base t.a.digits.length * pw t.b.base t.carry.toNat := Int.mul_le_mul_of_nonneg_right (by rw [e1]; omega) (by omega)
  have hm2 := pw_mono t.b.base (by omega) t.carry.toNat t.b.digits.length (by omega)
  exact ⟨hu, by omega, Int.mul_nonneg hv0 (by omega), by omega⟩
theorem turnT_ok {t : Tri} (h : vmach t = true) (sign : Int) : vmach (turnT t sign).1 = true := by
  obtain ⟨k1, k2, k3, e1, e2, f1, f2, l1, c0, c1⟩ := vmach_all h
  refine vmach_mk k1 (shiftD_vreg _ _ _ k2 f1) (shiftD_vreg _ _ _ k3 f2) e1 e2 ?_ ?_ ?_ c0 ?_
  · simp only [turnT, shiftD_len]; exact f1
  · simp only [turnT, shiftD_len]; exact f2
  · simp only [turnT, shiftD_len]; exact l1
  · simp only [turnT, vplaces, shiftD_len]; exact c1
theorem zero_ok {b : Int} {ds : List Int} (h : vreg b ds = true) : vreg b (digD b ds.length 0) = true := by
  obtain ⟨⟨b1, b2⟩, ⟨n1, n2⟩, -, -⟩ := vreg_iff.1 h
  have := pw_pos b b1 ds.length
  exact digD_vreg b b1 b2 _ (by omega) (by omega) 0 (by omega) (by omega) (by omega)
theorem strokeT_ok {t : Tri} (k : Int) (h : vmach t = true) : vmach (strokeT k t).1 = true := by
  obtain ⟨k1, k2, k3, e1, e2, f1, f2, l1, c0, c1⟩ := vmach_all h
  unfold strokeT
  split
  · exact turnT_ok h 1
  split
  · exact turnT_ok h (-1)
  split
  · split
    · exact h
    · rename_i hc
      exact vmach_mk k1 k2 k3 e1 e2 f1 f2 l1 (by simp only []; omega) (by simp only [vplaces] at c1 hc ⊢; omega)
  split
  · split
    · exact h
    · rename_i hc
      exact vmach_mk k1 k2 k3 e1 e2 f1 f2 l1 (by simp only []; omega) (by simp only [vplaces] at c1 hc ⊢; omega)
  split
  · refine vmach_mk k1 (zero_ok k2) (zero_ok k3) e1 e2 (by simp only [digD_len]; exact f1) (by simp only [digD_len]; exact f2) (by simp only [digD_len]; exact l1) c0 (by simp only [vplaces, digD_len]; exact c1)
  split
  · refine vmach_mk (zero_ok k1) k2 k3 e1 e2 f1 f2 (by simp only [digD_len]; exact l1) c0 (by simp only [vplaces, digD_len]; exact c1)
  · exact h
end Go.Proofs.YtmmiahgmdllgdaaDoor
