import Derived.Test.YtmnegfhigfipbaaG5
namespace Go.Proofs.Ytmnegfhigfipbaa
open Go.RowKit Go.Sort
def Asc (fs : List Flt) : Prop := ∀ (k : Nat) (h : k + 1 < fs.length), (fs[k]'(by omega)).lever < fs[k + 1].lever
def vexpl (ts : List Tri) (fs : List Flt) : Bool := ts.all (fun t => expl t fs)
theorem between_b (a b c : Int) (w : World) : Calls Try.prog 58 #[.int .i64 a, .int .i64 b, .int .i64 c] w fun e w' => e = .returned (.bool (betB a b c)) ∧ Below w.heap.size w w' :=
  (between_any a b c w).mono fun _ _ ⟨h, e⟩ => ⟨h, e ▸ Below.refl _ _⟩
theorem isFault_any (n : Nat) (f : Flt) (w : World) (hn : n ≤ 16) (h1 : 1 ≤ f.kind) (h2 : f.kind ≤ 3) (h3 : 0 ≤ f.lever) (h4 : f.lever < n) :
    Calls Try.prog 97 #[.int .i64 n, .agg #[.int .i64 f.kind, .int .i64 f.lever]] w fun e w' => e = .returned (.bool true) ∧ Below w.heap.size w w' := by
  have k1 : betB f.kind 1 3 = true := betB_iff.2 ⟨h1, h2⟩
  have k2 : betB f.lever 0 (n - 1) = true := betB_iff.2 ⟨h3, by omega⟩
  have K1 := Lib.hid k1; have K2 := Lib.hid k2
  clear k1 k2
  go_enter Try.func97, Try.ntmps97
  go_wp2_with (go_at_call 58; refine (between_any _ _ _ _).mono ?_; rintro e w' ⟨rfl, rfl⟩; first | rw [K1.out] | rw [K2.out])
  go_ret
  exact ⟨rfl, (Below.refl _ _).alloc (Nat.le_refl _) _⟩
set_option maxHeartbeats 1600000 in
theorem ValidFaults_true (n : Nat) (A : Option Addr) (m c : Nat) (fs : List Flt) (w : World) (hr : RL FltM 2 w A m fs) (hg : GoodF n fs) (ha : Asc fs) (hn1 : 1 ≤ n) (hn : n ≤ 16) (hm : m ≤ 1000000) :
    Calls Try.prog 71 #[.int .i64 n, .slice A m c] w fun e w' => e = .returned (.bool true) ∧ Below w.heap.size w w' := by
  have HL := Lib.hid hr.1
  go_enter Try.func71, Try.ntmps71
  go_wp2
  go_loopw [9] (fun i wr => ∃ k : Nat, k ≤ m ∧ i = .int .i64 k ∧ Below w.heap.size w wr) (fun i _ => m - (intOf i).toNat)
  case atStart => exact ⟨0, Nat.zero_le _, rfl, Below.refl _ _⟩
  case round =>
    obtain ⟨k, hk, rfl, hbr⟩ := hrel
    by_cases hkn : k < m
    · obtain ⟨ad, hA, hlt, hkl, f1, f2⟩ := (hr.below steady_FltM hbr).at_ hkn
      obtain ⟨q1, q2, q3, q4⟩ := hg fs[k] (List.getElem_mem _)
      have KF := Lib.hid (fun (W : World) => isFault_any n fs[k] W hn q1 q2 q3 q4)
      have hi0 : (0 : Int) ≤ (k : Int) := by omega
      have hi1 : (k : Int) < (m : Int) := by omega
      have hfb : Below wr.heap.size wr (wr.alloc (.cells #[.int .i64 fs[k].kind, .int .i64 fs[k].lever] 41)) := (Below.refl _ _).alloc (Nat.le_refl _) _
      have x1 := cell_regrown (show (wr.alloc (.cells #[.int .i64 fs[k].kind, .int .i64 fs[k].lever] 41)).cell? ⟨wr.heap.size, 0, none⟩ = some (.int .i64 fs[k].kind) by go_simp)
      have x2 := cell_regrown (show (wr.alloc (.cells #[.int .i64 fs[k].kind, .int .i64 fs[k].lever] 41)).cell? ⟨wr.heap.size, 1, none⟩ = some (.int .i64 fs[k].lever) by go_simp)
      rcases Nat.eq_zero_or_pos k with hk0 | hk0
      · subst hk0
        rw [Nat.zero_mul, addr_add_zero] at f1 f2
        subst hA
        go_wp2_with fail
        refine wp_region_quiet_below (by kernel_rfl) (by kernel_rfl) ?_
        repeat (go_big_quiet_step ((go_at_call 97; exact quietB (fun W _ => KF.out W))))
        refine wpQuiet_nil ?_
        intro W1 hw'
        have hB1 : Below wr.heap.size wr W1 := by
          obtain ⟨⟨dq, osq⟩, hw''⟩ := hw'
          rw [hw'']; exact hfb.trans ((below_regrown _ dq osq).mono hfb.size)
        clear hw'
        go_wp2
        go_roundw
        case rel => exact ⟨1, by omega, by go_num, hbr.trans (hB1.mono hbr.size)⟩
        case measure => simp [intOf]; omega
      · obtain ⟨ad', hA', -, hkl', g1, g2⟩ := (hr.below steady_FltM hbr).at_ (show k - 1 < m by omega)
        obtain rfl : ad = ad' := by rw [hA] at hA'; injection hA'
        clear hA'
        have hasc := ha (k - 1) (by omega)
        have he : fs[k - 1 + 1] = fs[k] := by congr 1; omega
        rw [he] at hasc
        obtain ⟨lv, hlv⟩ : ∃ lv, lv = fs[k - 1].lever := ⟨_, rfl⟩
        rw [← hlv] at g2 hasc
        clear hlv he g1
        have y2 := cell_regrown ((hfb.cell (by rw [show (⟨(ad.add ((k - 1) * 2)).block, (ad.add ((k - 1) * 2)).off + 1, none⟩ : Addr).block = ad.block from block_of_add _ _]; exact hlt)).trans g2)
        have hd : decide ((0 : Int) < (k : Int)) = true := decide_eq_true (by omega)
        have hd2 : decide (fs[k].lever ≤ lv) = false := decide_eq_false (by omega)
        have hi2 : (0 : Int) < (k : Int) := by omega
        subst hA
        go_wp2_with fail
        refine wp_region_quiet_below (by kernel_rfl) (by kernel_rfl) ?_
        repeat (go_big_quiet_step ((go_at_call 97; exact quietB (fun W _ => KF.out W))))
        refine wpQuiet_nil ?_
        intro W1 hw'
        have hB1 : Below wr.heap.size wr W1 := by
          obtain ⟨⟨dq, osq⟩, hw''⟩ := hw'
          rw [hw'']; exact hfb.trans ((below_regrown _ dq osq).mono hfb.size)
        clear hw'
        go_wp2
        go_roundw
        case rel => exact ⟨k + 1, by omega, by go_num, hbr.trans (hB1.mono hbr.size)⟩
        case measure => simp [intOf]; omega
    · have K1 : betB (n : Int) 1 16 = true := betB_iff.2 ⟨by omega, by omega⟩
      have KK := Lib.hid K1; clear K1
      go_wp2_with (go_at_call 95; refine (isRegisterWidth_any _ _).mono ?_; rintro e w' ⟨rfl, rfl⟩; rw [KK.out])
      go_ret
      exact ⟨rfl, hbr⟩
end Go.Proofs.Ytmnegfhigfipbaa
