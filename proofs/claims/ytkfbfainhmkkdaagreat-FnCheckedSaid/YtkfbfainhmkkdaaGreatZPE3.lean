/- For every input the law FnChecked returns true and leaves its arguments as they were: no input before the first failure fails, there are failures just if there is a first one, and each input is checked alone with the same result. No condition. -/
import Derived.Test.YtkfbfainhmkkdaaGreatZC1
import Derived.Test.YtkfbfainhmkkdaaGreatZC2
import Derived.Test.YtkfbfainhmkkdaaGreatZC3
import Derived.Test.YtkfbfainhmkkdaaGreatZC4
import Derived.Test.YtkfbfainhmkkdaaGreatZC5
import Derived.Test.YtkfbfainhmkkdaaGreatZC6
import Derived.Test.YtkfbfainhmkkdaaGreatZC7
import Derived.Test.YtkfbfainhmkkdaaGreatZC8
import Derived.Test.YtkfbfainhmkkdaaGreatZC9
import Derived.Test.YtkfbfainhmkkdaaGreatZC10
import Derived.Test.YtkfbfainhmkkdaaGreatZC11
import Derived.Test.YtkfbfainhmkkdaaGreatZC12
import Derived.ProofKit
import Derived.Carry
import Derived.OpenShut
import Derived.ChangeMaps5
import Derived.Deep.DeepHandedRow
import Derived.Lib.LaidTab
namespace Go.Proofs.YtkfbfainhmkkdaaGreat
open Go.RowKit Go.Sort
/-! the promises, plainly -/
theorem failsL_nil {q : Nat → Bool} {N : Nat} (h : failsL q N = []) : ∀ i, i < N → q i = false := by
  induction N with
  | zero => intro i hi; omega
  | succ N ih =>
    intro i hi
    rw [failsL_succ] at h
    split at h
    · simp at h
    · rename_i hq
      rcases Nat.lt_or_ge i N with h2 | h2
      · exact ih h i h2
      · obtain rfl : i = N := by omega
        simpa using hq
theorem failsL_head {q : Nat → Bool} {N : Nat} (h : failsL q N ≠ []) : ∃ f : Nat, f < N ∧ (failsL q N).headD 0 = f ∧ q f = true ∧ ∀ i, i < f → q i = false := by
  induction N with
  | zero => exact absurd rfl h
  | succ N ih =>
    by_cases h0 : failsL q N = []
    · rw [failsL_succ, h0] at h ⊢
      split at h
      · rename_i hq
        rw [if_pos hq]
        exact ⟨N, by omega, rfl, hq, failsL_nil h0⟩
      · exact absurd rfl h
    · obtain ⟨f, hf, hh, hq, hlt⟩ := ih h0
      refine ⟨f, by omega, ?_, hq, hlt⟩
      rw [failsL_succ]
      split
      · cases hl : failsL q N with
        | nil => exact absurd hl h0
        | cons y ys => rw [hl] at hh; exact hh
      · exact hh
theorem inC_one {b : Int} {n1 n2 n3 : Nat} (hB : NmB b n1 n2 n3) (hbig : ¬ 256 < pw b n1 * pw b n2) : inC b n1 n2 1 = 0 := by
  have hv := hB.hv
  obtain ⟨k1, k2, k3, e1, e2, f1, f2, l1, c0, c1⟩ := vmach_all hv
  simp only [newT, digD_len] at f1 f2 l1
  have hpb := pw_pos b hB.b1 1
  have hp1 : pw b 1 = b := by simp [pw]
  have b2 := hB.b2
  have hm : vmach (newT b n1 n2 1) = true := by
    refine vmach_mk (t := newT b n1 n2 1) k1 k2 (digD_vreg b hB.b1 hB.b2 1 (by omega) (by omega) 0 (by omega) (by omega) (by omega)) rfl rfl ?_ ?_ ?_ (Int.le_refl 0) ?_
    · simp only [newT, digD_len]; exact f1
    · simp only [newT, digD_len]; omega
    · simp only [newT, digD_len]; exact l1
    · simp only [newT, vplaces, digD_len]; omega
  have hn : nmOk b n1 n2 1 = true := by
    unfold nmOk
    rw [show (1 : Int).toNat = 1 from rfl, Int.toNat_natCast, Int.toNat_natCast, hm, betB_iff.2 (show (2 : Int) ≤ b ∧ b ≤ 16 from ⟨hB.b1, b2⟩), betB_iff.2 (show (1 : Int) ≤ (n1 : Int) ∧ (n1 : Int) ≤ 16 by have := hB.h1; have := hB.h1'; omega), betB_iff.2 (show (1 : Int) ≤ (n2 : Int) ∧ (n2 : Int) ≤ 16 by have := hB.h2; have := hB.h2'; omega), betB_iff.2 (show (1 : Int) ≤ 1 ∧ (1 : Int) ≤ 16 by decide)]
    rfl
  have := inC_fine (b := b) (n1 := n1) (n2 := n2) (n3 := 1) hn hbig
  exact this
/-- what the law asks of a promise that is checked -/
theorem chk_law {b z1 z2 z3 kind arg : Int} {L : List Ins} (h : pC b z1 z2 z3 L kind arg = 0) :
    ∃ (n1 n2 n3 N : Nat) (q : Nat → Bool), z1 = n1 ∧ z2 = n2 ∧ z3 = n3 ∧ N ≤ 256 ∧ inC b n1 n2 1 = 0 ∧ ioV b n1 n2 = N ∧ cfV b n1 n2 n3 L kind arg = ((failsL q N).length : Int) ∧
      ((failsL q N = [] ∧ ffC b n1 n2 n3 L kind arg = 3) ∨ (failsL q N ≠ [] ∧ ffC b n1 n2 n3 L kind arg = 0 ∧ ∃ f : Nat, ffV b n1 n2 n3 L kind arg = f ∧ q f = true ∧ ∀ i, i < f → q i = false)) ∧
      ∀ k : Nat, k < N → iaC b n1 n2 n3 k = 0 ∧ kqC L (iaM b n1 n2 n3 k) kind arg = 0 ∧ kqB L (iaM b n1 n2 n3 k) kind arg = !q k := by
  rcases pC_cases b z1 z2 z3 L kind arg with hb | ⟨h0, hL, hp, n1, n2, n3, N, rfl, rfl, rfl, hB, hbig, hN, hN2⟩
  · exact absurd h hb
  · have hi : inC b n1 n2 n3 = 0 := by
      unfold pC at h0
      rw [if_neg (by rw [hL]; decide), if_neg (by rw [hp]; decide)] at h0
      exact h0
    obtain ⟨g1, g2, g3⟩ := ff_fine h0 hN
    have h1 := inC_one hB hbig
    refine ⟨n1, n2, n3, N, badB L b n1 n2 n3 kind arg, rfl, rfl, rfl, hN2, h1, by rw [io_fine h1, hN], g3, ?_, fun k hk => ?_⟩
    · by_cases hn : failsL (badB L b n1 n2 n3 kind arg) N = []
      · rw [if_pos hn] at g2
        exact .inl ⟨hn, g2⟩
      · rw [if_neg hn] at g2
        obtain ⟨f, -, hh, hq, hlt⟩ := failsL_head hn
        exact .inr ⟨hn, g2, f, by rw [g1]; exact hh, hq, hlt⟩
    · obtain ⟨m1, m2⟩ := ia_fine (k := k) hi (betB_iff.2 (show 0 ≤ (k : Int) ∧ (k : Int) ≤ pw b n1 * pw b n2 - 1 by omega))
      have hok : vmach (atT b n1 n2 n3 k) = true := atT_ok hB (by omega) (by omega)
      have hkc : kqC L (atT b n1 n2 n3 k) kind arg = 0 := by
        unfold kqC
        rw [hok, hL, hp]
        rfl
      refine ⟨m2, by rw [m1]; exact hkc, ?_⟩
      rw [m1, (kq_fine hkc).1]
      show _ = !badB L b n1 n2 n3 kind arg k
      unfold badB
      rw [Bool.not_not]
def pname (k : Int) : ByteArray := if k = 1 then ⟨#[116, 105, 109, 101, 115]⟩ else if k = 2 then ⟨#[113, 117, 111, 116, 105, 101, 110, 116]⟩ else if k = 3 then ⟨#[107, 101, 101, 112]⟩ else if k = 4 then ⟨#[122, 101, 114, 111]⟩ else ⟨#[]⟩
theorem pname_none {k : Int} (h : ¬ (1 ≤ k ∧ k ≤ 4)) : pname k = ⟨#[]⟩ := by
  unfold pname
  rw [if_neg (by omega), if_neg (by omega), if_neg (by omega), if_neg (by omega)]
set_option maxHeartbeats 800000 in
theorem PromiseName_any (k : Int) (w : World) : Calls Tryz.prog 30 #[.int .i64 k] w fun e w' => e = .returned (.string (pname k)) ∧ Below w.heap.size w w' := by
  by_cases h : 1 ≤ k ∧ k ≤ 4
  · have h' : k = 1 ∨ k = 2 ∨ k = 3 ∨ k = 4 := by omega
    clear h
    rcases h' with rfl | rfl | rfl | rfl
    all_goals
      go_enter Tryz.func30, Tryz.ntmps30
      go_wp2_with fail
      go_ret
      exact ⟨rfl, Below.refl _ _⟩
  · rw [pname_none h]
    have e1 : (k == 1) = false := by simp; omega
    have e2 : (k == 2) = false := by simp; omega
    have e3 : (k == 3) = false := by simp; omega
    have e4 : (k == 4) = false := by simp; omega
    go_enter Tryz.func30, Tryz.ntmps30
    go_wp2_with fail
    go_ret
    exact ⟨rfl, Below.refl _ _⟩
set_option maxHeartbeats 800000 in
theorem specPromiseName_any (k : Int) (w : World) : Calls Tryz.prog 31 #[.int .i64 k] w fun e w' => e = .returned (.string (pname k)) ∧ Below w.heap.size w w' := by
  by_cases h : 1 ≤ k ∧ k ≤ 4
  · have h' : k = 1 ∨ k = 2 ∨ k = 3 ∨ k = 4 := by omega
    clear h
    rcases h' with rfl | rfl | rfl | rfl
    all_goals
      go_enter Tryz.func31, Tryz.ntmps31
      go_wp2_with (go_at_call 91; refine (l14Kind_any _ _).mono ?_; rintro e w' ⟨rfl, rfl⟩)
      go_ret
      exact ⟨rfl, (Below.refl _ _).alloc (Nat.le_refl _) _⟩
  · rw [pname_none h]
    have hb : betB k 1 4 = false := by
      cases hb : betB k 1 4 with
      | false => rfl
      | true => exact absurd (betB_iff.1 hb) h
    have KK := (fun W => l14Kind_any k W)
    rw [hb] at KK
    have KK := Lib.hid KK
    clear hb h
    go_enter Tryz.func31, Tryz.ntmps31
    go_wp2_with (go_at_call 91; refine (KK.out _).mono ?_; rintro e w' ⟨rfl, rfl⟩)
    go_ret
    exact ⟨rfl, (Below.refl _ _).alloc (Nat.le_refl _) _⟩
set_option maxHeartbeats 800000 in
theorem DrawPromiseName_any (A : Option Addr) (n c : Nat) (bs : List UInt8) (w : World) (hb : RB w A n bs) (hn : n ≤ 9223372036854775807) :
    Calls Tryz.prog 29 #[.slice A n c] w fun e w' => ∃ x : Int, e = .returned (.int .i64 x) ∧ Below w.heap.size w w' := by
  have HB := Lib.hid hb
  clear hb
  go_enter Tryz.func29, Tryz.ntmps29
  go_wp2_with fail
  refine (l00From_any A n c bs w HB.out hn).mono ?_; rintro e w0 ⟨rfl, hs, hb2⟩
  have D0 := DR.nil hs
  clear HB hs
  go_wp2_with fail
  refine (pick_dr _ _ 7 w0 D0.src (by omega)).mono ?_; rintro e w1 ⟨p, rfl, hp, h1⟩
  have K := ((Kn.nil w).join (Kn.ofDR hb2 (Nat.le_refl _) (D0.add h1))).below
  clear D0 h1 hb2
  go_wp2_with fail
  go_ret
  exact ⟨_, rfl, K⟩
set_option maxRecDepth 100000 in
set_option maxHeartbeats 12800000 in
theorem law_Checked (A : Option Addr) (n c : Nat) (bs : List UInt8) (w : World) (hb : RB w A n bs) (hn : n ≤ 9223372036854775807) :
    Calls Tryz.prog 4 #[.slice A n c] w fun e w' => e = .returned (.bool true) ∧ Below w.heap.size w w' := by
  have KD := Lib.hid (DrawCountFailures_any A n c bs w hb hn)
  have KK := Lib.hid (fun W (hW : Below w.heap.size w W) => DrawKeepsPromise_any A n c bs W (hb.below hW) hn)
  have KN := Lib.hid (fun W (hW : Below w.heap.size w W) => DrawPromiseName_any A n c bs W (hb.below hW) hn)
  clear hb
  have KG := (fun W => f6bigP_any A n c W)
  obtain ⟨bg, hbg⟩ : ∃ b, decide ((n : Int) > 4096) = b := ⟨_, rfl⟩
  rw [hbg] at KG
  replace KG := Lib.hid KG
  clear hbg
  rcases bg with _ | _
  rotate_left
  · go_enter Tryz.func4, Tryz.ntmps4
    go_wp2_with (go_at_call 6; refine (KG.out _).mono ?_; rintro e w' ⟨rfl, hww⟩; obtain rfl := hww.symm)
    go_ret
    exact ⟨rfl, Below.refl _ _⟩
  go_enter Tryz.func4, Tryz.ntmps4
  go_wp2_with (go_at_call 6; refine (KG.out _).mono ?_; rintro e w' ⟨rfl, hww⟩; obtain rfl := hww.symm)
  refine KD.out.mono ?_; rintro e w1 ⟨x1, x2, x3, x4, x5, x6, B, d, L, rfl, hll, K1⟩
  clear KD
  have KA := (fun W hr => CountFailures_any (L := L) (n := L.length) (lc := d) (LA := B) x1 x2 x3 x4 x5 x6 W hr (by omega))
  have KB := (fun W hr => specCountFailures_any (L := L) (n := L.length) (lc := d) (LA := B) x1 x2 x3 x4 x5 x6 W hr (by omega))
  have KC := (fun W hr => FirstFailure_any (L := L) (n := L.length) (lc := d) (LA := B) x1 x2 x3 x4 x5 x6 W hr (by omega))
  have KE := (fun W hr => specFirstFailure_any (L := L) (n := L.length) (lc := d) (LA := B) x1 x2 x3 x4 x5 x6 W hr (by omega))
  have HQ := (fun h : pC x1 x2 x3 x4 L x5 x6 = 0 => chk_law h)
  unfold CFRet at KA KB
  unfold FFRet at KC KE
  obtain ⟨nv, hnv⟩ : ∃ v, cfV x1 x2 x3 x4 L x5 x6 = v := ⟨_, rfl⟩
  obtain ⟨pc, hpc⟩ : ∃ v, pC x1 x2 x3 x4 L x5 x6 = v := ⟨_, rfl⟩
  obtain ⟨fv, hfv⟩ : ∃ v, ffV x1 x2 x3 x4 L x5 x6 = v := ⟨_, rfl⟩
  obtain ⟨fc, hfc⟩ : ∃ v, ffC x1 x2 x3 x4 L x5 x6 = v := ⟨_, rfl⟩
  have HQ2 := Lib.hid (show pc = 0 → ∃ (n1 n2 n3 N : Nat) (q : Nat → Bool), x2 = n1 ∧ x3 = n2 ∧ x4 = n3 ∧ N ≤ 256 ∧ inC x1 n1 n2 1 = 0 ∧ ioV x1 n1 n2 = N ∧ nv = ((failsL q N).length : Int) ∧
      ((failsL q N = [] ∧ fc = 3) ∨ (failsL q N ≠ [] ∧ fc = 0 ∧ ∃ f : Nat, fv = f ∧ q f = true ∧ ∀ i, i < f → q i = false)) ∧
      ∀ k : Nat, k < N → iaC x1 n1 n2 n3 k = 0 ∧ kqC L (iaM x1 n1 n2 n3 k) x5 x6 = 0 ∧ kqB L (iaM x1 n1 n2 n3 k) x5 x6 = !q k from by
    intro h
    rw [← hpc] at h
    obtain ⟨n1, n2, n3, N, q, e1, e2, e3, g1, g2, g3, g4, g5, g6⟩ := HQ h
    rw [← e1, ← e2, ← e3, hnv] at g4
    rw [← e1, ← e2, ← e3, hfv, hfc] at g5
    exact ⟨n1, n2, n3, N, q, e1, e2, e3, g1, g2, g3, g4, g5, g6⟩)
  simp only [hnv, hpc] at KA KB
  simp only [hfv, hfc] at KC KE
  have KA := Lib.hid KA
  have KB := Lib.hid KB
  have KC := Lib.hid KC
  have KE := Lib.hid KE
  clear hnv hpc hfv hfc HQ
  go_wp2_with fail
  refine (KA.out _ (Kn.rlIns K1).2).mono ?_; rintro e w2 ⟨rfl, hw⟩
  have K2 := K1.keep hw
  clear KA hw K1
  go_wp2_with fail
  refine (KB.out _ (Kn.rlIns K2).2).mono ?_; rintro e w3 ⟨rfl, hw⟩
  have K3 := K2.keep hw
  clear KB hw K2
  go_wp2_with fail
  refine (KC.out _ (Kn.rlIns K3).2).mono ?_; rintro e w4 ⟨rfl, hw⟩
  have K4 := K3.keep hw
  clear KC hw K3
  go_wp2_with fail
  refine (KE.out _ (Kn.rlIns K4).2).mono ?_; rintro e w5 ⟨rfl, hw⟩
  have K5 := K4.keep hw
  clear KE hw K4
  go_wp2_with fail
  refine (KK.out _ K5.below).mono ?_; rintro e w6 ⟨t, A1, c1, A2, c2, A3, c3, PB, pd, PL, y1, y2, rfl, ⟨hl, hpl⟩, hK⟩
  have K6 := K5.join hK
  clear KK hK K5
  have hs : SmallTri t := ⟨by unfold SmallReg; omega, by unfold SmallReg; omega, by unfold SmallReg; omega⟩
  have KA := (fun W r1 r2 r3 hr => KeepsPromise_any (L := PL) (n := PL.length) (lc := pd) (LA := PB) t A1 A2 A3 c1 c2 c3 y1 y2 W r1 r2 r3 hs hr (by omega))
  have KB := (fun W r1 r2 r3 hr => specKeepsPromise_any (L := PL) (n := PL.length) (lc := pd) (LA := PB) t A1 A2 A3 c1 c2 c3 y1 y2 W r1 r2 r3 hs hr (by omega))
  unfold KQRet at KA KB
  obtain ⟨kv, hkv⟩ : ∃ v, kqB PL t y1 y2 = v := ⟨_, rfl⟩
  obtain ⟨kc, hkc⟩ : ∃ v, kqC PL t y1 y2 = v := ⟨_, rfl⟩
  simp only [hkv, hkc] at KA KB
  have KA := Lib.hid KA
  have KB := Lib.hid KB
  clear hkv hkc hs hl hpl
  obtain ⟨g, hg⟩ : ∃ g, w6.heap.size = g := ⟨_, rfl⟩
  go_wp2_with fail
  refine Calls.kn (K6.al [.int .i64 t.a.base, .slice A1 t.a.digits.length c1, .int .i64 t.b.base, .slice A2 t.b.digits.length c2, .int .i64 t.s.base, .slice A3 t.s.digits.length c3, .int .i64 t.carry] 28) ?_; intro w7 K7
  rw [hg] at K7
  try rw [hg]
  clear K6 hg
  refine (KA.out _ (K7.front 3 rfl).riv (K7.front 2 rfl).riv (K7.front 1 rfl).riv (Kn.rlIns (K7.front 4 rfl)).2).mono ?_; rintro e w8 ⟨rfl, hw⟩
  have K8 := K7.keep hw
  clear KA hw K7
  obtain ⟨a1, a2, a3, -⟩ := K8.cells
  go_wp2_with fail
  refine (KB.out _ (K8.front 3 rfl).riv (K8.front 2 rfl).riv (K8.front 1 rfl).riv (Kn.rlIns (K8.front 4 rfl)).2).mono ?_; rintro e w9 ⟨rfl, hw⟩
  have K9 := (K8.keep hw).sel [5] 99 (by decide) (by decide)
  clear KB hw K8 a1 a2 a3
  go_wp2_with fail
  refine (KN.out _ K9.below).mono ?_; rintro e w10 ⟨pk, rfl, hw⟩
  have K10 := K9.keep hw
  clear KN hw K9
  have KA := (fun W => PromiseName_any pk W)
  have KB := (fun W => specPromiseName_any pk W)
  obtain ⟨nm, hnm⟩ : ∃ v, pname pk = v := ⟨_, rfl⟩
  rw [hnm] at KA KB
  have KA := Lib.hid KA
  have KB := Lib.hid KB
  clear hnm
  go_wp2_with fail
  refine (KA.out _).mono ?_; rintro e w11 ⟨rfl, hw⟩
  have K11 := K10.keep hw
  clear KA hw K10
  go_wp2_with fail
  refine (KB.out _).mono ?_; rintro e w12 ⟨rfl, hw⟩
  have K12 := K11.keep hw
  clear KB hw K11
  go_upto_region 14 with fail
  by_cases hp : pc = 0
  rotate_left
  · have hp1 : (pc != 0) = true := by simpa using hp
    have hp2 : (pc == 0) = false := by simpa using hp
    clear HQ2
    go_wp2_with fail
    go_ret
    exact ⟨rfl, K12.below⟩
  obtain ⟨n1, n2, n3, N, q, rfl, rfl, rfl, hN, hi1, hio, hnv, hff, hr⟩ := HQ2.out hp
  have HR := Lib.hid hr
  have KI := (fun W => InputsOf_any x1 n1 n2 W)
  rw [hio, hi1] at KI
  have KI := Lib.hid KI
  have hlN := failsL_len q N
  clear HQ2 hr hi1 hio
  subst hp
  subst hnv
  have hle : ¬ ((failsL q N).length : Int) > (N : Int) := by omega
  have hle2 : ¬ N < (failsL q N).length := by omega
  rcases hff with ⟨hnil, rfl⟩ | ⟨hnil, rfl, f, rfl, hqf, hqlt⟩
  · have hz : (failsL q N).length = 0 := by rw [hnil]; rfl
    go_wp2_with fail
    refine (KI.out _).mono ?_; rintro e w13 ⟨rfl, hw⟩
    have K27 := K12.keep hw
    clear K12 hw KI hnil
    go_wp2_with fail
    go_loopw [29, 30] (fun vv ii wr => ∃ k : Nat, k ≤ N ∧ ii = .int .i64 k ∧ vv = .int .i64 ((failsL q k).length : Int) ∧ Kn w [rowIns (.slice B L.length d) L] wr) (fun _ ii _ => N - (intOf ii).toNat)
    case atStart => exact ⟨0, Nat.zero_le _, rfl, rfl, K27⟩
    case round =>
      obtain ⟨k, hk, rfl, rfl, hK⟩ := hrel
      clear K27
      by_cases hkn : k < N
      · obtain ⟨r1, r2, r3⟩ := HR.out k hkn
        have hsc := failsL_succ q k
        have hln := failsL_len q k
        have KA := (fun W => specInputAt_any x1 n1 n2 n3 (k : Int) W)
        unfold IARet MCRet at KA
        rw [r1] at KA
        obtain ⟨M, hM⟩ : ∃ M, iaM x1 n1 n2 n3 k = M := ⟨_, rfl⟩
        rw [hM] at KA r2 r3
        have KP := (fun E1 E2 E3 f1 f2 f3 W r1 r2 r3 hs hr => KeepsPromise_any (L := L) (n := L.length) (lc := d) (LA := B) M E1 E2 E3 f1 f2 f3 x5 x6 W r1 r2 r3 hs hr (by omega))
        unfold KQRet at KP
        rw [r2, r3] at KP
        have KA := Lib.hid KA
        have KP := Lib.hid KP
        have hi1 : (k : Int) < (N : Int) := by omega
        obtain ⟨l, hl⟩ : ∃ l, (failsL q k).length = l := ⟨_, rfl⟩
        rw [hl] at hln ⊢
        clear r1 r2 r3 hM
        go_wp2_with fail
        refine (KA.out _).mono ?_; rintro e w28 ⟨E1, f1, E2, f2, E3, f3, rfl, hK2⟩
        have K28 := hK.join hK2
        clear KA hK2 hK
        obtain ⟨g9, hg9⟩ : ∃ g, w28.heap.size = g := ⟨_, rfl⟩
        go_wp2_with fail
        refine Calls.kn (K28.al [.int .i64 M.a.base, .slice E1 M.a.digits.length f1, .int .i64 M.b.base, .slice E2 M.b.digits.length f2, .int .i64 M.s.base, .slice E3 M.s.digits.length f3, .int .i64 M.carry] 28) ?_; intro w29 K29
        rw [hg9] at K29
        try rw [hg9]
        clear K28 hg9
        have hsm : SmallTri M := ⟨Kn.rowSmall (K29.front 3 rfl), Kn.rowSmall (K29.front 2 rfl), Kn.rowSmall (K29.front 1 rfl)⟩
        refine (KP.out E1 E2 E3 f1 f2 f3 _ (K29.front 3 rfl).riv (K29.front 2 rfl).riv (K29.front 1 rfl).riv hsm (Kn.rlIns (K29.front 4 rfl)).2).mono ?_; rintro e w30 ⟨rfl, hw⟩
        have K32 := (K29.keep hw).sel [4] 99 (by decide) (by decide)
        clear K29 hw hsm KP
        rcases hq : q k with _ | _
        · rw [hq] at hsc
          have hv : (Value.int .i64 (l : Int)) = .int .i64 ((failsL q (k + 1)).length : Int) := by rw [hsc, if_neg (by decide), hl]
          have HV := Lib.hid hv
          have hqk := Lib.hid hq
          clear hv hsc hq hl
          go_wp2_with fail
          go_roundw
          case rel => exact ⟨k + 1, by omega, by go_num, HV.out, K32⟩
          case measure => simp [intOf]; omega
        · rw [hq] at hsc
          have hv : (Value.int .i64 ((l : Int) + 1)) = .int .i64 ((failsL q (k + 1)).length : Int) := by rw [hsc, if_pos rfl, List.length_append, hl]; rfl
          have HV := Lib.hid hv
          have hqk := Lib.hid hq
          clear hv hsc hq hl
          go_wp2_with fail
          go_roundw
          case rel => exact ⟨k + 1, by omega, by go_num, HV.out, K32⟩
          case measure => simp [intOf]; omega
      · obtain rfl : k = N := by omega
        have hi1 : ¬ (k : Int) < (k : Int) := by omega
        go_wp2_with fail
        go_ret
        exact ⟨by simp, hK.below⟩
  · have hz : (failsL q N).length ≠ 0 := fun h => hnil (List.length_eq_zero_iff.1 h)
    have HQF := Lib.hid hqf
    have HQL := Lib.hid hqlt
    clear hqf hqlt
    go_wp2_with fail
    refine (KI.out _).mono ?_; rintro e w13 ⟨rfl, hw⟩
    have K27 := K12.keep hw
    clear K12 hw KI hnil
    go_wp2_with fail
    clear hz hle hle2 hlN
    go_loopw [29, 30] (fun vv ii wr => ∃ k : Nat, k ≤ N ∧ ii = .int .i64 k ∧ vv = .int .i64 ((failsL q k).length : Int) ∧ Kn w [rowIns (.slice B L.length d) L] wr) (fun _ ii _ => N - (intOf ii).toNat)
    case atStart => exact ⟨0, Nat.zero_le _, rfl, rfl, K27⟩
    case round =>
      obtain ⟨k, hk, rfl, rfl, hK⟩ := hrel
      clear K27
      by_cases hkn : k < N
      · obtain ⟨r1, r2, r3⟩ := HR.out k hkn
        have hsc := failsL_succ q k
        have hln := failsL_len q k
        have KA := (fun W => specInputAt_any x1 n1 n2 n3 (k : Int) W)
        unfold IARet MCRet at KA
        rw [r1] at KA
        obtain ⟨M, hM⟩ : ∃ M, iaM x1 n1 n2 n3 k = M := ⟨_, rfl⟩
        rw [hM] at KA r2 r3
        have KP := (fun E1 E2 E3 f1 f2 f3 W r1 r2 r3 hs hr => KeepsPromise_any (L := L) (n := L.length) (lc := d) (LA := B) M E1 E2 E3 f1 f2 f3 x5 x6 W r1 r2 r3 hs hr (by omega))
        unfold KQRet at KP
        rw [r2, r3] at KP
        have KA := Lib.hid KA
        have KP := Lib.hid KP
        have hi1 : (k : Int) < (N : Int) := by omega
        obtain ⟨l, hl⟩ : ∃ l, (failsL q k).length = l := ⟨_, rfl⟩
        rw [hl] at hln ⊢
        clear r1 r2 r3 hM
        go_wp2_with fail
        refine (KA.out _).mono ?_; rintro e w28 ⟨E1, f1, E2, f2, E3, f3, rfl, hK2⟩
        have K28 := hK.join hK2
        clear KA hK2 hK
        obtain ⟨g9, hg9⟩ : ∃ g, w28.heap.size = g := ⟨_, rfl⟩
        go_wp2_with fail
        refine Calls.kn (K28.al [.int .i64 M.a.base, .slice E1 M.a.digits.length f1, .int .i64 M.b.base, .slice E2 M.b.digits.length f2, .int .i64 M.s.base, .slice E3 M.s.digits.length f3, .int .i64 M.carry] 28) ?_; intro w29 K29
        rw [hg9] at K29
        try rw [hg9]
        clear K28 hg9
        have hsm : SmallTri M := ⟨Kn.rowSmall (K29.front 3 rfl), Kn.rowSmall (K29.front 2 rfl), Kn.rowSmall (K29.front 1 rfl)⟩
        refine (KP.out E1 E2 E3 f1 f2 f3 _ (K29.front 3 rfl).riv (K29.front 2 rfl).riv (K29.front 1 rfl).riv hsm (Kn.rlIns (K29.front 4 rfl)).2).mono ?_; rintro e w30 ⟨rfl, hw⟩
        have K32 := (K29.keep hw).sel [4] 99 (by decide) (by decide)
        clear K29 hw hsm KP
        rcases hq : q k with _ | _
        · rw [hq] at hsc
          have hv : (Value.int .i64 (l : Int)) = .int .i64 ((failsL q (k + 1)).length : Int) := by rw [hsc, if_neg (by decide), hl]
          have HV := Lib.hid hv
          have hqk := Lib.hid hq
          clear hv hsc hq hl
          have hkf : ¬ k = f := fun h => by have h2 := HQF.out; rw [← h, hqk.out] at h2; cases h2
          by_cases hlt : (k : Int) < (f : Int)
          · go_wp2_with fail
            go_roundw
            case rel => exact ⟨k + 1, by omega, by go_num, HV.out, K32⟩
            case measure => simp [intOf]; omega
          · have hne : ((k : Int) == (f : Int)) = false := beq_eq_false_iff_ne.2 (by omega)
            go_wp2_with fail
            go_roundw
            case rel => exact ⟨k + 1, by omega, by go_num, HV.out, K32⟩
            case measure => simp [intOf]; omega
        · rw [hq] at hsc
          have hv : (Value.int .i64 ((l : Int) + 1)) = .int .i64 ((failsL q (k + 1)).length : Int) := by rw [hsc, if_pos rfl, List.length_append, hl]; rfl
          have HV := Lib.hid hv
          have hqk := Lib.hid hq
          clear hv hsc hq hl
          have hge : ¬ (k : Int) < (f : Int) := fun h => by have h2 := HQL.out k (by omega); rw [hqk.out] at h2; cases h2
          by_cases he : (k : Int) = (f : Int)
          · have hne : ((k : Int) == (f : Int)) = true := beq_iff_eq.2 he
            go_wp2_with fail
            go_roundw
            case rel => exact ⟨k + 1, by omega, by go_num, HV.out, K32⟩
            case measure => simp [intOf]; omega
          · have hne : ((k : Int) == (f : Int)) = false := beq_eq_false_iff_ne.2 he
            go_wp2_with fail
            go_roundw
            case rel => exact ⟨k + 1, by omega, by go_num, HV.out, K32⟩
            case measure => simp [intOf]; omega
      · obtain rfl : k = N := by omega
        have hi1 : ¬ (k : Int) < (k : Int) := by omega
        go_wp2_with fail
        go_ret
        exact ⟨by simp, hK.below⟩
end Go.Proofs.YtkfbfainhmkkdaaGreat

namespace Go.Proofs.YtkfbfainhmkkdaaGreat
open Go.RowKit Go.ChangeShapes Go.WideShapes Go.ChangeAt
section
variable {H : Type} {enc : TypeId × Value → H} {w : World} {base : Nat} {spare : Nat → Bool} {held : Bool} {fuel : Nat} {cs : List Value} {x : DataW H × List MemPlace}
theorem cellsU8 : Tryz.prog.cellsOf 5 = 1 := by kernel_rfl
theorem byteV_of (z : Int) (h0 : 0 ≤ z) (h1 : z ≤ 255) : Value.int .u8 z = byteV (UInt8.ofNat z.toNat) := by
  unfold byteV
  congr 1
  rw [UInt8.toNat_ofNat']
  omega
theorem rd_bytes (h : DataW.trod enc Tryz.prog w base spare held fuel 22 cs = some x) : ∃ A n c bs, cs = [.slice A n c] ∧ RB w A n bs ∧ n ≤ 9223372036854775807 := by
  rcases open_ints Tryz.underlying22 Tryz.underlying5 cellsU8 h with ⟨rfl, _⟩ | ⟨a, len, cap, zs, rfl, _, hl, hm, hz, _, hcell, hwf⟩
  · exact ⟨none, 0, 0, [], rfl, ⟨rfl, fun h => absurd h (by omega)⟩, by omega⟩
  · have hlen : len ≤ zs.length := by rw [hz]; split <;> omega
    have hw : ∀ z ∈ zs, 0 ≤ z ∧ z ≤ 255 := fun z hz => by
      have h := hwf z hz
      have h1 : IntKind.u8.min = 0 := by decide
      have h2 : IntKind.u8.max = 255 := by decide
      simp [Lit.wf] at h
      omega
    refine ⟨some a, len, cap, (zs.take len).map (fun z => UInt8.ofNat z.toNat), rfl, ⟨by simp; omega, fun h0 => ⟨a, rfl, ?_, fun j u hu => ?_⟩⟩, by simp only [maxLen] at hm; omega⟩
    · have := World.block_lt_of_cell? w _ (hcell 0 (by omega)); rwa [block_of_add] at this
    · rw [List.getElem?_map, List.getElem?_take] at hu
      split at hu
      · have hj : j < zs.length := by omega
        rw [List.getElem?_eq_getElem hj] at hu
        have hu' : UInt8.ofNat zs[j].toNat = u := by simpa using hu
        obtain ⟨z0, z1⟩ := hw zs[j] (List.getElem_mem _)
        rw [hcell j hj, ← hu', ← byteV_of _ z0 z1]
        simp [List.getD, List.getElem?_eq_getElem hj]
      · simp at hu
end
end Go.Proofs.YtkfbfainhmkkdaaGreat

namespace Go.Proofs.YtkfbfainhmkkdaaGreat.fnChecked
open Go.ChangeShapes Go.WideShapes Go.ChangeAt Go.RowKit
theorem own : ownKnob Tryz.prog.godebug = none := by kernel_rfl
theorem laidOut : laidOutB Tryz.prog = true := by kernel_rfl
set_option maxRecDepth 100000 in
theorem contract (H : Type) (enc : TypeId × Value → H) (W : World) (base : Nat) (args : Array Value) (ds gs : List (DataW H)) (before : List MemPlace)
    (hval : ∀ (j : Nat) t v, Tryz.f4.params[j]? = some t → args[j]? = some v → Value.okWide Tryz.prog W .any base t v)
    (hW : DataW.Whole enc Tryz.prog Tryz.f4.params.toList Rows.fnCheckedSpec.vars false W args.toList ds gs before) :
    Calls Tryz.prog 4 args W fun e W' => ∃ v, e = .returned v ∧ Rows.fnCheckedSpec.post enc Tryz.prog Tryz.f4 false true false false W args v W' := by
  have hW' := hW
  obtain ⟨p, q, hA0, hV, rfl, hfz, hnd⟩ := hW
  have hA : DataW.TrodAll enc Tryz.prog W 0 (fun _ => true) true Tryz.f4.params.toList args.toList ds p := hA0
  rw [Tryz.params4] at hA hval
  obtain ⟨v0, vs0, d0, ds0, p0, q0, hargs, rfl, rfl, h0, r0⟩ := trodAll_cons hA
  obtain ⟨rfl, rfl, rfl⟩ := trodAll_nil r0
  obtain rfl : args = #[v0] := by cases args; simp_all
  obtain ⟨rfl, rfl⟩ := trodVars_none hV
  clear hA0
  simp only [List.append_nil] at hW'
  have hlt : ∀ x ∈ p0, x.block < W.heap.size := fun x hx => by
    have := hW'.lt x (by simpa using hx)
    simpa using this
  obtain ⟨Y0A, Y0n, Y0c, rfl⟩ := okWide_slice Tryz.underlying22 (hval 0 _ _ rfl rfl)
  have t0 := h0
  obtain ⟨fuel0, hf0⟩ := h0
  obtain ⟨QA0, Qn0, Qc0, Y0xs, hcs0, hr0, hn0⟩ := rd_bytes hf0
  obtain ⟨rfl, rfl, rfl⟩ : QA0 = Y0A ∧ Qn0 = Y0n ∧ Qc0 = Y0c := by
    have : [Value.slice Y0A Y0n Y0c] = [.slice QA0 Qn0 Qc0] := hcs0
    injection this with this
    injection this with e1 e2 e3
    exact ⟨e1.symm, e2.symm, e3.symm⟩
  have walk : Calls Tryz.prog 4 #[.slice QA0 Qn0 Qc0] W fun e w' => e = .returned (.bool true) ∧ Below W.heap.size W w' :=
    law_Checked QA0 Qn0 Qc0 Y0xs W hr0 hn0 
  refine walk.mono fun e W' ⟨he, hb⟩ => ?_
  subst he
  have u0 := Below.trod laidOut (by kernel_rfl) (of_decide_eq_true (by kernel_rfl)) t0 hb hlt
  exact ⟨_, rfl, [d0], [], p0 ++ [], [], p0 ++ [], [], by simpa using hW', trodAll_cons_mk (shut_bool Tryz.underlying4 _) trodAll_mk0, (trodAll_cons_mk u0 trodAll_mk0), rfl, hb.frame _, fun h => by cases h⟩
theorem reads (os : Os) {H : Type} (enc : TypeId × Value → H) : ∃ places, DataW.whole enc Tryz.prog ((World.holding Tryz.prog os ⟨#[], #[], []⟩).forCall (fun _ _ => 0) ⟨#[], #[.slice none 0 0], []⟩).memory Tryz.f4.params.toList Rows.fnCheckedSpec.vars false (#[.slice none 0 0] : Array Value).toList 8 = some ([.nil], [], places) :=
  ⟨[], by kernel_rfl⟩
set_option maxRecDepth 100000 in
theorem lifted (os : Os) (started : os.Started) (H : Type) (enc : TypeId × Value → H) (F : Stop.Interp) :
    ReturnsInHanded {} Tryz.checked os 4 .any ((OpenSpec.ofChange Rows.fnCheckedSpec).preRow enc Tryz.prog Tryz.f4 Rows.fnCheckedRow.domain false Rows.fnCheckedRow.laid) (((OpenSpec.ofChange Rows.fnCheckedSpec).at F).post enc Tryz.prog Tryz.f4 false true false false) := by
  obtain ⟨places, hx⟩ := reads os enc
  refine returnsInHanded_of_row (C := Tryz.checked) (s := OpenSpec.ofChange Rows.fnCheckedSpec) own started (by kernel_rfl) Tryz.func4
    (witness_row_at (enc := enc) (C := Tryz.checked) false (World.holding Tryz.prog os ⟨#[], #[], []⟩) #[.slice none 0 0] rfl (by kernel_rfl) (by kernel_rfl) (by kernel_rfl)
      (OpenSpec.preRow_of_cond 8 hx (by kernel_rfl) (fun k hk => by cases hk) (by kernel_rfl) (laidMet_of_run' 8 (by kernel_rfl) (by kernel_rfl)))) ?_
  intro W base args ds gs before hval hW _ _ _ _ _ _
  exact contract H enc W base args ds gs before hval hW
theorem said : Rows.FnCheckedSaid :=
  OpenClaim.holds_of_cond 4 Tryz.f4 rfl rfl rfl rfl rfl rfl rfl ⟨rfl, rfl, rfl, rfl, rfl⟩ rfl rfl rfl rfl rfl (by kernel_rfl) Tryz.func4 (by kernel_rfl)
    (of_decide_eq_true (by kernel_rfl)) (by unfold Func.isWrapper; first | (rw [if_pos (by decide +kernel)]; kernel_rfl) | (rw [if_neg (by decide +kernel)]; exact ⟨rfl, rfl⟩))
    (fun os started H enc _ F => by rw [OpenClaim.pre_eq_preRow]; exact lifted os started H enc F)
end Go.Proofs.YtkfbfainhmkkdaaGreat.fnChecked
