/- Part 8: lemmas and contracts of the claim's functions. -/
import Derived.Test.YtkfbfainhmkkdaaGreatZC1
import Derived.Test.YtkfbfainhmkkdaaGreatZC2
import Derived.Test.YtkfbfainhmkkdaaGreatZC3
import Derived.Test.YtkfbfainhmkkdaaGreatZC4
import Derived.Test.YtkfbfainhmkkdaaGreatZC5
import Derived.Test.YtkfbfainhmkkdaaGreatZC6
import Derived.Test.YtkfbfainhmkkdaaGreatZC7
import Derived.Deep.DeepCutAuto
import Derived.Deep.LoopGhost
namespace Go.Proofs.YtkfbfainhmkkdaaGreat
open Go.RowKit Go.Sort
/-- the numbers below n with p -/
def failsL (p : Nat → Bool) : Nat → List Int
  | 0 => []
  | k + 1 => if p k = true then failsL p k ++ [(k : Int)] else failsL p k
theorem failsL_len (p : Nat → Bool) (n : Nat) : (failsL p n).length ≤ n := by
  induction n with
  | zero => simp [failsL]
  | succ k ih =>
    unfold failsL
    split
    · rw [List.length_append]; simp; omega
    · omega
theorem failsL_succ (p : Nat → Bool) (k : Nat) : failsL p (k + 1) = if p k = true then failsL p k ++ [(k : Int)] else failsL p k := rfl
theorem failsL_pre (p : Nat → Bool) (k d : Nat) : ∃ ys, failsL p (k + d) = failsL p k ++ ys := by
  induction d with
  | zero => exact ⟨[], by simp⟩
  | succ d ih =>
    obtain ⟨ys, h⟩ := ih
    rw [show k + (d + 1) = (k + d) + 1 by omega, failsL_succ]
    split
    · exact ⟨ys ++ [((k + d : Nat) : Int)], by rw [h, List.append_assoc]⟩
    · exact ⟨ys, h⟩
theorem failsL_take {p : Nat → Bool} {k n m : Nat} (hk : k ≤ n) (hl : (failsL p k).length ≤ m) (h : k = n ∨ (failsL p k).length = m) : (failsL p n).take m = failsL p k := by
  rcases h with rfl | h
  · exact List.take_of_length_le hl
  · obtain ⟨ys, e⟩ := failsL_pre p k (n - k)
    rw [show k + (n - k) = n by omega] at e
    rw [e, List.take_append_of_le_length (by omega), ← h, List.take_length]
/-- an input for which a promise is not kept -/
noncomputable def badB (L : List Ins) (b : Int) (n1 n2 n3 : Nat) (kind arg : Int) (k : Nat) : Bool := !kpB L (atT b n1 n2 n3 k) kind arg
theorem at_t {b : Int} {n1 n2 n3 : Nat} (E1 E2 E3 : Option Addr) (g1 g2 g3 : Nat) (cn : Int) (k : Nat) (w : World) (hB : NmB b n1 n2 n3) (r1 : RI w E1 (digD b n1 0).length (digD b n1 0)) (r2 : RI w E2 (digD b n2 0).length (digD b n2 0)) (r3 : RI w E3 (digD b n3 0).length (digD b n3 0)) (hk1 : k ≤ 1000000) :
    Calls Tryz.prog 97 #[.agg #[.int .i64 b, .slice E1 (digD b n1 0).length g1, .int .i64 b, .slice E2 (digD b n2 0).length g2, .int .i64 b, .slice E3 (digD b n3 0).length g3, .int .i64 0, .int .i64 cn], .int .i64 k] w fun e w' => ∃ F1 f1 F2 f2 F3 f3,
      e = .returned (.agg #[.int .i64 (atT b n1 n2 n3 k).a.base, .slice F1 (atT b n1 n2 n3 k).a.digits.length f1, .int .i64 (atT b n1 n2 n3 k).b.base, .slice F2 (atT b n1 n2 n3 k).b.digits.length f2, .int .i64 (atT b n1 n2 n3 k).s.base, .slice F3 (atT b n1 n2 n3 k).s.digits.length f3, .int .i64 (atT b n1 n2 n3 k).carry]) ∧ Kn w [rowI F3 f3 (atT b n1 n2 n3 k).s.digits, rowI F2 f2 (atT b n1 n2 n3 k).b.digits, rowI F1 f1 (atT b n1 n2 n3 k).a.digits] w' := at_any E1 E2 E3 g1 g2 g3 cn k w hB r1 r2 r3 (by omega) (by omega)
theorem l14At_t {b : Int} {n1 n2 n3 : Nat} (k : Nat) (w : World) (hB : NmB b n1 n2 n3) (hk1 : k ≤ 1000000) :
    Calls Tryz.prog 84 #[.int .i64 b, .int .i64 n1, .int .i64 n2, .int .i64 n3, .int .i64 k] w fun e w' => ∃ F1 f1 F2 f2 F3 f3,
      e = .returned (.agg #[.int .i64 (atT b n1 n2 n3 k).a.base, .slice F1 (atT b n1 n2 n3 k).a.digits.length f1, .int .i64 (atT b n1 n2 n3 k).b.base, .slice F2 (atT b n1 n2 n3 k).b.digits.length f2, .int .i64 (atT b n1 n2 n3 k).s.base, .slice F3 (atT b n1 n2 n3 k).s.digits.length f3, .int .i64 (atT b n1 n2 n3 k).carry]) ∧ Kn w [rowI F3 f3 (atT b n1 n2 n3 k).s.digits, rowI F2 f2 (atT b n1 n2 n3 k).b.digits, rowI F1 f1 (atT b n1 n2 n3 k).a.digits] w' := l14At_any k w hB (by omega) (by omega)
set_option maxRecDepth 100000 in
set_option maxHeartbeats 3200000 in
theorem failures_any {L : List Ins} {n lc : Nat} {LA : Option Addr} {b : Int} {n1 n2 n3 N : Nat} (E1 E2 E3 : Option Addr) (g1 g2 g3 : Nat) (kind arg : Int) (M : Nat) (w : World) (hB : NmB b n1 n2 n3) (hN : pw b n1 * pw b n2 = (N : Int)) (hN2 : N ≤ 256)
    (r1 : RI w E1 (digD b n1 0).length (digD b n1 0)) (r2 : RI w E2 (digD b n2 0).length (digD b n2 0)) (r3 : RI w E3 (digD b n3 0).length (digD b n3 0)) (hp : vprog L = true) (hr : RL InsM 2 w LA n L) (hk : isP kind arg = true) (hM : M ≤ 256) :
    Calls Tryz.prog 81 #[.agg #[.int .i64 b, .slice E1 (digD b n1 0).length g1, .int .i64 b, .slice E2 (digD b n2 0).length g2, .int .i64 b, .slice E3 (digD b n3 0).length g3, .int .i64 0, .int .i64 (N : Int)], .slice LA n lc, .int .i64 kind, .int .i64 arg, .int .i64 (M : Int)] w
      fun e w' => ∃ A c, e = .returned (.slice A ((failsL (badB L b n1 n2 n3 kind arg) N).take M).length c) ∧ Kn w [rowI A c ((failsL (badB L b n1 n2 n3 kind arg) N).take M)] w' := by
  have KA := (fun (k : Nat) (hk : k < N) W (hW : Below w.heap.size w W) => at_t E1 E2 E3 g1 g2 g3 (N : Int) k W hB (r1.below hW) (r2.below hW) (r3.below hW) (by omega))
  have KV := Lib.hid (fun (k : Nat) (hk : k < N) => atT_ok hB (k := (k : Int)) (by omega) (by rw [hN]; omega))
  have KK := Lib.hid (fun (t : Tri) (F1 F2 F3 : Option Addr) (f1 f2 f3 : Nat) W (hv : vmach t = true) (hW : Below w.heap.size w W) q1 q2 q3 => keeps_any (lc := lc) t F1 F2 F3 f1 f2 f3 kind arg W q1 q2 q3 hv hp (hr.below steady_InsM hW) hk)
  have HBD := Lib.hid (fun k => show badB L b n1 n2 n3 kind arg k = !kpB L (atT b n1 n2 n3 k) kind arg from rfl)
  obtain ⟨p, hpp⟩ : ∃ p, badB L b n1 n2 n3 kind arg = p := ⟨_, rfl⟩
  rw [hpp] at HBD
  rw [hpp]
  obtain ⟨x1, hx1⟩ : ∃ x, digD b n1 0 = x := ⟨_, rfl⟩
  obtain ⟨x2, hx2⟩ : ∃ x, digD b n2 0 = x := ⟨_, rfl⟩
  obtain ⟨x3, hx3⟩ : ∃ x, digD b n3 0 = x := ⟨_, rfl⟩
  rw [hx1, hx2, hx3] at KA
  rw [hx1, hx2, hx3]
  have KA := Lib.hid KA
  have HFL := Lib.hid (failsL_len p)
  have HTK := (fun k => failsL_take (p := p) (k := k) (n := N) (m := M))
  obtain ⟨rs, hrs⟩ : ∃ rs, (failsL p N).take M = rs := ⟨_, rfl⟩
  rw [hrs]
  have HTK := Lib.hid (fun k (h1 : k ≤ N) (h2 : (failsL p k).length ≤ M) (h3 : k = N ∨ (failsL p k).length = M) => hrs.symm.trans (HTK k h1 h2 h3))
  clear hrs
  clear r1 r2 r3 hp hr hk hB hN hx1 hx2 hx3 hpp
  go_enter Tryz.func81, Tryz.ntmps81
  go_wp2_with fail
  have hK1 := (((Kn.nil w).al [.int .i64 b, .slice E1 x1.length g1, .int .i64 b, .slice E2 x2.length g2, .int .i64 b, .slice E3 x3.length g3, .int .i64 0, .int .i64 (N : Int)] 115).al [] 2).litRow (size := 1) (n := 0) rfl (by decide)
  simp only [World.size_alloc] at hK1
  go_loopw [11, 12] (fun oo ii wr => ∃ (k : Nat) (A : Option Addr) (c : Nat), k ≤ N ∧ (failsL p k).length ≤ M ∧ ii = .int .i64 k ∧ oo = .slice A (failsL p k).length c ∧ Kn w [rowI A c (failsL p k), .blk w.heap.size [.int .i64 b, .slice E1 x1.length g1, .int .i64 b, .slice E2 x2.length g2, .int .i64 b, .slice E3 x3.length g3, .int .i64 0, .int .i64 (N : Int)] 115] wr) (fun _ ii _ => N - (intOf ii).toNat)
  case atStart => exact ⟨0, some ⟨w.heap.size + 1, 0, none⟩, 0, Nat.zero_le _, Nat.zero_le _, rfl, rfl, hK1⟩
  case round =>
    obtain ⟨k, A, c, hkN, hlM, rfl, rfl, hK⟩ := hrel
    clear hK1
    have HT := Lib.hid (HTK.out k hkN hlM)
    have hds := HFL.out k
    have HSC := Lib.hid (failsL_succ p k)
    obtain ⟨ds, hd⟩ : ∃ ds, failsL p k = ds := ⟨_, rfl⟩
    rw [hd] at HT HSC hK hds hlM
    have HD := Lib.hid hd
    rw [hd]
    clear hd
    obtain ⟨q1, q2, q3⟩ := hK.drop.blkAt
    by_cases hkn : k < N
    · have hk1 : (k : Int) < (N : Int) := by omega
      by_cases hlt : ds.length < M
      · have hl1 : (ds.length : Int) < (M : Int) := by omega
        have KA1 := Lib.hid (KA.out k hkn)
        have hv := KV.out k hkn
        have KP := HBD.out k
        obtain ⟨t, ht⟩ : ∃ t, atT b n1 n2 n3 (k : Int) = t := ⟨_, rfl⟩
        rw [ht] at hv KP
        have KA1 := KA1.out
        rw [ht] at KA1
        have KA1 := Lib.hid KA1
        have HV := Lib.hid hv
        rcases hb : kpB L t kind arg with _ | _
        all_goals
          rw [hb] at KP
          have KP := Lib.hid KP
          have KK1 := Lib.hid (fun (F1 F2 F3 : Option Addr) (f1 f2 f3 : Nat) W (hK : Kn w (rowI F3 f3 t.s.digits :: rowI F2 f2 t.b.digits :: rowI F1 f1 t.a.digits :: [rowI A c ds, .blk w.heap.size [.int .i64 b, .slice E1 x1.length g1, .int .i64 b, .slice E2 x2.length g2, .int .i64 b, .slice E3 x3.length g3, .int .i64 0, .int .i64 (N : Int)] 115]) W) => calls_val (KK.out t F1 F2 F3 f1 f2 f3 W HV.out hK.below (Kn.riv (hK.sel [2] 99 (by decide) (by decide))) (Kn.riv (hK.sel [1] 99 (by decide) (by decide))) (Kn.riv hK)) (congrArg Value.bool hb))
          clear hv ht hb
          go_wp2_with fail
          (with_reducible refine (KA1.out _ hK.below).mono ?_); rintro e w3 ⟨F1, f1, F2, f2, F3, f3, rfl, hKn⟩
          have hK3 := hK.join hKn
          clear hKn q1 q2 q3
          go_wp2_with fail
          refine (KK1.out _ _ _ _ _ _ _ hK3).mono ?_; rintro e w4 ⟨rfl, hw⟩
          have hK4 := (hK3.keep hw).sel [3, 4] 99 (by decide) (by decide)
          clear hK3 hw hK KA1 KK1
          obtain ⟨q1, q2, q3⟩ := hK4.drop.blkAt
        · go_wp2_with (at_builtin; refine kn_pushI rfl _ _ rfl _ ds rfl rfl (hK4.al [.int .i64 (k : Int)] 2) (by omega) ?_; intro v5 w6 hK9; obtain ⟨A5, c5, rfl⟩ := row_form hK9.at0)
          go_roundw
          case rel =>
            have h2 : failsL p (k + 1) = ds ++ [(k : Int)] := by rw [HSC.out, if_pos (by rw [KP.out]; rfl)]
            refine ⟨k + 1, A5, c5, by omega, by rw [h2, List.length_append]; simp; omega, by go_num, by rw [h2]; simp, ?_⟩
            rw [h2]
            exact hK9
          case measure => simp [intOf]; omega
        · go_wp2_with fail
          go_roundw
          case rel =>
            have h2 : failsL p (k + 1) = ds := by rw [HSC.out, if_neg (by rw [KP.out]; decide)]
            refine ⟨k + 1, A, c, by omega, by rw [h2]; exact hlM, by go_num, by rw [h2], ?_⟩
            rw [h2]
            exact hK4
          case measure => simp [intOf]; omega
      · have hl1 : ¬ (ds.length : Int) < (M : Int) := by omega
        have HX := Lib.hid (HT.out (.inr (by omega)))
        go_wp2_with fail
        go_ret
        exact ⟨A, c, (by rw [HX.out]; rfl), by rw [HX.out]; exact hK.sel [0] 99 (by decide) (by decide)⟩
    · have hk1 : ¬ (k : Int) < (N : Int) := by omega
      have HX := Lib.hid (HT.out (.inl (by omega)))
      go_wp2_with fail
      go_ret
      exact ⟨A, c, (by rw [HX.out]; rfl), by rw [HX.out]; exact hK.sel [0] 99 (by decide) (by decide)⟩
theorem failsL_first {p : Nat → Bool} {k n : Nat} (hk : k < n) (h : failsL p k = []) (hp : p k = true) : (failsL p n).headD (-1) = k := by
  obtain ⟨ys, e⟩ := failsL_pre p (k + 1) (n - (k + 1))
  rw [show k + 1 + (n - (k + 1)) = n by omega, failsL_succ, h, if_pos hp] at e
  rw [e]
  rfl
set_option maxRecDepth 100000 in
set_option maxHeartbeats 3200000 in
theorem l14First_any {L : List Ins} {n lc : Nat} {LA : Option Addr} {b : Int} {n1 n2 n3 N : Nat} (kind arg : Int) (w : World) (hB : NmB b n1 n2 n3) (hN : pw b n1 * pw b n2 = (N : Int)) (hN2 : N ≤ 256)
    (hp : vprog L = true) (hr : RL InsM 2 w LA n L) (hk : isP kind arg = true) :
    Calls Tryz.prog 86 #[.int .i64 b, .int .i64 n1, .int .i64 n2, .int .i64 n3, .slice LA n lc, .int .i64 kind, .int .i64 arg] w
      fun e w' => e = .returned (.int .i64 ((failsL (badB L b n1 n2 n3 kind arg) N).headD (-1))) ∧ Below w.heap.size w w' := by
  have KA := (fun (k : Nat) (hk : k < N) W => l14At_t k W hB (by omega))
  have KV := Lib.hid (fun (k : Nat) (hk : k < N) => atT_ok hB (k := (k : Int)) (by omega) (by rw [hN]; omega))
  have KK := Lib.hid (fun (t : Tri) (g : Nat) (F1 F2 F3 : Option Addr) (f1 f2 f3 : Nat) W (hv : vmach t = true) (hW : Below w.heap.size w W) q => l14Keeps_any (lc := lc) g t F1 F2 F3 f1 f2 f3 kind arg W q hv hp (hr.below steady_InsM hW) hk)
  have V1 := (fun W => l10Power_any b n1 W hB.b1 hB.b2 (by have := hB.h1'; omega))
  have V2 := (fun W => l10Power_any b n2 W hB.b1 hB.b2 (by have := hB.h2'; omega))
  have hp1 : powS b n1 = pw b n1 := by have := hB.p1; unfold powS; omega
  have hp2 : powS b n2 = pw b n2 := by have := hB.p2; unfold powS; omega
  rw [hp1] at V1
  rw [hp2] at V2
  obtain ⟨P1, hP1⟩ : ∃ x, pw b n1 = x := ⟨_, rfl⟩
  obtain ⟨P2, hP2⟩ : ∃ x, pw b n2 = x := ⟨_, rfl⟩
  rw [hP1] at V1 hN
  rw [hP2] at V2 hN
  have V1 := Lib.hid V1
  have V2 := Lib.hid V2
  have hwm : IntKind.i64.wrap (P1 * P2) = (N : Int) := by rw [hN]; exact wrapI64 (by omega)
  have HBD := Lib.hid (fun k => show badB L b n1 n2 n3 kind arg k = !kpB L (atT b n1 n2 n3 k) kind arg from rfl)
  obtain ⟨p, hpp⟩ : ∃ p, badB L b n1 n2 n3 kind arg = p := ⟨_, rfl⟩
  rw [hpp] at HBD
  rw [hpp]
  have KA := Lib.hid KA
  have HFF := Lib.hid (fun k => failsL_first (p := p) (k := k) (n := N))
  have HSC := Lib.hid (failsL_succ p)
  obtain ⟨ans, hans⟩ : ∃ x, (failsL p N).headD (-1) = x := ⟨_, rfl⟩
  have HAN := Lib.hid hans
  rw [hans]
  clear hp hr hk hB hpp hP1 hP2 hp1 hp2 hans
  go_enter Tryz.func86, Tryz.ntmps86
  go_wp2_with (go_at_call 83; first | (with_reducible refine (V1.out _).mono ?_; rintro e w' ⟨rfl, rfl⟩) | (with_reducible refine (V2.out _).mono ?_; rintro e w' ⟨rfl, rfl⟩))
  go_loopw [16] (fun ii wr => ∃ (k : Nat), k ≤ N ∧ failsL p k = [] ∧ ii = .int .i64 k ∧ Kn w [] wr) (fun ii _ => N - (intOf ii).toNat)
  case atStart => exact ⟨0, Nat.zero_le _, rfl, rfl, Kn.nil w⟩
  case round =>
    obtain ⟨k, hkN, hE, rfl, hK⟩ := hrel
    have HE := Lib.hid hE
    clear hE
    by_cases hkn : k < N
    · have hk1 : (k : Int) < (N : Int) := by omega
      have KA1 := KA.out k hkn
      have hv := KV.out k hkn
      have KP := HBD.out k
      obtain ⟨t, ht⟩ : ∃ t, atT b n1 n2 n3 (k : Int) = t := ⟨_, rfl⟩
      rw [ht] at hv KP KA1
      have KA1 := Lib.hid KA1
      have HV := Lib.hid hv
      rcases hb : kpB L t kind arg with _ | _
      all_goals
        rw [hb] at KP
        have KP := Lib.hid KP
        have KK1 := Lib.hid (fun (g : Nat) (F1 F2 F3 : Option Addr) (f1 f2 f3 : Nat) W (hK : Kn w (.blk g [.int .i64 t.a.base, .slice F1 t.a.digits.length f1, .int .i64 t.b.base, .slice F2 t.b.digits.length f2, .int .i64 t.s.base, .slice F3 t.s.digits.length f3, .int .i64 t.carry] 28 :: [rowI F3 f3 t.s.digits, rowI F2 f2 t.b.digits, rowI F1 f1 t.a.digits]) W) => calls_val (KK.out t g F1 F2 F3 f1 f2 f3 W HV.out hK.below ⟨box7' hK, Kn.riv (hK.sel [3] 99 (by decide) (by decide)), Kn.riv (hK.sel [2] 99 (by decide) (by decide)), Kn.riv (hK.sel [1] 99 (by decide) (by decide))⟩) (congrArg Value.bool hb))
        clear hv ht hb
        go_wp2_with fail
        (with_reducible refine (KA1.out _).mono ?_); rintro e w3 ⟨F1, f1, F2, f2, F3, f3, rfl, hKn⟩
        have hK3 := (hK.join hKn).sel [0, 1, 2] 3 (by decide) (by decide)
        clear hKn
        go_wp2_with fail
        refine Calls.kn (hK3.al [.int .i64 t.a.base, .slice F1 t.a.digits.length f1, .int .i64 t.b.base, .slice F2 t.b.digits.length f2, .int .i64 t.s.base, .slice F3 t.s.digits.length f3, .int .i64 t.carry] 28) ?_; intro w4 hK4
        refine (KK1.out _ _ _ _ _ _ _ _ hK4).mono ?_; rintro e w5 ⟨rfl, hw⟩
        have hK5 := (hK4.keep hw).bare
        clear hK3 hw hK KA1 KK1 hK4
        go_wp2_with fail
      · go_ret
        exact ⟨ret_int (by rw [← HAN.out]; exact (HFF.out k hkn HE.out (by rw [KP.out]; rfl)).symm), hK5.below⟩
      · go_roundw
        case rel => exact ⟨k + 1, by omega, by rw [HSC.out, if_neg (by rw [KP.out]; decide)]; exact HE.out, by go_num, hK5⟩
        case measure => simp [intOf]; omega
    · have hk1 : ¬ (k : Int) < (N : Int) := by omega
      have hkk : k = N := by omega
      have HX := Lib.hid (show ans = -1 by rw [← HAN.out, ← hkk, HE.out]; rfl)
      clear hkk
      go_wp2_with fail
      go_ret
      exact ⟨ret_int HX.out.symm, hK.below⟩
end Go.Proofs.YtkfbfainhmkkdaaGreat

namespace Go.Proofs.YtkfbfainhmkkdaaGreat
open Go.RowKit Go.Sort
/-- the inputs for which a promise is not kept -/
noncomputable def ffL (b z1 z2 z3 : Int) (L : List Ins) (kind arg : Int) : List Int := failsL (badB L b z1.toNat z2.toNat z3.toNat kind arg) (pw b z1.toNat * pw b z2.toNat).toNat
noncomputable def ffC (b z1 z2 z3 : Int) (L : List Ins) (kind arg : Int) : Int := if pC b z1 z2 z3 L kind arg ≠ 0 then pC b z1 z2 z3 L kind arg else if ffL b z1 z2 z3 L kind arg = [] then 3 else 0
noncomputable def ffV (b z1 z2 z3 : Int) (L : List Ins) (kind arg : Int) : Int := if pC b z1 z2 z3 L kind arg ≠ 0 then 0 else (ffL b z1 z2 z3 L kind arg).headD 0
noncomputable def cfV (b z1 z2 z3 : Int) (L : List Ins) (kind arg : Int) : Int := if pC b z1 z2 z3 L kind arg ≠ 0 then 0 else ((ffL b z1 z2 z3 L kind arg).length : Int)
def FFRet (b z1 z2 z3 : Int) (L : List Ins) (kind arg : Int) (w : World) (e : Ending) (w' : World) : Prop := e = .returned (.tuple #[.int .i64 (ffV b z1 z2 z3 L kind arg), .int .i64 (ffC b z1 z2 z3 L kind arg)]) ∧ Below w.heap.size w w'
def CFRet (b z1 z2 z3 : Int) (L : List Ins) (kind arg : Int) (w : World) (e : Ending) (w' : World) : Prop := e = .returned (.tuple #[.int .i64 (cfV b z1 z2 z3 L kind arg), .int .i64 (pC b z1 z2 z3 L kind arg)]) ∧ Below w.heap.size w w'
theorem pC_cases (b z1 z2 z3 : Int) (L : List Ins) (kind arg : Int) : pC b z1 z2 z3 L kind arg ≠ 0 ∨ (pC b z1 z2 z3 L kind arg = 0 ∧ vprog L = true ∧ isP kind arg = true ∧ ∃ n1 n2 n3 N : Nat, z1 = n1 ∧ z2 = n2 ∧ z3 = n3 ∧ NmB b n1 n2 n3 ∧ ¬ 256 < pw b n1 * pw b n2 ∧ pw b n1 * pw b n2 = (N : Int) ∧ N ≤ 256) := by
  by_cases h : pC b z1 z2 z3 L kind arg = 0
  · refine .inr ⟨h, ?_⟩
    unfold pC at h
    split at h
    · cases h
    rename_i hp
    split at h
    · cases h
    rename_i hk
    rcases inC_cases b z1 z2 z3 with h2 | ⟨-, n1, n2, n3, e1, e2, e3, hB, hbig⟩
    · exact absurd h h2
    · have hm0 : 0 ≤ pw b n1 * pw b n2 := Int.mul_nonneg (by have := hB.q1; omega) (by have := hB.q2; omega)
      obtain ⟨N, hN⟩ := Int.eq_ofNat_of_zero_le hm0
      exact ⟨by simpa using hp, by simpa using hk, n1, n2, n3, N, e1, e2, e3, hB, hbig, hN, by omega⟩
  · exact .inl h
theorem ff_bad {b z1 z2 z3 : Int} {L : List Ins} {kind arg : Int} (h : pC b z1 z2 z3 L kind arg ≠ 0) : ffV b z1 z2 z3 L kind arg = 0 ∧ ffC b z1 z2 z3 L kind arg = pC b z1 z2 z3 L kind arg ∧ cfV b z1 z2 z3 L kind arg = 0 := by
  unfold ffV ffC cfV
  rw [if_pos h, if_pos h, if_pos h]
  exact ⟨rfl, rfl, rfl⟩
theorem ff_fine {b : Int} {n1 n2 n3 N : Nat} {L : List Ins} {kind arg : Int} (h : pC b n1 n2 n3 L kind arg = 0) (hN : pw b n1 * pw b n2 = (N : Int)) : ffV b n1 n2 n3 L kind arg = (failsL (badB L b n1 n2 n3 kind arg) N).headD 0 ∧ ffC b n1 n2 n3 L kind arg = (if failsL (badB L b n1 n2 n3 kind arg) N = [] then 3 else 0) ∧ cfV b n1 n2 n3 L kind arg = ((failsL (badB L b n1 n2 n3 kind arg) N).length : Int) := by
  have hL : ffL b n1 n2 n3 L kind arg = failsL (badB L b n1 n2 n3 kind arg) N := by
    unfold ffL
    simp only [Int.toNat_natCast, hN]
  unfold ffV ffC cfV
  have hn : ¬ (pC b n1 n2 n3 L kind arg ≠ 0) := fun h2 => h2 h
  rw [if_neg hn, if_neg hn, if_neg hn, hL]
  exact ⟨rfl, rfl, rfl⟩
set_option maxRecDepth 100000 in
set_option maxHeartbeats 3200000 in
theorem FirstFailure_any {L : List Ins} {n lc : Nat} {LA : Option Addr} (b z1 z2 z3 kind arg : Int) (w : World) (hr : RL InsM 2 w LA n L) (hn : n ≤ 9223372036854775807) :
    Calls Tryz.prog 24 #[.int .i64 b, .int .i64 z1, .int .i64 z2, .int .i64 z3, .slice LA n lc, .int .i64 kind, .int .i64 arg] w (FFRet b z1 z2 z3 L kind arg w) := by
  unfold FFRet
  rcases pC_cases b z1 z2 z3 L kind arg with hb | ⟨h0, hp, hk, n1, n2, n3, N, rfl, rfl, rfl, hB, hbig, hN, hN2⟩
  · have HF := Lib.hid (ff_bad hb)
    have KB := (fun W (hW : Below w.heap.size w W) => promiseInputs_bad (lc := lc) b z1 z2 z3 kind arg W (hr.below steady_InsM hW) hn hb)
    obtain ⟨c, hc⟩ : ∃ c, pC b z1 z2 z3 L kind arg = c := ⟨_, rfl⟩
    have HF := HF.out
    rw [hc] at KB HF hb
    have HC := Lib.hid hc
    have HF := Lib.hid HF
    have KB := Lib.hid KB
    have hcb : (c != 0) = true := by simpa using hb
    have hcb2 : (c == 0) = false := by simpa using hb
    clear hr hn hc hb
    go_enter Tryz.func24, Tryz.ntmps24
    go_wp2_with fail
    (with_reducible refine (KB.out _ (Kn.nil w).below).mono ?_); rintro e w2 ⟨rfl, hw⟩
    have hK2 := (Kn.nil w).keep hw
    go_wp2_with fail
    go_ret2
    rw [HF.out.1, HF.out.2.1]
    exact ⟨rfl, (hK2.al_ _).below⟩
  have HF := ff_fine h0 hN
  have KF := (fun W (hW : Below w.heap.size w W) => promiseInputs_fine (lc := lc) (n1 := n1) (n2 := n2) (n3 := n3) kind arg W (hr.below steady_InsM hW) hn hp hk hB hbig)
  have KL := (fun (E1 E2 E3 : Option Addr) (g1 g2 g3 : Nat) (M : Nat) (hM : M ≤ 256) W (hW : Below w.heap.size w W) q1 q2 q3 => failures_any (lc := lc) E1 E2 E3 g1 g2 g3 kind arg M W hB hN hN2 q1 q2 q3 hp (hr.below steady_InsM hW) hk hM)
  obtain ⟨rs, hrs⟩ : ∃ rs, failsL (badB L b n1 n2 n3 kind arg) N = rs := ⟨_, rfl⟩
  rw [hrs] at HF KL
  have HRS := Lib.hid (fun rs' (h : failsL (badB L b n1 n2 n3 kind arg) N = rs') => hrs.symm.trans h)
  rw [hN] at KF
  obtain ⟨x1, hx1⟩ : ∃ x, digD b n1 0 = x := ⟨_, rfl⟩
  obtain ⟨x2, hx2⟩ : ∃ x, digD b n2 0 = x := ⟨_, rfl⟩
  obtain ⟨x3, hx3⟩ : ∃ x, digD b n3 0 = x := ⟨_, rfl⟩
  rw [hx1, hx2, hx3] at KF KL
  have HF := Lib.hid HF
  have KF := Lib.hid KF
  have KL := Lib.hid KL
  clear h0 hr hn hp hk hB hbig hN hx1 hx2 hx3 hrs
  go_enter Tryz.func24, Tryz.ntmps24
  go_wp2_with fail
  (with_reducible refine (KF.out _ (Kn.nil w).below).mono ?_); rintro e w2 ⟨E1, g1, E2, g2, E3, g3, rfl, hK2⟩
  go_wp2_with fail
  refine Calls.kn (hK2.al [.int .i64 b, .slice E1 x1.length g1, .int .i64 b, .slice E2 x2.length g2, .int .i64 b, .slice E3 x3.length g3, .int .i64 0, .int .i64 (N : Int)] 115) ?_; intro w3 hK3
  (refine (KL.out E1 E2 E3 g1 g2 g3 1 (by decide) _ hK3.below (Kn.riv (hK3.sel [3] 99 (by decide) (by decide))) (Kn.riv (hK3.sel [2] 99 (by decide) (by decide))) (Kn.riv (hK3.sel [1] 99 (by decide) (by decide)))).mono ?_); rintro e w4 ⟨A, c, rfl, hKn⟩
  have hK4 := hK3.join hKn
  rcases rs with _ | ⟨x, rs⟩
  · go_wp2_with fail
    go_ret2
    rw [HF.out.1, HF.out.2.1]
    exact ⟨rfl, hK4.below⟩
  · obtain ⟨ga, ca, hfo⟩ := Kn.rowForm hKn (by simp)
    injection hfo with hfo hf2 hf3
    subst hfo hf3
    obtain ⟨cc, -⟩ := Kn.rowCell hK4 (j := 0) (u := .int .i64 x) rfl
    go_wp2_with fail
    go_ret2
    rw [HF.out.1, HF.out.2.1]
    exact ⟨rfl, hK4.below⟩
set_option maxRecDepth 100000 in
set_option maxHeartbeats 3200000 in
theorem CountFailures_any {L : List Ins} {n lc : Nat} {LA : Option Addr} (b z1 z2 z3 kind arg : Int) (w : World) (hr : RL InsM 2 w LA n L) (hn : n ≤ 9223372036854775807) :
    Calls Tryz.prog 22 #[.int .i64 b, .int .i64 z1, .int .i64 z2, .int .i64 z3, .slice LA n lc, .int .i64 kind, .int .i64 arg] w (CFRet b z1 z2 z3 L kind arg w) := by
  unfold CFRet
  rcases pC_cases b z1 z2 z3 L kind arg with hb | ⟨h0, hp, hk, n1, n2, n3, N, rfl, rfl, rfl, hB, hbig, hN, hN2⟩
  · have HF := Lib.hid (ff_bad hb)
    have KB := (fun W (hW : Below w.heap.size w W) => promiseInputs_bad (lc := lc) b z1 z2 z3 kind arg W (hr.below steady_InsM hW) hn hb)
    obtain ⟨c, hc⟩ : ∃ c, pC b z1 z2 z3 L kind arg = c := ⟨_, rfl⟩
    have HF := HF.out
    rw [hc] at KB HF hb
    have HC := Lib.hid hc
    have HF := Lib.hid HF
    have KB := Lib.hid KB
    have hcb : (c != 0) = true := by simpa using hb
    have hcb2 : (c == 0) = false := by simpa using hb
    clear hr hn hc hb
    go_enter Tryz.func22, Tryz.ntmps22
    go_wp2_with fail
    (with_reducible refine (KB.out _ (Kn.nil w).below).mono ?_); rintro e w2 ⟨rfl, hw⟩
    have hK2 := (Kn.nil w).keep hw
    go_wp2_with fail
    go_ret2
    rw [HF.out.2.2, HC.out]
    exact ⟨rfl, (hK2.al_ _).below⟩
  have HF := ff_fine h0 hN
  have H0 := Lib.hid h0
  have hLN : (failsL (badB L b n1 n2 n3 kind arg) N).take 256 = failsL (badB L b n1 n2 n3 kind arg) N := List.take_of_length_le (by have := failsL_len (badB L b n1 n2 n3 kind arg) N; omega)
  have hll := failsL_len (badB L b n1 n2 n3 kind arg) N
  obtain ⟨rs', hrs'⟩ : ∃ rs, failsL (badB L b n1 n2 n3 kind arg) N = rs := ⟨_, rfl⟩
  rw [hrs'] at hLN hll
  have HRS' := Lib.hid hrs'
  clear hrs'
  have KF := (fun W (hW : Below w.heap.size w W) => promiseInputs_fine (lc := lc) (n1 := n1) (n2 := n2) (n3 := n3) kind arg W (hr.below steady_InsM hW) hn hp hk hB hbig)
  have KL := (fun (E1 E2 E3 : Option Addr) (g1 g2 g3 : Nat) (M : Nat) (hM : M ≤ 256) W (hW : Below w.heap.size w W) q1 q2 q3 => failures_any (lc := lc) E1 E2 E3 g1 g2 g3 kind arg M W hB hN hN2 q1 q2 q3 hp (hr.below steady_InsM hW) hk hM)
  obtain ⟨rs, hrs⟩ : ∃ rs, failsL (badB L b n1 n2 n3 kind arg) N = rs := ⟨_, rfl⟩
  rw [hrs] at HF KL
  have HRS := Lib.hid (fun rs' (h : failsL (badB L b n1 n2 n3 kind arg) N = rs') => hrs.symm.trans h)
  rw [hN] at KF
  obtain ⟨x1, hx1⟩ : ∃ x, digD b n1 0 = x := ⟨_, rfl⟩
  obtain ⟨x2, hx2⟩ : ∃ x, digD b n2 0 = x := ⟨_, rfl⟩
  obtain ⟨x3, hx3⟩ : ∃ x, digD b n3 0 = x := ⟨_, rfl⟩
  rw [hx1, hx2, hx3] at KF KL
  have HF := Lib.hid HF
  have KF := Lib.hid KF
  have KL := Lib.hid KL
  clear h0 hr hn hp hk hB hbig hN hx1 hx2 hx3 hrs
  go_enter Tryz.func22, Tryz.ntmps22
  go_wp2_with fail
  (with_reducible refine (KF.out _ (Kn.nil w).below).mono ?_); rintro e w2 ⟨E1, g1, E2, g2, E3, g3, rfl, hK2⟩
  go_wp2_with fail
  refine Calls.kn (hK2.al [.int .i64 b, .slice E1 x1.length g1, .int .i64 b, .slice E2 x2.length g2, .int .i64 b, .slice E3 x3.length g3, .int .i64 0, .int .i64 (N : Int)] 115) ?_; intro w3 hK3
  obtain rfl : rs = rs' := HRS.out _ HRS'.out
  (refine (KL.out E1 E2 E3 g1 g2 g3 256 (by decide) _ hK3.below (Kn.riv (hK3.sel [3] 99 (by decide) (by decide))) (Kn.riv (hK3.sel [2] 99 (by decide) (by decide))) (Kn.riv (hK3.sel [1] 99 (by decide) (by decide)))).mono ?_); rintro e w4 ⟨A, c, rfl, hKn⟩
  rw [hLN] at hKn ⊢
  have hK4 := hK3.join hKn
  go_wp2_with fail
  go_ret2
  rw [HF.out.2.2, H0.out]
  exact ⟨rfl, hK4.below⟩
theorem head_neg {p : Nat → Bool} {N : Nat} : (failsL p N = [] ∧ (failsL p N).headD (-1) = -1) ∨ (failsL p N ≠ [] ∧ (failsL p N).headD (-1) = (failsL p N).headD 0 ∧ 0 ≤ (failsL p N).headD 0 ∧ (failsL p N).headD 0 ≤ N) := by
  have hall : ∀ n, ∀ x ∈ failsL p n, 0 ≤ x ∧ x ≤ n := by
    intro n
    induction n with
    | zero => intro x hx; simp [failsL] at hx
    | succ k ih =>
      intro x hx
      rw [failsL_succ] at hx
      split at hx
      · rcases List.mem_append.1 hx with hx | hx
        · have := ih x hx; omega
        · have := List.mem_singleton.1 hx; omega
      · have := ih x hx; omega
  have h := hall N
  rcases hf : failsL p N with _ | ⟨x, xs⟩
  · exact .inl ⟨rfl, rfl⟩
  · rw [hf] at h
    exact .inr ⟨by simp, rfl, h x (List.mem_cons_self ..)⟩
set_option maxRecDepth 100000 in
set_option maxHeartbeats 3200000 in
theorem specFirstFailure_any {L : List Ins} {n lc : Nat} {LA : Option Addr} (b z1 z2 z3 kind arg : Int) (w : World) (hr : RL InsM 2 w LA n L) (hn : n ≤ 9223372036854775807) :
    Calls Tryz.prog 25 #[.int .i64 b, .int .i64 z1, .int .i64 z2, .int .i64 z3, .slice LA n lc, .int .i64 kind, .int .i64 arg] w (FFRet b z1 z2 z3 L kind arg w) := by
  unfold FFRet
  rcases pC_cases b z1 z2 z3 L kind arg with hb | ⟨h0, hp, hk, n1, n2, n3, N, rfl, rfl, rfl, hB, hbig, hN, hN2⟩
  · have HF := Lib.hid (ff_bad hb)
    have KB := (fun W (hW : Below w.heap.size w W) => l14Code_any (lc := lc) b z1 z2 z3 kind arg W (hr.below steady_InsM hW) hn)
    obtain ⟨c, hc⟩ : ∃ c, pC b z1 z2 z3 L kind arg = c := ⟨_, rfl⟩
    have HF := HF.out
    rw [hc] at KB HF hb
    have HC := Lib.hid hc
    have HF := Lib.hid HF
    have KB := Lib.hid KB
    have hcb : (c != 0) = true := by simpa using hb
    have hcb2 : (c == 0) = false := by simpa using hb
    clear hr hn hc hb
    go_enter Tryz.func25, Tryz.ntmps25
    go_wp2_with fail
    (with_reducible refine (KB.out _ (Kn.nil w).below).mono ?_); rintro e w2 ⟨rfl, hw⟩
    have hK2 := (Kn.nil w).keep hw
    go_wp2_with fail
    go_ret2
    rw [HF.out.1, HF.out.2.1]
    exact ⟨rfl, hK2.below⟩
  have HF := ff_fine h0 hN
  have KB := (fun W (hW : Below w.heap.size w W) => calls_val (l14Code_any (lc := lc) b n1 n2 n3 kind arg W (hr.below steady_InsM hW) hn) (congrArg (Value.int .i64) h0))
  have KL := (fun W (hW : Below w.heap.size w W) => l14First_any (lc := lc) kind arg W hB hN hN2 hp (hr.below steady_InsM hW) hk)
  have hhd := head_neg (p := badB L b n1 n2 n3 kind arg) (N := N)
  obtain ⟨rs, hrs⟩ : ∃ rs, failsL (badB L b n1 n2 n3 kind arg) N = rs := ⟨_, rfl⟩
  rw [hrs] at HF KL hhd
  have HF := Lib.hid HF
  have KB := Lib.hid KB
  obtain ⟨x, hx⟩ : ∃ x, rs.headD (-1) = x := ⟨_, rfl⟩
  rw [hx] at KL hhd
  have KL := Lib.hid KL
  clear h0 hr hn hp hk hB hbig hN hrs hx
  rcases hhd with ⟨h1, rfl⟩ | ⟨h1, h2, h3, h4⟩
  · have HV := Lib.hid (show rs = [] from h1)
    clear h1
    go_enter Tryz.func25, Tryz.ntmps25
    go_wp2_with fail
    (with_reducible refine (KB.out _ (Kn.nil w).below).mono ?_); rintro e w2 ⟨rfl, hw⟩
    have hK2 := (Kn.nil w).keep hw
    go_wp2_with fail
    (refine (KL.out _ hK2.below).mono ?_); rintro e w3 ⟨rfl, hw3⟩
    have hK3 := hK2.keep hw3
    go_wp2_with fail
    go_ret2
    rw [HF.out.1, HF.out.2.1, HV.out]
    exact ⟨rfl, hK3.below⟩
  · have HV := Lib.hid (show ¬ rs = [] ∧ x = rs.headD 0 from ⟨h1, h2⟩)
    rw [← h2] at h3 h4
    have hx0 : ¬ x < 0 := by omega
    clear h1 h2
    go_enter Tryz.func25, Tryz.ntmps25
    go_wp2_with fail
    (with_reducible refine (KB.out _ (Kn.nil w).below).mono ?_); rintro e w2 ⟨rfl, hw⟩
    have hK2 := (Kn.nil w).keep hw
    go_wp2_with fail
    (refine (KL.out _ hK2.below).mono ?_); rintro e w3 ⟨rfl, hw3⟩
    have hK3 := hK2.keep hw3
    go_wp2_with fail
    go_ret2
    rw [HF.out.1, HF.out.2.1, if_neg HV.out.1, ← HV.out.2]
    exact ⟨rfl, hK3.below⟩
set_option maxRecDepth 100000 in
set_option maxHeartbeats 3200000 in
theorem specCountFailures_any {L : List Ins} {n lc : Nat} {LA : Option Addr} (b z1 z2 z3 kind arg : Int) (w : World) (hr : RL InsM 2 w LA n L) (hn : n ≤ 9223372036854775807) :
    Calls Tryz.prog 23 #[.int .i64 b, .int .i64 z1, .int .i64 z2, .int .i64 z3, .slice LA n lc, .int .i64 kind, .int .i64 arg] w (CFRet b z1 z2 z3 L kind arg w) := by
  unfold CFRet
  rcases pC_cases b z1 z2 z3 L kind arg with hb | ⟨h0, hp, hk, n1, n2, n3, N, rfl, rfl, rfl, hB, hbig, hN, hN2⟩
  · have HF := Lib.hid (ff_bad hb)
    have KB := (fun W (hW : Below w.heap.size w W) => l14Code_any (lc := lc) b z1 z2 z3 kind arg W (hr.below steady_InsM hW) hn)
    obtain ⟨c, hc⟩ : ∃ c, pC b z1 z2 z3 L kind arg = c := ⟨_, rfl⟩
    have HF := HF.out
    rw [hc] at KB HF hb
    have HC := Lib.hid hc
    have HF := Lib.hid HF
    have KB := Lib.hid KB
    have hcb : (c != 0) = true := by simpa using hb
    have hcb2 : (c == 0) = false := by simpa using hb
    clear hr hn hc hb
    go_enter Tryz.func23, Tryz.ntmps23
    go_wp2_with fail
    (with_reducible refine (KB.out _ (Kn.nil w).below).mono ?_); rintro e w2 ⟨rfl, hw⟩
    have hK2 := (Kn.nil w).keep hw
    go_wp2_with fail
    go_ret2
    rw [HF.out.2.2, HC.out]
    exact ⟨rfl, hK2.below⟩
  have HF := (ff_fine h0 hN).2.2
  have H0 := Lib.hid h0
  have KB := Lib.hid (fun W (hW : Below w.heap.size w W) => calls_val (l14Code_any (lc := lc) b n1 n2 n3 kind arg W (hr.below steady_InsM hW) hn) (congrArg (Value.int .i64) h0))
  have KA := (fun (k : Nat) (hk : k < N) W => l14At_t k W hB (by omega))
  have KV := Lib.hid (fun (k : Nat) (hk : k < N) => atT_ok hB (k := (k : Int)) (by omega) (by rw [hN]; omega))
  have KK := Lib.hid (fun (t : Tri) (g : Nat) (F1 F2 F3 : Option Addr) (f1 f2 f3 : Nat) W (hv : vmach t = true) (hW : Below w.heap.size w W) q => l14Keeps_any (lc := lc) g t F1 F2 F3 f1 f2 f3 kind arg W q hv hp (hr.below steady_InsM hW) hk)
  have V1 := (fun W => l10Power_any b n1 W hB.b1 hB.b2 (by have := hB.h1'; omega))
  have V2 := (fun W => l10Power_any b n2 W hB.b1 hB.b2 (by have := hB.h2'; omega))
  have hp1 : powS b n1 = pw b n1 := by have := hB.p1; unfold powS; omega
  have hp2 : powS b n2 = pw b n2 := by have := hB.p2; unfold powS; omega
  rw [hp1] at V1
  rw [hp2] at V2
  obtain ⟨P1, hP1⟩ : ∃ x, pw b n1 = x := ⟨_, rfl⟩
  obtain ⟨P2, hP2⟩ : ∃ x, pw b n2 = x := ⟨_, rfl⟩
  rw [hP1] at V1 hN
  rw [hP2] at V2 hN
  have V1 := Lib.hid V1
  have V2 := Lib.hid V2
  have hwm : IntKind.i64.wrap (P1 * P2) = (N : Int) := by rw [hN]; exact wrapI64 (by omega)
  have HBD := Lib.hid (fun k => show badB L b n1 n2 n3 kind arg k = !kpB L (atT b n1 n2 n3 k) kind arg from rfl)
  obtain ⟨p, hpp⟩ : ∃ p, badB L b n1 n2 n3 kind arg = p := ⟨_, rfl⟩
  rw [hpp] at HBD HF
  have HF := Lib.hid HF
  have KA := Lib.hid KA
  have HFL := Lib.hid (failsL_len p)
  have HSC := Lib.hid (failsL_succ p)
  clear hp hr hk hB hpp hP1 hP2 hp1 hp2 hbig hn h0
  go_enter Tryz.func23, Tryz.ntmps23
  go_wp2_with fail
  (with_reducible refine (KB.out _ (Kn.nil w).below).mono ?_); rintro e w2 ⟨rfl, hw⟩
  have hK2 := (Kn.nil w).keep hw
  clear hw
  go_wp2_with (go_at_call 83; first | (with_reducible refine (V1.out _).mono ?_; rintro e w' ⟨rfl, rfl⟩) | (with_reducible refine (V2.out _).mono ?_; rintro e w' ⟨rfl, rfl⟩))
  go_loopw [18, 19] (fun ss ii wr => ∃ (k : Nat), k ≤ N ∧ ss = .int .i64 ((failsL p k).length : Int) ∧ ii = .int .i64 k ∧ Kn w [] wr) (fun _ ii _ => N - (intOf ii).toNat)
  case atStart => exact ⟨0, Nat.zero_le _, rfl, rfl, hK2⟩
  case round =>
    obtain ⟨k, hkN, rfl, rfl, hK⟩ := hrel
    have hll := HFL.out k
    have HSK := Lib.hid (HSC.out k)
    obtain ⟨ds, hds⟩ : ∃ ds, failsL p k = ds := ⟨_, rfl⟩
    have HSK := HSK.out
    rw [hds] at hll HSK
    rw [hds]
    have HSK := Lib.hid HSK
    have HDS := Lib.hid hds
    clear hds
    by_cases hkn : k < N
    · have hk1 : (k : Int) < (N : Int) := by omega
      have KA1 := KA.out k hkn
      have hv := KV.out k hkn
      have KP := HBD.out k
      obtain ⟨t, ht⟩ : ∃ t, atT b n1 n2 n3 (k : Int) = t := ⟨_, rfl⟩
      rw [ht] at hv KP KA1
      have KA1 := Lib.hid KA1
      have HV := Lib.hid hv
      rcases hb : kpB L t kind arg with _ | _
      all_goals
        rw [hb] at KP
        have KP := Lib.hid KP
        have KK1 := Lib.hid (fun (g : Nat) (F1 F2 F3 : Option Addr) (f1 f2 f3 : Nat) W (hK : Kn w (.blk g [.int .i64 t.a.base, .slice F1 t.a.digits.length f1, .int .i64 t.b.base, .slice F2 t.b.digits.length f2, .int .i64 t.s.base, .slice F3 t.s.digits.length f3, .int .i64 t.carry] 28 :: [rowI F3 f3 t.s.digits, rowI F2 f2 t.b.digits, rowI F1 f1 t.a.digits]) W) => calls_val (KK.out t g F1 F2 F3 f1 f2 f3 W HV.out hK.below ⟨box7' hK, Kn.riv (hK.sel [3] 99 (by decide) (by decide)), Kn.riv (hK.sel [2] 99 (by decide) (by decide)), Kn.riv (hK.sel [1] 99 (by decide) (by decide))⟩) (congrArg Value.bool hb))
        clear hv ht hb
        go_wp2_with fail
        (with_reducible refine (KA1.out _).mono ?_); rintro e w3 ⟨F1, f1, F2, f2, F3, f3, rfl, hKn⟩
        have hK3 := (hK.join hKn).sel [0, 1, 2] 3 (by decide) (by decide)
        clear hKn
        go_wp2_with fail
        refine Calls.kn (hK3.al [.int .i64 t.a.base, .slice F1 t.a.digits.length f1, .int .i64 t.b.base, .slice F2 t.b.digits.length f2, .int .i64 t.s.base, .slice F3 t.s.digits.length f3, .int .i64 t.carry] 28) ?_; intro w4 hK4
        refine (KK1.out _ _ _ _ _ _ _ _ hK4).mono ?_; rintro e w5 ⟨rfl, hw⟩
        have hK5 := (hK4.keep hw).bare
        clear hK3 hw hK KA1 KK1 hK4
        go_wp2_with fail
        go_roundw
      case rel => exact ⟨k + 1, by omega, by rw [HSK.out, if_pos (by rw [KP.out]; rfl)]; simp, by go_num, hK5⟩
      case measure => simp [intOf]; omega
      case rel => exact ⟨k + 1, by omega, by rw [HSK.out, if_neg (by rw [KP.out]; decide)], by go_num, hK5⟩
      case measure => simp [intOf]; omega
    · have hk1 : ¬ (k : Int) < (N : Int) := by omega
      have hkk : k = N := by omega
      have HX := Lib.hid (show failsL p N = ds by rw [← hkk]; exact HDS.out)
      clear hkk
      go_wp2_with fail
      go_ret2
      try rw [HF.out]
      rw [H0.out, HX.out]
      exact ⟨rfl, hK.below⟩
end Go.Proofs.YtkfbfainhmkkdaaGreat

namespace Go.Proofs.YtkfbfainhmkkdaaGreat
open Go.RowKit Go.Sort
/-- the program of n strokes with number k -/
def numP : Nat → Nat → List Ins
  | 0, _ => []
  | n + 1, k => numP n (k / 4) ++ [⟨2 + (k % 4 : Nat), 1⟩]
def addI : Ins := ⟨2, 1⟩
theorem numP_len (n k : Nat) : (numP n k).length = n := by
  induction n generalizing k with
  | zero => rfl
  | succ n ih => simp [numP, ih]
theorem numP_zero (n : Nat) : numP n 0 = List.replicate n addI := by
  induction n with
  | zero => rfl
  | succ n ih =>
    show numP n (0 / 4) ++ [⟨2 + ((0 % 4 : Nat) : Int), 1⟩] = _
    rw [Nat.zero_div, ih, List.replicate_succ']
    rfl
theorem numP_pow (m d x : Nat) : numP (m + d) (x * 4 ^ d) = numP m x ++ List.replicate d addI := by
  induction d with
  | zero => simp
  | succ d ih =>
    show numP (m + d) (x * 4 ^ (d + 1) / 4) ++ [⟨2 + ((x * 4 ^ (d + 1) % 4 : Nat) : Int), 1⟩] = _
    have h1 : x * 4 ^ (d + 1) = 4 * (x * 4 ^ d) := by rw [Nat.pow_succ]; ac_rfl
    rw [h1, Nat.mul_div_cancel_left _ (by decide), Nat.mul_mod_right, ih, List.replicate_succ', List.append_assoc]
    rfl
theorem numP_ok (n k : Nat) (hn : n ≤ 4) : vprog (numP n k) = true := by
  have h : ∀ n k, ∀ x ∈ numP n k, instrOk x.op x.arg = true ∧ x.op ≤ 7 := by
    intro n
    induction n with
    | zero => intro k x hx; cases hx
    | succ n ih =>
      intro k x hx
      rcases List.mem_append.1 hx with hx | hx
      · exact ih _ x hx
      · rw [List.mem_singleton.1 hx]
        have h4 : k % 4 < 4 := Nat.mod_lt _ (by decide)
        have : k % 4 = 0 ∨ k % 4 = 1 ∨ k % 4 = 2 ∨ k % 4 = 3 := by omega
        rcases this with h | h | h | h <;> rw [h] <;> exact ⟨by decide, by decide⟩
  have hd : ∀ (ys : List Ins), (∀ x ∈ ys, instrOk x.op x.arg = true ∧ x.op ≤ 7) → ys.foldl stepI (some 0) = some 0 := by
    intro ys
    induction ys with
    | nil => intro _; rfl
    | cons y ys ih =>
      intro hy
      obtain ⟨h1, h2⟩ := hy y (List.mem_cons_self ..)
      have hs : stepI (some 0) y = some 0 := by
        unfold stepI
        simp only [Option.bind_some, h1, if_true]
        unfold depthStep opens
        rw [if_neg (by omega), if_neg (by simp; omega)]
      rw [List.foldl_cons, hs]
      exact ih (fun x hx => hy x (List.mem_cons_of_mem _ hx))
  unfold vprog progD
  rw [hd _ (h n k), numP_len]
  simp; omega
theorem cellsIns_set (xs : List Ins) (j : Nat) (y : Ins) (h : j < xs.length) : ((cellsIns xs).set (j * 2) (.int .i64 y.op)).set (j * 2 + 1) (.int .i64 y.arg) = cellsIns (xs.set j y) := by
  induction xs generalizing j with
  | nil => simp at h
  | cons x xs ih =>
    have h2 : ∀ (a : Ins) (l : List Ins), cellsIns (a :: l) = .int .i64 a.op :: .int .i64 a.arg :: cellsIns l := fun a l => by simp [cellsIns]
    cases j with
    | zero => simp [h2]
    | succ j =>
      rw [h2, show (j + 1) * 2 = j * 2 + 1 + 1 by omega]
      simp only [List.set_cons_succ]
      rw [ih j (by simpa using h), h2]
theorem set_mid {α : Type} (xs ys : List α) (a b : α) (n : Nat) (h : xs.length = n) : (xs ++ a :: ys).set n b = xs ++ b :: ys := by
  subst h
  rw [List.set_append_right _ _ (Nat.le_refl _), Nat.sub_self]
  rfl
theorem get_mid {α : Type} (xs ys : List α) (a : α) (n : Nat) (h : xs.length = n) (hl : n < (xs ++ a :: ys).length) : (xs ++ a :: ys)[n] = a := by
  subst h
  simp
/-- the list of strokes while the next one is sought -/
def oddP (n m x : Nat) : List Ins := numP m x ++ List.replicate (n - m) addI
theorem oddP_len {n m x : Nat} (h : m ≤ n) : (oddP n m x).length = n := by
  unfold oddP; rw [List.length_append, numP_len, List.length_replicate]; omega
theorem oddP_succ {n m x : Nat} : oddP n (m + 1) x = numP m (x / 4) ++ ⟨2 + ((x % 4 : Nat) : Int), 1⟩ :: List.replicate (n - (m + 1)) addI := by
  show (numP m (x / 4) ++ [⟨2 + ((x % 4 : Nat) : Int), 1⟩]) ++ List.replicate (n - (m + 1)) addI = _
  rw [List.append_assoc]; rfl
theorem oddP_back {n m x : Nat} (h : m + 1 ≤ n) : numP m (x / 4) ++ addI :: List.replicate (n - (m + 1)) addI = oddP n m (x / 4) := by
  unfold oddP; rw [show n - m = (n - (m + 1)) + 1 by omega, List.replicate_succ]
theorem oddP_next {n m x k : Nat} (h : m + 1 ≤ n) (hk : k + 1 = (x + 1) * 4 ^ (n - (m + 1))) (h4 : x % 4 < 3) : numP m (x / 4) ++ ⟨2 + ((x % 4 : Nat) : Int) + 1, 1⟩ :: List.replicate (n - (m + 1)) addI = numP n (k + 1) := by
  have e := numP_pow (m + 1) (n - (m + 1)) (x + 1)
  rw [show m + 1 + (n - (m + 1)) = n by omega, ← hk] at e
  rw [e]
  have h1 : (x + 1) / 4 = x / 4 := by omega
  have h2 : (x + 1) % 4 = x % 4 + 1 := by omega
  show _ = (numP m ((x + 1) / 4) ++ [⟨2 + (((x + 1) % 4 : Nat) : Int), 1⟩]) ++ _
  rw [h1, h2, List.append_assoc]
  congr 1
theorem pow_next {n m x k : Nat} (h : m + 1 ≤ n) (hk : k + 1 = (x + 1) * 4 ^ (n - (m + 1))) (h4 : ¬ x % 4 < 3) : k + 1 = (x / 4 + 1) * 4 ^ (n - m) := by
  have h1 : x + 1 = 4 * (x / 4 + 1) := by omega
  rw [hk, h1, show n - m = (n - (m + 1)) + 1 by omega, Nat.pow_succ]
  ac_rfl
theorem div_pow {m x : Nat} (h : x < 4 ^ (m + 1)) : x / 4 < 4 ^ m := by
  rw [Nat.pow_succ] at h; omega
/-- a stroke that follows leads to a number in range -/
theorem next_lt {n m x k : Nat} (hm : m + 1 ≤ n) (hx : x < 4 ^ (m + 1)) (hk : k + 1 = (x + 1) * 4 ^ (n - (m + 1))) (h4 : x % 4 < 3) : k + 1 < 4 ^ n := by
  have h1 : x + 1 < 4 ^ (m + 1) := by
    rcases Nat.lt_or_ge (x + 1) (4 ^ (m + 1)) with h | h
    · exact h
    · exfalso
      have : x + 1 = 4 ^ (m + 1) := by omega
      rw [Nat.pow_succ] at this
      omega
  have h2 : (4 : Nat) ^ n = 4 ^ (m + 1) * 4 ^ (n - (m + 1)) := by rw [← Nat.pow_add]; congr 1; omega
  rw [hk, h2]
  exact Nat.mul_lt_mul_of_pos_right h1 (Nat.pow_pos (by decide))
theorem Kn.setP {w0 w : World} {mm : List Ent} {g n c : Nat} {xs : List Ins} (h : Kn w0 (rowInsN (some ⟨g, 0, none⟩) n c xs :: mm) w) (j : Nat) (y : Ins) (hj : j < xs.length) :
    Kn w0 (rowInsN (some ⟨g, 0, none⟩) n c (xs.set j y) :: mm) ((w.setCell ⟨g, j * 2, none⟩ (.int .i64 y.op)).setCell ⟨g, j * 2 + 1, none⟩ (.int .i64 y.arg)) := by
  unfold rowInsN at *
  have h1 := (h.rowSt (j * 2) (.int .i64 y.op)).rowSt (j * 2 + 1) (.int .i64 y.arg)
  rw [cellsIns_set xs j y hj] at h1
  exact h1
set_option maxRecDepth 100000 in
set_option maxHeartbeats 3200000 in
theorem l14Next_any {w0 : World} {mm : List Ent} (g n c k : Nat) (w : World) (hn : n ≤ 4) (hk : k < 4 ^ n) (hK : Kn w0 (rowInsN (some ⟨g, 0, none⟩) n c (numP n k) :: mm) w) :
    Calls Tryz.prog 96 #[.slice (some ⟨g, 0, none⟩) n c] w fun e w' =>
      (k + 1 < 4 ^ n ∧ e = .returned (.bool true) ∧ Kn w0 (rowInsN (some ⟨g, 0, none⟩) n c (numP n (k + 1)) :: mm) w') ∨
      (k + 1 = 4 ^ n ∧ e = .returned (.bool false) ∧ Kn w0 (rowInsN (some ⟨g, 0, none⟩) n c (numP n 0) :: mm) w') := by
  have hK0 : Kn w0 (rowInsN (some ⟨g, 0, none⟩) n c (oddP n n k) :: mm) w := by
    unfold oddP; rw [Nat.sub_self, List.replicate_zero, List.append_nil]; exact hK
  have HST := Lib.hid (show k + 1 = (k + 1) * 4 ^ (n - n) by rw [Nat.sub_self, Nat.pow_zero, Nat.mul_one])
  have HK := Lib.hid hk
  have hgl : g < w.heap.size := Ent.lt hK0.at0 rfl
  clear hK hk
  go_enter Tryz.func96, Tryz.ntmps96
  go_wp2_with fail
  go_loopw [3] (fun ii wr => ∃ (m x : Nat), m ≤ n ∧ ii = .int .i64 ((m : Int) - 1) ∧ Hid (x < 4 ^ m ∧ k + 1 = (x + 1) * 4 ^ (n - m)) ∧ Kn w0 (rowInsN (some ⟨g, 0, none⟩) n c (oddP n m x) :: mm) wr) (fun ii _ => (intOf ii + 1).toNat)
  case atStart => exact ⟨n, k, Nat.le_refl _, by go_num, Lib.hid ⟨HK.out, HST.out⟩, hK0⟩
  case round =>
    obtain ⟨m, x, hm, rfl, HX, hK⟩ := hrel
    clear hK0
    rcases m with _ | m
    · have h0 : ¬ (0 : Int) ≤ ((0 : Nat) : Int) - 1 := by omega
      have HF : Hid (k + 1 = 4 ^ n ∧ oddP n 0 x = numP n 0) := by
        obtain ⟨h1, h2⟩ := HX.out
        have hx0 : x = 0 := by rw [Nat.pow_zero] at h1; omega
        refine ⟨by rw [h2, hx0]; simp, ?_⟩
        rw [numP_zero]; unfold oddP; simp [numP]
      go_wp2_with fail
      go_ret
      exact .inr ⟨HF.out.1, rfl, by rw [← HF.out.2]; exact hK⟩
    · rw [show ((m + 1 : Nat) : Int) - 1 = (m : Int) by omega]
      have h0 : (0 : Int) ≤ (m : Int) := by omega
      have hmn : (m : Int) < (n : Int) := by omega
      have hs := oddP_succ (n := n) (m := m) (x := x)
      have hl := oddP_len (x := x) hm
      obtain ⟨P, hP⟩ : ∃ P, oddP n (m + 1) x = P := ⟨_, rfl⟩
      rw [hP] at hs hl hK
      have hpl := numP_len m (x / 4)
      have hgt : P[m]'(by omega) = ⟨2 + ((x % 4 : Nat) : Int), 1⟩ := by
        subst hs
        exact get_mid _ _ _ _ hpl _
      obtain ⟨cg1, cg2⟩ := cellsIns_get P m (by omega)
      rw [hgt] at cg1 cg2
      have hst2 := fun y : Ins => show P.set m y = numP m (x / 4) ++ y :: List.replicate (n - (m + 1)) addI from by subst hs; exact set_mid _ _ _ _ _ hpl
      have HST2 := Lib.hid hst2
      have HPL := Lib.hid hl
      have hgr : g < wr.heap.size := Ent.lt hK.at0 rfl
      have HSP := fun y => Kn.setP hK m y (by omega)
      unfold rowInsN at hK
      obtain ⟨y1, y2⟩ := Kn.rowCell hK cg1
      obtain ⟨y3, y4⟩ := Kn.rowCell hK cg2
      clear hs hst2 hgt cg1 cg2 hpl hP
      obtain ⟨d, hd⟩ : ∃ d : Nat, x % 4 = d := ⟨_, rfl⟩
      have hd4 : d < 4 := by rw [← hd]; exact Nat.mod_lt _ (by decide)
      rw [hd] at y1
      have z1 : wr.cell? ⟨g, m * 2, none⟩ = some (.int .i64 (2 + (d : Int))) := y1
      have z3 : wr.cell? ⟨g, m * 2 + 1, none⟩ = some (.int .i64 1) := y3
      clear y1 y3
      have HD := Lib.hid hd
      clear hd
      by_cases h3 : d < 3
      · have hlt : 2 + (d : Int) < 5 := by omega
        have hK9 := HSP ⟨2 + (d : Int) + 1, 1⟩
        rw [HST2.out] at hK9
        have HE : Hid (numP m (x / 4) ++ ⟨2 + (d : Int) + 1, 1⟩ :: List.replicate (n - (m + 1)) addI = numP n (k + 1) ∧ k + 1 < 4 ^ n) := by
          have e := oddP_next (k := k) hm HX.out.2 (by rw [HD.out]; exact h3)
          rw [HD.out] at e
          exact ⟨e, next_lt hm HX.out.1 HX.out.2 (by rw [HD.out]; exact h3)⟩
        rw [HE.out.1] at hK9
        clear HSP
        go_wp2_with fail
        go_ret
        exact .inl ⟨HE.out.2, rfl, hK9.al_ _⟩
      · have hlt : ¬ 2 + (d : Int) < 5 := by omega
        have hK9 := HSP addI
        rw [HST2.out, oddP_back hm] at hK9
        have HE : Hid (x / 4 < 4 ^ m ∧ k + 1 = (x / 4 + 1) * 4 ^ (n - m)) := ⟨div_pow HX.out.1, pow_next hm HX.out.2 (by rw [HD.out]; exact h3)⟩
        clear HSP
        unfold addI at hK9
        go_wp2_with fail
        go_roundw
        case rel => exact ⟨m, x / 4, by omega, by go_num, HE, hK9.al_ _⟩
        case measure => simp [intOf]
end Go.Proofs.YtkfbfainhmkkdaaGreat

namespace Go.Proofs.YtkfbfainhmkkdaaGreat
open Go.RowKit Go.Sort
/-- whether a program keeps a promise for all inputs -/
noncomputable def sfQ (b : Int) (n1 n2 n3 N : Nat) (kind arg : Int) (L : List Ins) : Bool := decide (failsL (badB L b n1 n2 n3 kind arg) N = [])
/-- the first program of strokes with q has n strokes and the number k -/
structure Found (q : List Ins → Bool) (M n k : Nat) : Prop where
  nM : n ≤ M
  kM : k < 4 ^ n
  yes : q (numP n k) = true
  less : ∀ n', n' < n → ∀ k', k' < 4 ^ n' → q (numP n' k') = false
  same : ∀ k', k' < k → q (numP n k') = false
theorem Found.one {q : List Ins → Bool} {M n k n' k' : Nat} (h : Found q M n k) (h' : Found q M n' k') : n = n' ∧ k = k' := by
  rcases Nat.lt_trichotomy n n' with hn | rfl | hn
  · have := h'.less n hn k h.kM; rw [h.yes] at this; cases this
  · rcases Nat.lt_trichotomy k k' with hk | rfl | hk
    · have := h'.same k hk; rw [h.yes] at this; cases this
    · exact ⟨rfl, rfl⟩
    · have := h.same k' hk; rw [h'.yes] at this; cases this
  · have := h.less n' hn k' h'.kM; rw [h'.yes] at this; cases this
open Classical in
noncomputable def bestP (q : List Ins → Bool) (M : Nat) : Option (List Ins) := if h : ∃ p : Nat × Nat, Found q M p.1 p.2 then some (numP (Classical.choose h).1 (Classical.choose h).2) else none
theorem best_some {q : List Ins → Bool} {M n k : Nat} (h : Found q M n k) : bestP q M = some (numP n k) := by
  have hx : ∃ p : Nat × Nat, Found q M p.1 p.2 := ⟨(n, k), h⟩
  unfold bestP
  rw [dif_pos hx]
  have := (Classical.choose_spec hx).one h
  rw [this.1, this.2]
theorem best_none {q : List Ins → Bool} {M : Nat} (h : ∀ n, n < M + 1 → ∀ k, k < 4 ^ n → q (numP n k) = false) : bestP q M = none := by
  unfold bestP
  rw [dif_neg]
  rintro ⟨⟨n, k⟩, hf⟩
  have h1 := h n (by have := hf.nM; simp at this; omega) k hf.kM
  have h2 := hf.yes
  simp only [] at h2
  rw [h1] at h2
  cases h2
def sfC0 (b z1 z2 z3 kind arg most : Int) : Int := if (isP kind arg && betB most 0 4) = false then 2 else inC b z1 z2 z3
noncomputable def sfB (b z1 z2 z3 kind arg most : Int) : Option (List Ins) := bestP (sfQ b z1.toNat z2.toNat z3.toNat (pw b z1.toNat * pw b z2.toNat).toNat kind arg) most.toNat
noncomputable def sfC (b z1 z2 z3 kind arg most : Int) : Int := if sfC0 b z1 z2 z3 kind arg most ≠ 0 then sfC0 b z1 z2 z3 kind arg most else if (sfB b z1 z2 z3 kind arg most).isSome then 0 else 3
noncomputable def sfL (b z1 z2 z3 kind arg most : Int) : List Ins := if sfC0 b z1 z2 z3 kind arg most ≠ 0 then [] else (sfB b z1 z2 z3 kind arg most).getD []
def SFRet (b z1 z2 z3 kind arg most : Int) (w : World) (e : Ending) (w' : World) : Prop := ∃ A c, e = .returned (.tuple #[.slice A (sfL b z1 z2 z3 kind arg most).length c, .int .i64 (sfC b z1 z2 z3 kind arg most)]) ∧ Kn w [rowIns (.slice A (sfL b z1 z2 z3 kind arg most).length c) (sfL b z1 z2 z3 kind arg most)] w'
theorem sf_bad {b z1 z2 z3 kind arg most : Int} (h : sfC0 b z1 z2 z3 kind arg most ≠ 0) : sfL b z1 z2 z3 kind arg most = [] ∧ sfC b z1 z2 z3 kind arg most = sfC0 b z1 z2 z3 kind arg most := by
  unfold sfL sfC
  rw [if_pos h, if_pos h]
  exact ⟨rfl, rfl⟩
theorem sfB_eq {b : Int} {n1 n2 n3 N M : Nat} {kind arg : Int} (hN : pw b n1 * pw b n2 = (N : Int)) : sfB b n1 n2 n3 kind arg M = bestP (sfQ b n1 n2 n3 N kind arg) M := by
  unfold sfB
  simp only [Int.toNat_natCast, hN]
theorem sf_found {b : Int} {n1 n2 n3 N M n k : Nat} {kind arg : Int} (h : sfC0 b n1 n2 n3 kind arg M = 0) (hN : pw b n1 * pw b n2 = (N : Int)) (hf : Found (sfQ b n1 n2 n3 N kind arg) M n k) : sfL b n1 n2 n3 kind arg M = numP n k ∧ sfC b n1 n2 n3 kind arg M = 0 := by
  have hn : ¬ (sfC0 b n1 n2 n3 kind arg M ≠ 0) := fun h2 => h2 h
  unfold sfL sfC
  rw [if_neg hn, if_neg hn, sfB_eq hN, best_some hf]
  exact ⟨rfl, rfl⟩
theorem sf_none {b : Int} {n1 n2 n3 N M : Nat} {kind arg : Int} (h : sfC0 b n1 n2 n3 kind arg M = 0) (hN : pw b n1 * pw b n2 = (N : Int)) (hf : ∀ n, n < M + 1 → ∀ k, k < 4 ^ n → sfQ b n1 n2 n3 N kind arg (numP n k) = false) : sfL b n1 n2 n3 kind arg M = [] ∧ sfC b n1 n2 n3 kind arg M = 3 := by
  have hn : ¬ (sfC0 b n1 n2 n3 kind arg M ≠ 0) := fun h2 => h2 h
  unfold sfL sfC
  rw [if_neg hn, if_neg hn, sfB_eq hN, best_none hf]
  exact ⟨rfl, rfl⟩
theorem sf_cases (b z1 z2 z3 kind arg most : Int) : sfC0 b z1 z2 z3 kind arg most ≠ 0 ∨ (sfC0 b z1 z2 z3 kind arg most = 0 ∧ inC b z1 z2 z3 = 0 ∧ isP kind arg = true ∧ ∃ n1 n2 n3 N M : Nat, z1 = n1 ∧ z2 = n2 ∧ z3 = n3 ∧ most = M ∧ M ≤ 4 ∧ NmB b n1 n2 n3 ∧ ¬ 256 < pw b n1 * pw b n2 ∧ pw b n1 * pw b n2 = (N : Int) ∧ N ≤ 256) := by
  by_cases h : sfC0 b z1 z2 z3 kind arg most = 0
  · refine .inr ⟨h, ?_⟩
    unfold sfC0 at h
    split at h
    · cases h
    rename_i hm
    have hm : isP kind arg = true ∧ betB most 0 4 = true := by simpa using hm
    have hm2 := betB_iff.1 hm.2
    rcases inC_cases b z1 z2 z3 with h2 | ⟨-, n1, n2, n3, e1, e2, e3, hB, hbig⟩
    · exact absurd h h2
    · have hm0 : 0 ≤ pw b n1 * pw b n2 := Int.mul_nonneg (by have := hB.q1; omega) (by have := hB.q2; omega)
      obtain ⟨N, hN⟩ := Int.eq_ofNat_of_zero_le hm0
      obtain ⟨M, hM⟩ := Int.eq_ofNat_of_zero_le hm2.1
      exact ⟨h, hm.1, n1, n2, n3, N, M, e1, e2, e3, hM, by omega, hB, hbig, hN, by omega⟩
  · exact .inl h
theorem sfL_len (b z1 z2 z3 kind arg most : Int) : (sfL b z1 z2 z3 kind arg most).length ≤ 4 := by
  rcases sf_cases b z1 z2 z3 kind arg most with h | ⟨h, -, -, n1, n2, n3, N, M, rfl, rfl, rfl, rfl, hM, hB, hbig, hN, hN2⟩
  · rw [(sf_bad h).1]; simp
  · by_cases hx : ∃ p : Nat × Nat, Found (sfQ b n1 n2 n3 N kind arg) M p.1 p.2
    · obtain ⟨⟨n, k⟩, hf⟩ := hx
      rw [(sf_found h hN hf).1, numP_len]
      have := hf.nM
      simp at this
      omega
    · have hn : ¬ (sfC0 b n1 n2 n3 kind arg M ≠ 0) := fun h2 => h2 h
      unfold sfL
      rw [if_neg hn, sfB_eq hN]
      unfold bestP
      rw [dif_neg hx]
      simp
set_option maxRecDepth 100000 in
set_option maxHeartbeats 6400000 in
theorem specShortestFor_any (b z1 z2 z3 kind arg most : Int) (w : World) :
    Calls Tryz.prog 39 #[.int .i64 b, .int .i64 z1, .int .i64 z2, .int .i64 z3, .int .i64 kind, .int .i64 arg, .int .i64 most] w (SFRet b z1 z2 z3 kind arg most w) := by
  unfold SFRet
  have KB0 := (fun W => l00In_any most 0 4 W)
  have KA0 := (fun W => l14Arg_any kind arg W)
  have KS0 := (fun W => l14Size_any b z1 z2 z3 W)
  rcases sf_cases b z1 z2 z3 kind arg most with hb | ⟨h0, hi0, hk0, n1, n2, n3, N, M, rfl, rfl, rfl, rfl, hM, hB, hbig, hN, hN2⟩
  · have HB0 := sf_bad hb
    rcases hn : nmOk b z1 z2 z3 with _ | _
    · have KN := Lib.hid (fun W => specNewMachine_no b z1 z2 z3 W hn)
      have HB := Lib.hid (show sfL b z1 z2 z3 kind arg most = [] ∧ sfC b z1 z2 z3 kind arg most = 2 from ⟨HB0.1, by rw [HB0.2]; unfold sfC0; rw [inC_no hn]; split <;> rfl⟩)
      clear hn hb KB0 KS0 KA0 HB0
      go_enter Tryz.func39, Tryz.ntmps39
      go_wp2_with fail
      (with_reducible refine (KN.out _).mono ?_); rintro e w2 ⟨rfl, hw⟩
      have hK2 := (Kn.nil w).keep hw
      go_wp2_with fail
      go_ret2
      refine ⟨none, 0, ?_, ?_⟩
      · rw [HB.out.1, HB.out.2]; rfl
      · rw [HB.out.1]
        exact (hK2.al_ _).nilIns
    obtain ⟨n1, n2, n3, rfl, rfl, rfl, hB⟩ := nmOk_true hn
    have KN := Lib.hid (fun W => specNewMachine_yes W hB)
    rcases ha : isP kind arg with _ | _
    · have HB := Lib.hid (show sfL b n1 n2 n3 kind arg most = [] ∧ sfC b n1 n2 n3 kind arg most = 2 from ⟨HB0.1, by rw [HB0.2]; unfold sfC0; rw [ha]; rfl⟩)
      rw [ha] at KA0
      have KA := Lib.hid KA0
      clear hb KS0 hB hn KB0 KA0 HB0 ha
      go_enter Tryz.func39, Tryz.ntmps39
      go_wp2_with fail
      (with_reducible refine (KN.out _).mono ?_); rintro e w2 ⟨E1, g1, E2, g2, E3, g3, rfl, hKn⟩
      go_wp2_with (go_at_call 90; refine (KA.out _).mono ?_; rintro e w' ⟨rfl, rfl⟩)
      go_ret2
      refine ⟨none, 0, ?_, ?_⟩
      · rw [HB.out.1, HB.out.2]; rfl
      · rw [HB.out.1]
        exact ((hKn.bare).al_ _).nilIns
    rw [ha] at KA0
    have KA := Lib.hid KA0
    rcases hm : betB most 0 4 with _ | _
    · have HB := Lib.hid (show sfL b n1 n2 n3 kind arg most = [] ∧ sfC b n1 n2 n3 kind arg most = 2 from ⟨HB0.1, by rw [HB0.2]; unfold sfC0; rw [ha, hm]; rfl⟩)
      rw [hm] at KB0
      have KB := Lib.hid KB0
      clear hm hb KS0 hB hn KB0 KA0 HB0 ha
      go_enter Tryz.func39, Tryz.ntmps39
      go_wp2_with fail
      (with_reducible refine (KN.out _).mono ?_); rintro e w2 ⟨E1, g1, E2, g2, E3, g3, rfl, hKn⟩
      go_wp2_with (first | (go_at_call 90; refine (KA.out _).mono ?_; rintro e w' ⟨rfl, rfl⟩) | (go_at_call 59; refine (KB.out _).mono ?_; rintro e w' ⟨rfl, rfl⟩))
      go_ret2
      refine ⟨none, 0, ?_, ?_⟩
      · rw [HB.out.1, HB.out.2]; rfl
      · rw [HB.out.1]
        exact ((hKn.bare).al_ _).nilIns
    · have HC := (show sfC0 b n1 n2 n3 kind arg most = inC b n1 n2 n3 by unfold sfC0; rw [ha, hm]; rfl)
      rw [HC] at hb HB0
      rw [hm] at KB0
      have KB := Lib.hid KB0
      obtain ⟨c, hc⟩ : ∃ c, inC b n1 n2 n3 = c := ⟨_, rfl⟩
      rw [hc] at KS0 hb HB0
      have HB := Lib.hid HB0
      have KS := Lib.hid KS0
      have hcb : (c != 0) = true := by simpa using hb
      have hcb2 : (c == 0) = false := by simpa using hb
      clear hm hb hc HC hB hn KB0 KS0 KA0 ha HB0
      go_enter Tryz.func39, Tryz.ntmps39
      go_wp2_with fail
      (with_reducible refine (KN.out _).mono ?_); rintro e w2 ⟨E1, g1, E2, g2, E3, g3, rfl, hKn⟩
      go_wp2_with (first | (go_at_call 90; refine (KA.out _).mono ?_; rintro e w' ⟨rfl, rfl⟩) | (go_at_call 59; refine (KB.out _).mono ?_; rintro e w' ⟨rfl, rfl⟩))
      refine Calls.kn (hKn.bare.al_ _) ?_; intro w3 hK3
      (with_reducible refine (KS.out _).mono ?_); rintro e w4 ⟨rfl, hw⟩
      have hK4 := hK3.keep hw
      go_wp2_with fail
      go_ret2
      refine ⟨none, 0, ?_, ?_⟩
      · rw [HB.out.1, HB.out.2]; rfl
      · rw [HB.out.1]
        exact hK4.nilIns
  have KB := Lib.hid (fun W => calls_val (l00In_any (M : Int) 0 4 W) (congrArg Value.bool (betB_iff.2 (show (0 : Int) ≤ M ∧ (M : Int) ≤ 4 by omega))))
  have KA := Lib.hid (fun W => calls_val (l14Arg_any kind arg W) (congrArg Value.bool hk0))
  have KN := Lib.hid (fun W => specNewMachine_yes W hB)
  have KS := Lib.hid (fun W => calls_val (l14Size_any b n1 n2 n3 W) (congrArg (Value.int .i64) hi0))
  have KF := (fun (n k : Nat) (hn : n ≤ 4) (LA : Option Addr) (lc : Nat) W hr => l14First_any (L := numP n k) (n := n) (lc := lc) (LA := LA) kind arg W hB hN hN2 (numP_ok n k hn) hr hk0)
  have HOK := Lib.hid (fun L => show sfQ b n1 n2 n3 N kind arg L = decide (failsL (badB L b n1 n2 n3 kind arg) N = []) from rfl)
  have HFD := Lib.hid (fun n k => sf_found (M := M) (n := n) (k := k) h0 hN)
  have HNO := Lib.hid (sf_none (M := M) h0 hN)
  have KF := Lib.hid KF
  clear h0 hi0 hk0 hB hbig hN KB0 KS0 KA0
  obtain ⟨q, hq⟩ : ∃ q, sfQ b n1 n2 n3 N kind arg = q := ⟨_, rfl⟩
  have HFD := HFD.out
  have HNO := HNO.out
  have HOK := HOK.out
  rw [hq] at HOK HNO
  simp only [hq] at HFD
  have HFD := Lib.hid HFD
  have HNO := Lib.hid HNO
  have HOK := Lib.hid HOK
  clear hq
  go_enter Tryz.func39, Tryz.ntmps39
  go_wp2_with fail
  (with_reducible refine (KN.out _).mono ?_); rintro e w2 ⟨E1, g1, E2, g2, E3, g3, rfl, hKn⟩
  go_wp2_with (first | (go_at_call 90; refine (KA.out _).mono ?_; rintro e w' ⟨rfl, rfl⟩) | (go_at_call 59; refine (KB.out _).mono ?_; rintro e w' ⟨rfl, rfl⟩))
  refine Calls.kn (hKn.bare.al_ _) ?_; intro w3 hK3
  (with_reducible refine (KS.out _).mono ?_); rintro e w4 ⟨rfl, hw⟩
  have hK4 := hK3.keep hw
  go_wp2_with fail
  clear hKn hK3 hw
  go_loopw [18] (fun ii wr => ∃ (n : Nat), n ≤ M + 1 ∧ ii = .int .i64 n ∧ Hid (∀ n', n' < n → ∀ k', k' < 4 ^ n' → q (numP n' k') = false) ∧ Kn w [] wr) (fun ii _ => M + 1 - (intOf ii).toNat)
  case atStart => exact ⟨0, Nat.zero_le _, rfl, Lib.hid (fun n' h => absurd h (Nat.not_lt_zero _)), hK4⟩
  case round =>
    obtain ⟨n, hn, rfl, HLS, hK⟩ := hrel
    clear hK4
    obtain ⟨wo, hwo⟩ : ∃ wo : World, wo = wr := ⟨_, rfl⟩
    subst hwo
    by_cases hnM : n < M + 1
    · have hi1 : (n : Int) ≤ (M : Int) := by omega
      have hn4 : n ≤ 4 := by omega
      go_wp2_with fail
      have hK1 := ((hK.al [] 80).litRow (size := 2) (n := 0) rfl (by decide))
      go_loopw [19, 20] (fun vv kk wr => ∃ (k g c : Nat), k ≤ n ∧ kk = .int .i64 k ∧ vv = .slice (some ⟨g, 0, none⟩) k c ∧ Kn w [rowInsN (some ⟨g, 0, none⟩) k c (List.replicate k addI)] wr) (fun _ kk _ => n - (intOf kk).toNat)
      case atStart => exact ⟨0, wo.heap.size, 0, Nat.zero_le _, rfl, rfl, hK1⟩
      case round =>
        obtain ⟨k, g, c, hk, rfl, rfl, hK2⟩ := hrel
        clear hK1 hK
        by_cases hkn : k < n
        · have hk1 : (k : Int) < (n : Int) := by omega
          have HRP := Lib.hid (show List.replicate (k + 1) addI = List.replicate k addI ++ [⟨2, 1⟩] from List.replicate_succ')
          have hdl : (List.replicate k addI).length = k := List.length_replicate
          obtain ⟨ds, hds⟩ : ∃ ds, List.replicate k addI = ds := ⟨_, rfl⟩
          rw [hds] at hK2 hdl HRP
          have hK3 : Kn w [rowIns (.slice (some ⟨g, 0, none⟩) k c) ds] wr := by unfold rowIns; rw [hdl]; exact hK2
          have HDL := Lib.hid hdl
          have hl9 : ds.length ≤ 100 := by omega
          clear hds hdl hK2
          go_wp2_with (at_builtin; refine kn_pushIns (m := []) (ys := [⟨2, 1⟩]) rfl _ _ rfl _ ds rfl rfl (hK3.al [.int .i64 2, .int .i64 1] 80) (by simp; omega) ?_; intro v3 w3 hK4; obtain ⟨g', c', rfl⟩ := Kn.rowForm hK4 (by simp))
          go_roundw
          case rel =>
            have hl2 : (ds ++ [(⟨2, 1⟩ : Ins)]).length = k + 1 := by rw [List.length_append, HDL.out]; rfl
            refine ⟨k + 1, g', c', by omega, by go_num, by rw [HDL.out], ?_⟩
            rw [HRP.out]
            unfold rowIns at hK4
            rw [hl2] at hK4
            exact hK4
          case measure => simp [intOf]; omega
        · have hk1 : ¬ (k : Int) < (n : Int) := by omega
          obtain rfl : k = n := by omega
          rw [← numP_zero] at hK2
          go_wp2_with fail
          go_loopg [21] (4 ^ k) (fun gk mm wr => (∃ x, mm = .bool true ∧ x < 4 ^ k ∧ gk = 4 ^ k - x ∧ Hid (∀ k', k' < x → q (numP k k') = false) ∧ Kn w [rowInsN (some ⟨g, 0, none⟩) k c (numP k x)] wr) ∨ (mm = .bool false ∧ Hid (∀ k', k' < 4 ^ k → q (numP k k') = false) ∧ Kn w [] wr))
          case atStart => exact .inl ⟨0, rfl, Nat.pow_pos (by decide), rfl, Lib.hid (fun k' h => absurd h (Nat.not_lt_zero _)), hK2⟩
          case round =>
            clear hK2
            rcases hrel with ⟨x, rfl, hx, hgk, HSM, hK3⟩ | ⟨rfl, HSM, hK3⟩
            · have HX := Lib.hid hx
              have HGK := Lib.hid hgk
              have KF1 := KF.out k x hn4 (some ⟨g, 0, none⟩) c
              have HO := HOK.out (numP k x)
              have hhd := head_neg (p := badB (numP k x) b n1 n2 n3 kind arg) (N := N)
              obtain ⟨rs, hrs⟩ : ∃ rs, failsL (badB (numP k x) b n1 n2 n3 kind arg) N = rs := ⟨_, rfl⟩
              rw [hrs] at KF1 hhd HO
              obtain ⟨z, hz⟩ : ∃ z, rs.headD (-1) = z := ⟨_, rfl⟩
              rw [hz] at KF1 hhd
              have KF1 := Lib.hid KF1
              have HO := Lib.hid HO
              clear hrs hz hx hgk
              rcases hhd with ⟨hf, rfl⟩ | ⟨hf, h2, h3, h4⟩
              · have HB := Lib.hid (HFD.out k x ⟨by omega, HX.out, by rw [HO.out, hf]; simp, HLS.out, HSM.out⟩)
                clear hf
                go_wp2_with fail
                (refine (KF1.out _ (hK3.rlInsN (numP_len _ _))).mono ?_); rintro e w5 ⟨rfl, hw⟩
                have hK4 := hK3.keep hw
                clear hw
                go_wp2_with fail
                go_ret2
                refine ⟨some ⟨g, 0, none⟩, c, ?_, ?_⟩
                · rw [HB.out.1, HB.out.2, numP_len]; rfl
                · rw [HB.out.1]
                  unfold rowIns
                  rw [numP_len]
                  exact hK4
              · have HNQ := Lib.hid (show q (numP k x) = false by rw [HO.out]; simpa using hf)
                rw [← h2] at h3 h4
                have hz0 : ¬ z < 0 := by omega
                clear hf h2
                go_wp2_with fail
                (refine (KF1.out _ (hK3.rlInsN (numP_len _ _))).mono ?_); rintro e w5 ⟨rfl, hw⟩
                have hK4 := hK3.keep hw
                clear hw hK3
                go_wp2_with fail
                refine (l14Next_any g k c x _ hn4 HX.out hK4).mono ?_; rintro e w6 (⟨hlt, rfl, hK5⟩ | ⟨heq, rfl, hK5⟩)
                · have HLT := Lib.hid hlt
                  clear hlt
                  go_wp2_with fail
                  go_roundg (4 ^ k - (x + 1))
                  case rel =>
                    refine .inl ⟨x + 1, rfl, HLT.out, rfl, Lib.hid (fun k' h => ?_), hK5⟩
                    rcases Nat.lt_or_ge k' x with h1 | h1
                    · exact HSM.out k' h1
                    · obtain rfl : k' = x := by omega
                      exact HNQ.out
                  case measure => have := HX.out; have := HGK.out; omega
                · have HEQ := Lib.hid heq
                  clear heq
                  go_wp2_with fail
                  go_roundg 0
                  case rel =>
                    refine .inr ⟨rfl, Lib.hid (fun k' h => ?_), hK5.bare⟩
                    rcases Nat.lt_or_ge k' x with h1 | h1
                    · exact HSM.out k' h1
                    · obtain rfl : k' = x := by have := HEQ.out; omega
                      exact HNQ.out
                  case measure => have := HX.out; have := HGK.out; omega
            · go_wp2_with fail
              go_roundw
              case rel =>
                refine ⟨k + 1, by omega, by go_num, Lib.hid (fun n' h => ?_), hK3⟩
                rcases Nat.lt_or_ge n' k with h1 | h1
                · exact HLS.out n' h1
                · obtain rfl : n' = k := by omega
                  exact HSM.out
              case measure => simp [intOf]; omega
    · have hi1 : ¬ (n : Int) ≤ (M : Int) := by omega
      have hnn : n = M + 1 := by omega
      have HB := Lib.hid (HNO.out (by rw [← hnn]; exact HLS.out))
      clear hnn
      go_wp2_with fail
      go_ret2
      refine ⟨none, 0, ?_, ?_⟩
      · rw [HB.out.1, HB.out.2]; rfl
      · rw [HB.out.1]
        exact hK.nilIns
end Go.Proofs.YtkfbfainhmkkdaaGreat

namespace Go.Proofs.YtkfbfainhmkkdaaGreat
open Go.RowKit Go.Sort
/-- whether a digit is turned as it is -/
def fewC (b n : Int) : Bool := decide (2 * n.tmod b < b) || (decide (2 * n.tmod b = b) && decide (2 * (n.tdiv b).tmod b < b - 1))
def turnD (sh : Bool) (b n : Int) : Int := if sh = true ∧ fewC b n = false then n.tmod b - b else n.tmod b
def turnN (sh : Bool) (b n : Int) : Int := if sh = true ∧ fewC b n = false then n.tdiv b + 1 else n.tdiv b
/-- the turns for a factor, at most so many -/
def turnF (sh : Bool) (b : Int) : Nat → Int → List Int
  | 0, _ => []
  | g + 1, n => if 0 < n then turnD sh b n :: turnF sh b g (turnN sh b n) else []
def fb : Nat → Int
  | 0 => 0
  | 1 => 1
  | 2 => 2
  | g + 3 => 2 * fb (g + 2) - 1
def turnL (sh : Bool) (b n : Int) : List Int := turnF sh b 30 n
theorem fb_pos (g : Nat) : 2 ≤ fb (g + 2) := by
  induction g with
  | zero => decide
  | succ g ih => show 2 ≤ 2 * fb (g + 2) - 1; omega
theorem tdm {b n : Int} (hb : 2 ≤ b) (h : 0 ≤ n) : 0 ≤ n.tmod b ∧ n.tmod b < b ∧ 0 ≤ n.tdiv b ∧ b * n.tdiv b + n.tmod b = n := by
  rw [Int.tmod_eq_emod_of_nonneg h, Int.tdiv_eq_ediv_of_nonneg h]
  exact ⟨Int.emod_nonneg _ (by omega), Int.emod_lt_of_pos _ (by omega), Int.ediv_nonneg h (by omega), Int.mul_ediv_add_emod n b⟩
theorem tdm_half {b n : Int} (hb : 2 ≤ b) (h : 0 ≤ n) : 2 * n.tdiv b ≤ n := by
  obtain ⟨h1, h2, h3, h4⟩ := tdm hb h
  have := Int.mul_le_mul_of_nonneg_right hb h3
  omega
theorem fewC_false {b n : Int} (h : fewC b n = false) : ¬ 2 * n.tmod b < b ∧ ¬ (2 * n.tmod b = b ∧ 2 * (n.tdiv b).tmod b < b - 1) := by
  unfold fewC at h
  simp only [Bool.or_eq_false_iff, decide_eq_false_iff_not, Bool.and_eq_false_iff] at h
  exact ⟨h.1, fun h2 => h.2.elim (fun x => x h2.1) (fun x => x h2.2)⟩
theorem turn_step {sh : Bool} {b n : Int} {g : Nat} (hb : 2 ≤ b) (h0 : 0 < n) (hg : n ≤ fb (g + 1)) : 0 ≤ turnN sh b n ∧ turnN sh b n < n ∧ turnN sh b n ≤ fb g := by
  have h2 := tdm_half hb (Int.le_of_lt h0)
  obtain ⟨q1, q2, q3, q4⟩ := tdm hb (Int.le_of_lt h0)
  have hlt : 0 ≤ turnN sh b n ∧ turnN sh b n < n ∧ 2 * turnN sh b n ≤ n + 2 := by
    unfold turnN
    split
    · rename_i hf
      have hc := fewC_false hf.2
      have hn : ¬ (n ≤ 2 ∧ n.tdiv b ≠ 0) ∨ n.tdiv b = 1 := by omega
      refine ⟨by omega, ?_, by omega⟩
      rcases Int.lt_or_le n 3 with h3 | h3
      · rcases Int.lt_or_le b 3 with h4 | h4
        · obtain rfl : b = 2 := by omega
          have : n = 1 ∨ n = 2 := by omega
          rcases this with rfl | rfl
          · exact absurd (by decide : (2 * Int.tmod 1 2 = 2 ∧ 2 * Int.tmod (Int.tdiv 1 2) 2 < 2 - 1)) hc.2
          · exact absurd (by decide : (2 * Int.tmod 2 2 < 2)) hc.1
        · have hz : n.tdiv b = 0 := by
            rw [Int.tdiv_eq_ediv_of_nonneg (by omega)]; exact Int.ediv_eq_zero_of_lt (by omega) (by omega)
          rw [hz] at q4 ⊢
          have : n ≠ 1 := by
            rintro rfl
            apply hc.1
            omega
          omega
      · omega
    · omega
  refine ⟨hlt.1, hlt.2.1, ?_⟩
  rcases g with _ | _ | g
  · have h5 : n ≤ 1 := hg
    show turnN sh b n ≤ 0
    omega
  · have h5 : n ≤ 2 := hg
    show turnN sh b n ≤ 1
    omega
  · have h5 : fb (g + 3) = 2 * fb (g + 2) - 1 := rfl
    have h6 : n ≤ fb (g + 3) := hg
    show turnN sh b n ≤ fb (g + 2)
    omega
theorem turnD_bd {sh : Bool} {b n : Int} (hb : 2 ≤ b) (h0 : 0 ≤ n) : -b ≤ turnD sh b n ∧ turnD sh b n ≤ b := by
  obtain ⟨q1, q2, q3, q4⟩ := tdm hb h0
  unfold turnD
  split <;> omega
theorem turnF_succ {sh : Bool} {b n : Int} {g : Nat} (h : 0 < n) : turnF sh b (g + 1) n = turnD sh b n :: turnF sh b g (turnN sh b n) := if_pos h
theorem turnF_zero {sh : Bool} {b n : Int} {g : Nat} (h : ¬ 0 < n) : turnF sh b g n = [] := by
  cases g with
  | zero => rfl
  | succ g => exact if_neg h
theorem turnF_len (sh : Bool) (b : Int) (g : Nat) (n : Int) : (turnF sh b g n).length ≤ g := by
  induction g generalizing n with
  | zero => simp [turnF]
  | succ g ih =>
    unfold turnF
    split
    · rw [List.length_cons]; have := ih (turnN sh b n); omega
    · rw [List.length_nil]; omega
theorem turnF_bd (sh : Bool) {b : Int} (hb : 2 ≤ b) (g : Nat) (n : Int) (h0 : 0 ≤ n) (hg : n ≤ fb g) : ∀ d ∈ turnF sh b g n, -b ≤ d ∧ d ≤ b := by
  induction g generalizing n with
  | zero => intro d hd; simp [turnF] at hd
  | succ g ih =>
    intro d hd
    by_cases h : 0 < n
    · rw [turnF_succ h] at hd
      rcases List.mem_cons.1 hd with rfl | hd
      · exact turnD_bd hb h0
      · have := turn_step (sh := sh) hb h hg
        exact ih _ this.1 this.2.2 d hd
    · rw [turnF_zero h] at hd; cases hd
/-- the program of turns -/
def mulIns (k : Nat) (n : Int) : List Ins := (if 0 < k then [⟨4, 1⟩] else []) ++ (if 0 < n then [⟨2, n⟩] else if n < 0 then [⟨3, -n⟩] else [])
def mulUpto (ts : List Int) : Nat → List Ins
  | 0 => []
  | k + 1 => mulUpto ts k ++ mulIns k (ts.getD k 0)
def mulP (ts : List Int) : List Ins := mulUpto ts ts.length
theorem mulIns_len (k : Nat) (n : Int) : (mulIns k n).length ≤ 2 := by
  unfold mulIns
  rw [List.length_append]
  repeat' split
  all_goals simp
theorem mulUpto_len (ts : List Int) (k : Nat) : (mulUpto ts k).length ≤ 2 * k := by
  induction k with
  | zero => simp [mulUpto]
  | succ k ih => unfold mulUpto; rw [List.length_append]; have := mulIns_len k (ts.getD k 0); omega
theorem vprog_simple {xs : List Ins} (h : ∀ x ∈ xs, instrOk x.op x.arg = true ∧ x.op ≤ 7) (hl : xs.length ≤ 120) : vprog xs = true := by
  have hd : ∀ (ys : List Ins), (∀ x ∈ ys, instrOk x.op x.arg = true ∧ x.op ≤ 7) → ys.foldl stepI (some 0) = some 0 := by
    intro ys
    induction ys with
    | nil => intro _; rfl
    | cons y ys ih =>
      intro hy
      obtain ⟨h1, h2⟩ := hy y (List.mem_cons_self ..)
      have hs : stepI (some 0) y = some 0 := by
        unfold stepI
        simp only [Option.bind_some, h1, if_true]
        unfold depthStep opens
        rw [if_neg (by omega), if_neg (by simp; omega)]
      rw [List.foldl_cons, hs]
      exact ih (fun x hx => hy x (List.mem_cons_of_mem _ hx))
  unfold vprog progD
  rw [hd xs h]
  simp [hl]
theorem mulUpto_ok {ts : List Int} (h : ∀ d ∈ ts, -16 ≤ d ∧ d ≤ 16) (k : Nat) (hk : k ≤ ts.length) : ∀ x ∈ mulUpto ts k, instrOk x.op x.arg = true ∧ x.op ≤ 7 := by
  induction k with
  | zero => intro x hx; simp [mulUpto] at hx
  | succ k ih =>
    intro x hx
    unfold mulUpto at hx
    rcases List.mem_append.1 hx with hx | hx
    · exact ih (by omega) x hx
    · have hd := h ts[k] (List.getElem_mem _)
      rw [getD_of (by omega)] at hx
      unfold mulIns at hx
      rcases List.mem_append.1 hx with hx | hx
      · split at hx
        · rw [List.mem_singleton.1 hx]; exact ⟨by decide, by decide⟩
        · cases hx
      · split at hx
        · rw [List.mem_singleton.1 hx]
          refine ⟨?_, by show (2 : Int) ≤ 7; decide⟩
          simp only [instrOk, betB]
          simp; omega
        · split at hx
          · rw [List.mem_singleton.1 hx]
            refine ⟨?_, by show (3 : Int) ≤ 7; decide⟩
            simp only [instrOk, betB]
            simp; omega
          · cases hx
theorem mulP_ok {sh : Bool} {b n : Int} (hb : 2 ≤ b) (hb2 : b ≤ 16) (h0 : 0 ≤ n) (h1 : n ≤ 62500000) : vprog (mulP (turnL sh b n)) = true := by
  have hl := turnF_len sh b 30 n
  have hbd := turnF_bd sh hb 30 n h0 (Int.le_trans h1 (by decide))
  refine vprog_simple (mulUpto_ok (fun d hd => by have := hbd d hd; omega) _ (Nat.le_refl _)) ?_
  have := mulUpto_len (turnL sh b n) (turnL sh b n).length
  show (mulUpto (turnL sh b n) (turnL sh b n).length).length ≤ 120
  unfold turnL at this ⊢
  omega
end Go.Proofs.YtkfbfainhmkkdaaGreat

namespace Go.Proofs.YtkfbfainhmkkdaaGreat
open Go.RowKit Go.Sort
def trnC (b f : Int) : Int := if (betB b 2 16 && betB f 0 62500000) = true then 0 else 2
theorem isTurnsInput_any (b f : Int) (w : World) : Calls Tryz.prog 65 #[.int .i64 b, .int .i64 f] w fun e w' => e = .returned (.bool (betB b 2 16 && betB f 0 62500000)) ∧ w = w' := by
  have KB := (fun W => isBase_any b W)
  rcases hb : betB b 2 16 with _ | _
  all_goals
    rw [hb] at KB
    have KB := Lib.hid KB
    clear hb
    go_enter Tryz.func65, Tryz.ntmps65
    go_wp2_with (first | (go_at_call 113; refine (KB.out _).mono ?_; rintro e w' ⟨rfl, rfl⟩) | (go_at_call 51; refine (between_any _ _ _ _).mono ?_; rintro e w' ⟨rfl, rfl⟩))
    go_ret
    exact ⟨by simp, rfl⟩
theorem l13Code_any (b f : Int) (w : World) : Calls Tryz.prog 115 #[.int .i64 b, .int .i64 f] w fun e w' => e = .returned (.int .i64 (trnC b f)) ∧ w = w' := by
  have KB := (fun W => l02Base_any b W)
  have KF := (fun W => l00In_any f 0 62500000 W)
  rcases hb : betB b 2 16 with _ | _
  · have HF := Lib.hid (show trnC b f = 2 by unfold trnC; rw [hb]; rfl)
    rw [hb] at KB
    have KB := Lib.hid KB
    clear hb
    go_enter Tryz.func115, Tryz.ntmps115
    go_wp2_with (first | (go_at_call 131; refine (KB.out _).mono ?_; rintro e w' ⟨rfl, rfl⟩))
    go_ret
    exact ⟨ret_int HF.out.symm, rfl⟩
  · rcases hf : betB f 0 62500000 with _ | _
    · have HF := Lib.hid (show trnC b f = 2 by unfold trnC; rw [hb, hf]; rfl)
      rw [hb] at KB
      rw [hf] at KF
      have KB := Lib.hid KB
      have KF := Lib.hid KF
      clear hb hf
      go_enter Tryz.func115, Tryz.ntmps115
      go_wp2_with (first | (go_at_call 131; refine (KB.out _).mono ?_; rintro e w' ⟨rfl, rfl⟩) | (go_at_call 59; refine (KF.out _).mono ?_; rintro e w' ⟨rfl, rfl⟩))
      go_ret
      exact ⟨ret_int HF.out.symm, rfl⟩
    · have HF := Lib.hid (show trnC b f = 0 by unfold trnC; rw [hb, hf]; rfl)
      rw [hb] at KB
      rw [hf] at KF
      have KB := Lib.hid KB
      have KF := Lib.hid KF
      clear hb hf
      go_enter Tryz.func115, Tryz.ntmps115
      go_wp2_with (first | (go_at_call 131; refine (KB.out _).mono ?_; rintro e w' ⟨rfl, rfl⟩) | (go_at_call 59; refine (KF.out _).mono ?_; rintro e w' ⟨rfl, rfl⟩))
      go_ret
      exact ⟨ret_int HF.out.symm, rfl⟩
/-- what a round of turns' loop knows -/
structure TL (sh : Bool) (b : Int) (R : List Int) (g : Nat) (n : Int) (ts : List Int) : Prop where
  n0 : 0 ≤ n
  ng : n ≤ fb g
  len : ts.length + g ≤ 30
  all : ts ++ turnF sh b g n = R
theorem TL.start {sh : Bool} {b f : Int} (h0 : 0 ≤ f) (h1 : f ≤ 62500000) : TL sh b (turnL sh b f) 30 f [] :=
  ⟨h0, Int.le_trans h1 (by decide), by simp, rfl⟩
theorem TL.next {sh : Bool} {b n : Int} {R ts : List Int} {g : Nat} (h : TL sh b R g n ts) (hb : 2 ≤ b) (hn : 0 < n) : ∃ g', g = g' + 1 ∧ TL sh b R g' (turnN sh b n) (ts ++ [turnD sh b n]) ∧ turnN sh b n < n := by
  rcases g with _ | g
  · have h2 := h.ng
    have : fb 0 = 0 := rfl
    omega
  · have h3 := turn_step (sh := sh) hb hn h.ng
    refine ⟨g, rfl, ⟨h3.1, h3.2.2, ?_, ?_⟩, h3.2.1⟩
    · rw [List.length_append]; have := h.len; simp; omega
    · rw [List.append_assoc, ← h.all, turnF_succ hn]; rfl
theorem TL.done {sh : Bool} {b n : Int} {R ts : List Int} {g : Nat} (h : TL sh b R g n ts) (hn : ¬ 0 < n) : ts = R := by
  have := h.all
  rw [turnF_zero hn, List.append_nil] at this
  exact this
theorem fb_bd {g : Nat} (h : g ≤ 30) : fb g ≤ 1000000000 := by
  have H : ∀ g : Fin 31, fb g.val ≤ 1000000000 := by decide +kernel
  exact H ⟨g, by omega⟩
set_option maxRecDepth 100000 in
set_option maxHeartbeats 1600000 in
theorem plainTurns_any (b f : Int) (w : World) (hb : 2 ≤ b) (hb2 : b ≤ 16) (h0 : 0 ≤ f) (h1 : f ≤ 62500000) :
    Calls Tryz.prog 66 #[.int .i64 b, .int .i64 f] w fun e w' => ∃ A c, e = .returned (.slice A (turnL false b f).length c) ∧ Kn w [rowI A c (turnL false b f)] w' := by
  have nz1 : b ≠ 0 := by omega
  have nz2 : (b == 0) = false := by simp; omega
  have HS := Lib.hid (TL.start (sh := false) (b := b) h0 h1)
  obtain ⟨R, hR⟩ : ∃ R, turnL false b f = R := ⟨_, rfl⟩
  have HS := HS.out
  rw [hR] at HS
  rw [hR]
  have HS := Lib.hid HS
  clear hR
  go_enter Tryz.func66, Tryz.ntmps66
  go_wp2_with fail
  have hK1 := ((Kn.nil w).al [] 2).litRow (size := 1) (n := 0) rfl (by decide)
  go_loopw [5, 6] (fun tt nn wr => ∃ (g : Nat) (n : Int) (ts : List Int) (A : Option Addr) (c : Nat), TL false b R g n ts ∧ tt = .slice A ts.length c ∧ nn = .int .i64 n ∧ Kn w [rowI A c ts] wr) (fun _ nn _ => (intOf nn).toNat)
  case atStart => exact ⟨30, f, [], some ⟨w.heap.size, 0, none⟩, 0, HS.out, rfl, rfl, hK1⟩
  case round =>
    obtain ⟨g, n, ts, A, c, hT, rfl, rfl, hK⟩ := hrel
    clear hK1
    have hl := hT.len
    have n0 := hT.n0
    have ng := Int.le_trans hT.ng (fb_bd (by omega))
    by_cases hn : 0 < n
    · obtain ⟨g', rfl, hT2, hlt⟩ := hT.next hb hn
      obtain ⟨q1, q2, q3, q4⟩ := tdm hb n0
      have e1 : turnD false b n = n.tmod b := rfl
      have e2 : turnN false b n = n.tdiv b := rfl
      rw [e1, e2] at hT2
      rw [e2] at hlt
      obtain ⟨d, hd⟩ : ∃ d, n.tmod b = d := ⟨_, rfl⟩
      obtain ⟨r, hr⟩ : ∃ r, n.tdiv b = r := ⟨_, rfl⟩
      rw [hd, hr] at hT2
      rw [hr] at hlt q3
      rw [hd] at q1 q2
      have HT := Lib.hid hT2
      have wd : IntKind.i64.wrap d = d := wrapI64 (by omega)
      have wr' : IntKind.i64.wrap r = r := wrapI64 (by omega)
      have wd2 : IntKind.i64.wrap (n.tmod b) = d := by rw [hd]; exact wd
      have wr2 : IntKind.i64.wrap (n.tdiv b) = r := by rw [hr]; exact wr'
      clear hT hT2 e1 e2 q4
      go_wp2_with (at_builtin; refine kn_pushI rfl _ _ rfl _ ts rfl rfl (hK.al [.int .i64 d] 2) (by omega) ?_; intro v5 w6 hK9; obtain ⟨A5, c5, rfl⟩ := row_form hK9.at0)
      go_roundw
      case rel => exact ⟨g', r, ts ++ [d], A5, c5, HT.out, by simp, by go_num, hK9⟩
      case measure => simp [intOf]; omega
    · have HD := Lib.hid (hT.done hn)
      clear hT
      go_wp2_with fail
      go_ret
      exact ⟨A, c, (by rw [← HD.out]; rfl), by rw [← HD.out]; exact hK⟩
end Go.Proofs.YtkfbfainhmkkdaaGreat

namespace Go.Proofs.YtkfbfainhmkkdaaGreat
open Go.RowKit Go.Sort
/-- the ways in which a digit is turned -/
theorem few_ways (b n : Int) :
    (2 * n.tmod b < b ∧ turnD true b n = n.tmod b ∧ turnN true b n = n.tdiv b) ∨
    (¬ 2 * n.tmod b < b ∧ ¬ 2 * n.tmod b = b ∧ turnD true b n = n.tmod b - b ∧ turnN true b n = n.tdiv b + 1) ∨
    (¬ 2 * n.tmod b < b ∧ 2 * n.tmod b = b ∧ 2 * (n.tdiv b).tmod b < b - 1 ∧ turnD true b n = n.tmod b ∧ turnN true b n = n.tdiv b) ∨
    (¬ 2 * n.tmod b < b ∧ 2 * n.tmod b = b ∧ ¬ 2 * (n.tdiv b).tmod b < b - 1 ∧ turnD true b n = n.tmod b - b ∧ turnN true b n = n.tdiv b + 1) := by
  unfold turnD turnN
  by_cases h1 : 2 * n.tmod b < b
  · exact .inl ⟨h1, by rw [if_neg (by unfold fewC; simp [h1])], by rw [if_neg (by unfold fewC; simp [h1])]⟩
  · by_cases h2 : 2 * n.tmod b = b
    · by_cases h3 : 2 * (n.tdiv b).tmod b < b - 1
      · have hf : fewC b n = true := by unfold fewC; rw [decide_eq_true h2, decide_eq_true h3]; simp
        exact .inr (.inr (.inl ⟨h1, h2, h3, by rw [if_neg (by simp [hf])], by rw [if_neg (by simp [hf])]⟩))
      · have hf : fewC b n = false := by unfold fewC; rw [decide_eq_false h1, decide_eq_false h3]; simp
        exact .inr (.inr (.inr ⟨h1, h2, h3, by rw [if_pos ⟨rfl, hf⟩], by rw [if_pos ⟨rfl, hf⟩]⟩))
    · have hf : fewC b n = false := by unfold fewC; rw [decide_eq_false h1, decide_eq_false h2]; simp
      exact .inr (.inl ⟨h1, h2, by rw [if_pos ⟨rfl, hf⟩], by rw [if_pos ⟨rfl, hf⟩]⟩)
set_option maxRecDepth 100000 in
set_option maxHeartbeats 1600000 in
theorem fewestTurns_any (b f : Int) (w : World) (hb : 2 ≤ b) (hb2 : b ≤ 16) (h0 : 0 ≤ f) (h1 : f ≤ 62500000) :
    Calls Tryz.prog 67 #[.int .i64 b, .int .i64 f] w fun e w' => ∃ A c, e = .returned (.slice A (turnL true b f).length c) ∧ Kn w [rowI A c (turnL true b f)] w' := by
  have nz1 : b ≠ 0 := by omega
  have nz2 : (b == 0) = false := by simp; omega
  have HS := Lib.hid (TL.start (sh := true) (b := b) h0 h1)
  obtain ⟨R, hR⟩ : ∃ R, turnL true b f = R := ⟨_, rfl⟩
  have HS := HS.out
  rw [hR] at HS
  rw [hR]
  have HS := Lib.hid HS
  clear hR
  go_enter Tryz.func67, Tryz.ntmps67
  go_wp2_with fail
  have hK1 := ((Kn.nil w).al [] 2).litRow (size := 1) (n := 0) rfl (by decide)
  go_loopw [5, 6] (fun tt nn wr => ∃ (g : Nat) (n : Int) (ts : List Int) (A : Option Addr) (c : Nat), TL true b R g n ts ∧ tt = .slice A ts.length c ∧ nn = .int .i64 n ∧ Kn w [rowI A c ts] wr) (fun _ nn _ => (intOf nn).toNat)
  case atStart => exact ⟨30, f, [], some ⟨w.heap.size, 0, none⟩, 0, HS.out, rfl, rfl, hK1⟩
  case round =>
    obtain ⟨g, n, ts, A, c, hT, rfl, rfl, hK⟩ := hrel
    clear hK1
    have hl := hT.len
    have n0 := hT.n0
    have ng := Int.le_trans hT.ng (fb_bd (by omega))
    by_cases hn : 0 < n
    · obtain ⟨g', rfl, hT2, hlt⟩ := hT.next hb hn
      obtain ⟨q1, q2, q3, q4⟩ := tdm hb n0
      have hh := tdm_half hb n0
      obtain ⟨s1, s2, s3, s4⟩ := tdm hb q3
      have hw := few_ways b n
      obtain ⟨d, hd⟩ : ∃ d, n.tmod b = d := ⟨_, rfl⟩
      obtain ⟨r, hr⟩ : ∃ r, n.tdiv b = r := ⟨_, rfl⟩
      rw [hd, hr] at hw
      rw [hr] at q3 hh s1 s2
      rw [hd] at q1 q2
      obtain ⟨x, hx⟩ : ∃ x, r.tmod b = x := ⟨_, rfl⟩
      rw [hx] at hw s1 s2
      have wd : IntKind.i64.wrap d = d := wrapI64 (by omega)
      have wr' : IntKind.i64.wrap r = r := wrapI64 (by omega)
      have wx : IntKind.i64.wrap x = x := wrapI64 (by omega)
      have wd2 : IntKind.i64.wrap (n.tmod b) = d := by rw [hd]; exact wd
      have wr2 : IntKind.i64.wrap (n.tdiv b) = r := by rw [hr]; exact wr'
      have wx2 : IntKind.i64.wrap (r.tmod b) = x := by rw [hx]; exact wx
      have wdd : IntKind.i64.wrap (2 * d) = 2 * d := wrapI64 (by omega)
      have wxx : IntKind.i64.wrap (2 * x) = 2 * x := wrapI64 (by omega)
      have wb1 : IntKind.i64.wrap (b - 1) = b - 1 := wrapI64 (by omega)
      have wdb : IntKind.i64.wrap (d - b) = d - b := wrapI64 (by omega)
      have wr1 : IntKind.i64.wrap (r + 1) = r + 1 := wrapI64 (by omega)
      clear hT q4 s3 s4
      rcases hw with ⟨c1, e1, e2⟩ | ⟨c1, c2, e1, e2⟩ | ⟨c1, c2, c3, e1, e2⟩ | ⟨c1, c2, c3, e1, e2⟩
      all_goals
        rw [e1, e2] at hT2
        rw [e2] at hlt
        have HT := Lib.hid hT2
        clear hT2 e1 e2
      · go_wp2_with fail
        go_quiet (fail)
        have hK := hK.drewN nq
        generalize wr.drewN nq = wq at hK ⊢
        go_wp2_with (at_builtin; refine kn_pushI rfl _ _ rfl _ ts rfl rfl (hK.al [.int .i64 (d)] 2) (by omega) ?_; intro v5 w6 hK9; obtain ⟨A5, c5, rfl⟩ := row_form hK9.at0)
        go_roundw
        case rel => exact ⟨g', r, ts ++ [d], A5, c5, HT.out, by simp, by go_num, hK9⟩
        case measure => simp [intOf]; omega
      · go_wp2_with fail
        go_quiet (fail)
        have hK := hK.drewN nq
        generalize wr.drewN nq = wq at hK ⊢
        go_wp2_with (at_builtin; refine kn_pushI rfl _ _ rfl _ ts rfl rfl (hK.al [.int .i64 (d - b)] 2) (by omega) ?_; intro v5 w6 hK9; obtain ⟨A5, c5, rfl⟩ := row_form hK9.at0)
        go_roundw
        case rel => exact ⟨g', r + 1, ts ++ [d - b], A5, c5, HT.out, by simp, by go_num, hK9⟩
        case measure => simp [intOf]; omega
      · go_wp2_with fail
        go_quiet (fail)
        have hK := hK.drewN nq
        generalize wr.drewN nq = wq at hK ⊢
        go_wp2_with (at_builtin; refine kn_pushI rfl _ _ rfl _ ts rfl rfl (hK.al [.int .i64 (d)] 2) (by omega) ?_; intro v5 w6 hK9; obtain ⟨A5, c5, rfl⟩ := row_form hK9.at0)
        go_roundw
        case rel => exact ⟨g', r, ts ++ [d], A5, c5, HT.out, by simp, by go_num, hK9⟩
        case measure => simp [intOf]; omega
      · go_wp2_with fail
        go_quiet (fail)
        have hK := hK.drewN nq
        generalize wr.drewN nq = wq at hK ⊢
        go_wp2_with (at_builtin; refine kn_pushI rfl _ _ rfl _ ts rfl rfl (hK.al [.int .i64 (d - b)] 2) (by omega) ?_; intro v5 w6 hK9; obtain ⟨A5, c5, rfl⟩ := row_form hK9.at0)
        go_roundw
        case rel => exact ⟨g', r + 1, ts ++ [d - b], A5, c5, HT.out, by simp, by go_num, hK9⟩
        case measure => simp [intOf]; omega
    · have HD := Lib.hid (hT.done hn)
      clear hT
      go_wp2_with fail
      go_ret
      exact ⟨A, c, (by rw [← HD.out]; rfl), by rw [← HD.out]; exact hK⟩
set_option maxRecDepth 100000 in
set_option maxHeartbeats 3200000 in
theorem l13Few_any (b f : Int) (w : World) (hb : 2 ≤ b) (hb2 : b ≤ 16) (h0 : 0 ≤ f) (h1 : f ≤ 62500000) :
    Calls Tryz.prog 116 #[.int .i64 b, .int .i64 f] w fun e w' => ∃ A c, e = .returned (.agg #[.int .i64 b, .slice A (turnL true b f).length c]) ∧ Kn w [rowI A c (turnL true b f)] w' := by
  have nz1 : b ≠ 0 := by omega
  have nz2 : (b == 0) = false := by simp; omega
  have HS := Lib.hid (TL.start (sh := true) (b := b) h0 h1)
  obtain ⟨R, hR⟩ : ∃ R, turnL true b f = R := ⟨_, rfl⟩
  have HS := HS.out
  rw [hR] at HS
  rw [hR]
  have HS := Lib.hid HS
  clear hR
  go_enter Tryz.func116, Tryz.ntmps116
  go_wp2_with fail
  have hK1 := ((((Kn.nil w).al [.int .i64 0, .slice none 0 0] 91).al [] 2).litRow (size := 1) (n := 0) rfl (by decide)).al [.int .i64 b, .slice (some ⟨w.heap.size + 1, 0, none⟩) 0 0] 91
  simp only [World.size_alloc] at hK1
  have hK2 := hK1.sel [1, 0, 2] 99 (by decide) (by decide)
  go_loopw [1] (fun nn wr => ∃ (g : Nat) (n : Int) (ts : List Int) (A : Option Addr) (c : Nat), TL true b R g n ts ∧ nn = .int .i64 n ∧ Kn w [rowI A c ts, .blk (w.heap.size + 1 + 1) [.int .i64 b, .slice A ts.length c] 91, .blk w.heap.size [.int .i64 0, .slice none 0 0] 91] wr) (fun nn _ => (intOf nn).toNat)
  case atStart => exact ⟨30, f, [], some ⟨w.heap.size + 1, 0, none⟩, 0, HS.out, rfl, hK2⟩
  case round =>
    obtain ⟨g, n, ts, A, c, hT, rfl, hK⟩ := hrel
    clear hK1 hK2
    have hl := hT.len
    have n0 := hT.n0
    have ng := Int.le_trans hT.ng (fb_bd (by omega))
    obtain ⟨a1, a2, a3, d1, d2, d3, -⟩ := hK.cells
    by_cases hn : 0 < n
    · obtain ⟨g', rfl, hT2, hlt⟩ := hT.next hb hn
      obtain ⟨q1, q2, q3, q4⟩ := tdm hb n0
      have hh := tdm_half hb n0
      obtain ⟨s1, s2, s3, s4⟩ := tdm hb q3
      have hw := few_ways b n
      obtain ⟨d, hd⟩ : ∃ d, n.tmod b = d := ⟨_, rfl⟩
      obtain ⟨r, hr⟩ : ∃ r, n.tdiv b = r := ⟨_, rfl⟩
      rw [hd, hr] at hw
      rw [hr] at q3 hh s1 s2
      rw [hd] at q1 q2
      obtain ⟨x, hx⟩ : ∃ x, r.tmod b = x := ⟨_, rfl⟩
      rw [hx] at hw s1 s2
      have wd : IntKind.i64.wrap d = d := wrapI64 (by omega)
      have wr' : IntKind.i64.wrap r = r := wrapI64 (by omega)
      have wx : IntKind.i64.wrap x = x := wrapI64 (by omega)
      have wd2 : IntKind.i64.wrap (n.tmod b) = d := by rw [hd]; exact wd
      have wr2 : IntKind.i64.wrap (n.tdiv b) = r := by rw [hr]; exact wr'
      have wx2 : IntKind.i64.wrap (r.tmod b) = x := by rw [hx]; exact wx
      have wdd : IntKind.i64.wrap (2 * d) = 2 * d := wrapI64 (by omega)
      have wxx : IntKind.i64.wrap (2 * x) = 2 * x := wrapI64 (by omega)
      have wb1 : IntKind.i64.wrap (b - 1) = b - 1 := wrapI64 (by omega)
      have wdb : IntKind.i64.wrap (d - b) = d - b := wrapI64 (by omega)
      have wr1 : IntKind.i64.wrap (r + 1) = r + 1 := wrapI64 (by omega)
      clear hT q4 s3 s4
      rcases hw with ⟨c1, e1, e2⟩ | ⟨c1, c2, e1, e2⟩ | ⟨c1, c2, c3, e1, e2⟩ | ⟨c1, c2, c3, e1, e2⟩
      all_goals
        rw [e1, e2] at hT2
        rw [e2] at hlt
        have HT := Lib.hid hT2
        clear hT2 e1 e2
      · go_wp2_with (at_builtin; refine kn_pushI rfl _ _ rfl _ ts rfl rfl (hK.al [.int .i64 (d)] 2) (by omega) ?_; intro v5 w6 hK9; obtain ⟨A5, c5, rfl⟩ := row_form hK9.at0; clear a1 a2 a3 d1 d2 d3; obtain ⟨a1, a2, a3, d1, d2, d3, -⟩ := hK9.cells)
        go_roundw
        case rel => exact ⟨g', r, ts ++ [d], A5, c5, HT.out, by go_num, by
          rw [show (ts ++ [d]).length = ts.length + 1 by simp] at hK9
          have h9 := ((hK9.front 1 rfl).st 1 (.slice A5 (ts.length + 1) c5)).sel [1, 0, 2] 99 (by decide) (by decide)
          unfold rowI
          rw [show (ts ++ [d]).length = ts.length + 1 by simp]
          exact h9⟩
        case measure => simp [intOf]; omega
      · go_wp2_with (at_builtin; refine kn_pushI rfl _ _ rfl _ ts rfl rfl (hK.al [.int .i64 (d - b)] 2) (by omega) ?_; intro v5 w6 hK9; obtain ⟨A5, c5, rfl⟩ := row_form hK9.at0; clear a1 a2 a3 d1 d2 d3; obtain ⟨a1, a2, a3, d1, d2, d3, -⟩ := hK9.cells)
        go_roundw
        case rel => exact ⟨g', r + 1, ts ++ [d - b], A5, c5, HT.out, by go_num, by
          rw [show (ts ++ [d - b]).length = ts.length + 1 by simp] at hK9
          have h9 := ((hK9.front 1 rfl).st 1 (.slice A5 (ts.length + 1) c5)).sel [1, 0, 2] 99 (by decide) (by decide)
          unfold rowI
          rw [show (ts ++ [d - b]).length = ts.length + 1 by simp]
          exact h9⟩
        case measure => simp [intOf]; omega
      · go_wp2_with (at_builtin; refine kn_pushI rfl _ _ rfl _ ts rfl rfl (hK.al [.int .i64 (d)] 2) (by omega) ?_; intro v5 w6 hK9; obtain ⟨A5, c5, rfl⟩ := row_form hK9.at0; clear a1 a2 a3 d1 d2 d3; obtain ⟨a1, a2, a3, d1, d2, d3, -⟩ := hK9.cells)
        go_roundw
        case rel => exact ⟨g', r, ts ++ [d], A5, c5, HT.out, by go_num, by
          rw [show (ts ++ [d]).length = ts.length + 1 by simp] at hK9
          have h9 := ((hK9.front 1 rfl).st 1 (.slice A5 (ts.length + 1) c5)).sel [1, 0, 2] 99 (by decide) (by decide)
          unfold rowI
          rw [show (ts ++ [d]).length = ts.length + 1 by simp]
          exact h9⟩
        case measure => simp [intOf]; omega
      · go_wp2_with (at_builtin; refine kn_pushI rfl _ _ rfl _ ts rfl rfl (hK.al [.int .i64 (d - b)] 2) (by omega) ?_; intro v5 w6 hK9; obtain ⟨A5, c5, rfl⟩ := row_form hK9.at0; clear a1 a2 a3 d1 d2 d3; obtain ⟨a1, a2, a3, d1, d2, d3, -⟩ := hK9.cells)
        go_roundw
        case rel => exact ⟨g', r + 1, ts ++ [d - b], A5, c5, HT.out, by go_num, by
          rw [show (ts ++ [d - b]).length = ts.length + 1 by simp] at hK9
          have h9 := ((hK9.front 1 rfl).st 1 (.slice A5 (ts.length + 1) c5)).sel [1, 0, 2] 99 (by decide) (by decide)
          unfold rowI
          rw [show (ts ++ [d - b]).length = ts.length + 1 by simp]
          exact h9⟩
        case measure => simp [intOf]; omega
    · have HD := Lib.hid (hT.done hn)
      clear hT
      go_wp2_with fail
      refine bodyPost.kn (((hK.front 2 rfl).st 0 (.int .i64 b)).st 1 (.slice A ts.length c)) ?_; intro w9 hK9
      clear a1 a2 a3 d1 d2 d3
      obtain ⟨a1, a2, a3, -⟩ := hK9.cells
      refine bodyPost_ret (v := .agg #[.int .i64 b, .slice A ts.length c]) (by simp [results, Tryz.results116, go_sem, a1]) rfl ⟨A, c, by rw [← HD.out], ?_⟩
      rw [← HD.out]
      exact hK9.sel [1] 99 (by decide) (by decide)
/-- what a function of turns returns -/
def TDRet (sh : Bool) (b f : Int) (w : World) (e : Ending) (w' : World) : Prop :=
  (trnC b f = 2 ∧ e = .returned (.tuple #[.agg #[.int .i64 0, .slice none 0 0], .int .i64 2]) ∧ Below w.heap.size w w') ∨
  (trnC b f = 0 ∧ ∃ A c, e = .returned (.tuple #[.agg #[.int .i64 b, .slice A (turnL sh b f).length c], .int .i64 0]) ∧ Kn w [rowI A c (turnL sh b f)] w')
theorem trnC_cases (b f : Int) : trnC b f = 2 ∨ (trnC b f = 0 ∧ 2 ≤ b ∧ b ≤ 16 ∧ 0 ≤ f ∧ f ≤ 62500000) := by
  unfold trnC
  split
  · rename_i h
    simp only [Bool.and_eq_true, betB_iff] at h
    exact .inr ⟨rfl, h.1.1, h.1.2, h.2.1, h.2.2⟩
  · exact .inl rfl
set_option maxRecDepth 100000 in
theorem FewestTurns_any (b f : Int) (w : World) : Calls Tryz.prog 70 #[.int .i64 b, .int .i64 f] w (TDRet true b f w) := by
  unfold TDRet
  rcases trnC_cases b f with hc | ⟨hc, hb, hb2, h0, h1⟩
  · have KC := Lib.hid (fun W => calls_val (l13Code_any b f W) (congrArg (Value.int .i64) hc))
    have HC := Lib.hid hc
    clear hc
    refine Calls.mono ?_ (fun e w' h => .inl ⟨HC.out, h⟩)
    clear HC
    go_enter Tryz.func70, Tryz.ntmps70
    go_wp2_with (go_at_call 115; refine (KC.out _).mono ?_; rintro e w' ⟨rfl, rfl⟩)
    refine bodyPost.kn ((Kn.nil w).al [.int .i64 0, .slice none 0 0] 91) ?_; intro w6 hK6
    obtain ⟨a1, a2, a3, -⟩ := hK6.cells
    exact bodyPost_ret (v := .tuple #[.agg #[.int .i64 0, .slice none 0 0], .int .i64 2]) (by simp [results, Tryz.results70, go_sem, a1]) rfl ⟨rfl, hK6.below⟩
  have KC := Lib.hid (fun W => calls_val (l13Code_any b f W) (congrArg (Value.int .i64) hc))
  have HC := Lib.hid hc
  have KF := (fun W => l13Few_any b f W hb hb2 h0 h1)
  obtain ⟨R, hR⟩ : ∃ R, turnL true b f = R := ⟨_, rfl⟩
  rw [hR] at KF ⊢
  have KF := Lib.hid KF
  clear hc hR
  refine Calls.mono ?_ (fun e w' h => .inr ⟨HC.out, h⟩)
  clear HC
  go_enter Tryz.func70, Tryz.ntmps70
  go_wp2_with (go_at_call 115; refine (KC.out _).mono ?_; rintro e w' ⟨rfl, rfl⟩)
  refine Calls.kn ((Kn.nil w).al [.int .i64 0, .slice none 0 0] 91) ?_; intro w1 hK1
  (with_reducible refine (KF.out _).mono ?_); rintro e w2 ⟨A, c, rfl, hKn⟩
  have hK2 := hK1.join hKn
  obtain ⟨a1, a2, a3, -⟩ := hK2.cells
  go_wp2_with fail
  refine bodyPost.kn (((hK2.front 1 rfl).st 0 (.int .i64 b)).st 1 (.slice A R.length c)) ?_; intro w9 hK9
  clear a1 a2 a3
  obtain ⟨a1, a2, a3, -⟩ := hK9.cells
  exact bodyPost_ret (v := .tuple #[.agg #[.int .i64 b, .slice A R.length c], .int .i64 0]) (by simp [results, Tryz.results70, go_sem, a1]) rfl ⟨A, c, rfl, hK9.sel [1] 99 (by decide) (by decide)⟩
set_option maxRecDepth 100000 in
set_option maxHeartbeats 3200000 in
theorem PlainTurns_any (b f : Int) (w : World) : Calls Tryz.prog 69 #[.int .i64 b, .int .i64 f] w (TDRet false b f w) := by
  unfold TDRet
  rcases trnC_cases b f with hc | ⟨hc, hb, hb2, h0, h1⟩
  · have KC := Lib.hid (fun W => calls_val (l13Code_any b f W) (congrArg (Value.int .i64) hc))
    have HC := Lib.hid hc
    clear hc
    refine Calls.mono ?_ (fun e w' h => .inl ⟨HC.out, h⟩)
    clear HC
    go_enter Tryz.func69, Tryz.ntmps69
    go_wp2_with (go_at_call 115; refine (KC.out _).mono ?_; rintro e w' ⟨rfl, rfl⟩)
    refine bodyPost.kn ((Kn.nil w).al [.int .i64 0, .slice none 0 0] 91) ?_; intro w6 hK6
    obtain ⟨a1, a2, a3, -⟩ := hK6.cells
    exact bodyPost_ret (v := .tuple #[.agg #[.int .i64 0, .slice none 0 0], .int .i64 2]) (by simp [results, Tryz.results69, go_sem, a1]) rfl ⟨rfl, hK6.below⟩
  have KC := Lib.hid (fun W => calls_val (l13Code_any b f W) (congrArg (Value.int .i64) hc))
  have HC := Lib.hid hc
  have nz1 : b ≠ 0 := by omega
  have nz2 : (b == 0) = false := by simp; omega
  have HS := Lib.hid (TL.start (sh := false) (b := b) h0 h1)
  obtain ⟨R, hR⟩ : ∃ R, turnL false b f = R := ⟨_, rfl⟩
  have HS := HS.out
  rw [hR] at HS
  rw [hR]
  have HS := Lib.hid HS
  clear hR hc
  refine Calls.mono ?_ (fun e w' h => .inr ⟨HC.out, h⟩)
  clear HC
  go_enter Tryz.func69, Tryz.ntmps69
  go_wp2_with (go_at_call 115; refine (KC.out _).mono ?_; rintro e w' ⟨rfl, rfl⟩)
  have hK1 := ((((Kn.nil w).al [.int .i64 0, .slice none 0 0] 91).al [] 2).litRow (size := 1) (n := 0) rfl (by decide)).al [.int .i64 b, .slice (some ⟨w.heap.size + 1, 0, none⟩) 0 0] 91
  simp only [World.size_alloc] at hK1
  have hK2 := hK1.sel [1, 0, 2] 99 (by decide) (by decide)
  go_loopw [8] (fun nn wr => ∃ (g : Nat) (n : Int) (ts : List Int) (A : Option Addr) (c : Nat), TL false b R g n ts ∧ nn = .int .i64 n ∧ Kn w [rowI A c ts, .blk (w.heap.size + 1 + 1) [.int .i64 b, .slice A ts.length c] 91, .blk w.heap.size [.int .i64 0, .slice none 0 0] 91] wr) (fun nn _ => (intOf nn).toNat)
  case atStart => exact ⟨30, f, [], some ⟨w.heap.size + 1, 0, none⟩, 0, HS.out, rfl, hK2⟩
  case round =>
    obtain ⟨g, n, ts, A, c, hT, rfl, hK⟩ := hrel
    clear hK1 hK2
    have hl := hT.len
    have n0 := hT.n0
    have ng := Int.le_trans hT.ng (fb_bd (by omega))
    obtain ⟨a1, a2, a3, d1, d2, d3, -⟩ := hK.cells
    by_cases hn : 0 < n
    · obtain ⟨g', rfl, hT2, hlt⟩ := hT.next hb hn
      obtain ⟨q1, q2, q3, q4⟩ := tdm hb n0
      have e1 : turnD false b n = n.tmod b := rfl
      have e2 : turnN false b n = n.tdiv b := rfl
      rw [e1, e2] at hT2
      rw [e2] at hlt
      obtain ⟨d, hd⟩ : ∃ d, n.tmod b = d := ⟨_, rfl⟩
      obtain ⟨r, hr⟩ : ∃ r, n.tdiv b = r := ⟨_, rfl⟩
      rw [hd, hr] at hT2
      rw [hr] at hlt q3
      rw [hd] at q1 q2
      have HT := Lib.hid hT2
      have wd : IntKind.i64.wrap d = d := wrapI64 (by omega)
      have wr' : IntKind.i64.wrap r = r := wrapI64 (by omega)
      have wd2 : IntKind.i64.wrap (n.tmod b) = d := by rw [hd]; exact wd
      have wr2 : IntKind.i64.wrap (n.tdiv b) = r := by rw [hr]; exact wr'
      clear hT hT2 e1 e2 q4
      go_wp2_with fail
      go_region_law (refine kn_stepI rfl _ _ rfl _ ts rfl rfl ((hK.al [.int .i64 d] 2).drew) (by omega) ?_; intro v5 w6 hK9; obtain ⟨A5, c5, rfl⟩ := row_form hK9.at0; rw [show (ts ++ [d]).length = ts.length + 1 by simp] at hK9; clear a1 a2 a3 d1 d2 d3; obtain ⟨a1, a2, a3, d1, d2, d3, -⟩ := hK9.cells)
      all_goals
        go_wp2_with fail
        go_roundw
        case rel => exact ⟨g', r, ts ++ [d], A5, c5, HT.out, by go_num, by
          have h9 := ((hK9.front 1 rfl).st 1 (.slice A5 (ts.length + 1) c5)).sel [1, 0, 2] 99 (by decide) (by decide)
          unfold rowI
          rw [show (ts ++ [d]).length = ts.length + 1 by simp]
          exact h9⟩
        case measure => simp [intOf]; omega
    · have HD := Lib.hid (hT.done hn)
      clear hT
      go_wp2_with fail
      refine bodyPost.kn (((hK.front 2 rfl).st 0 (.int .i64 b)).st 1 (.slice A ts.length c)) ?_; intro w9 hK9
      clear a1 a2 a3 d1 d2 d3
      obtain ⟨a1, a2, a3, -⟩ := hK9.cells
      refine bodyPost_ret (v := .tuple #[.agg #[.int .i64 b, .slice A ts.length c], .int .i64 0]) (by simp [results, Tryz.results69, go_sem, a1]) rfl ⟨A, c, by rw [← HD.out], ?_⟩
      rw [← HD.out]
      exact hK9.sel [1] 99 (by decide) (by decide)
set_option maxRecDepth 100000 in
theorem l12Digits_any (b f : Int) (sh : Bool) (w : World) : Calls Tryz.prog 58 #[.int .i64 b, .int .i64 f, .bool sh] w (TDRet sh b f w) := by
  have K1 := Lib.hid (fun W => FewestTurns_any b f W)
  have K0 := Lib.hid (fun W => PlainTurns_any b f W)
  rcases sh with _ | _
  all_goals
    go_enter Tryz.func58, Tryz.ntmps58
    go_wp2_with fail
    refine Calls.kn ((Kn.nil w).al [.int .i64 0, .slice none 0 0] 91) ?_; intro w1 hK1
    first
      | ((with_reducible refine (K1.out _).mono ?_); rintro e w2 (⟨hc, rfl, hw⟩ | ⟨hc, A, c, rfl, hKn⟩))
      | ((with_reducible refine (K0.out _).mono ?_); rintro e w2 (⟨hc, rfl, hw⟩ | ⟨hc, A, c, rfl, hKn⟩))
    · have HC := Lib.hid hc
      have hK2 := hK1.keep hw
      clear hc
      obtain ⟨a1, a2, a3, -⟩ := hK2.cells
      go_wp2_with fail
      refine bodyPost.kn ((hK2.st 0 (.int .i64 0)).st 1 (.slice none 0 0)) ?_; intro w9 hK9
      clear a1 a2 a3
      obtain ⟨a1, a2, a3, -⟩ := hK9.cells
      exact bodyPost_ret (v := .tuple #[.agg #[.int .i64 0, .slice none 0 0], .int .i64 2]) (by simp [results, Tryz.results58, go_sem, a1]) rfl (.inl ⟨HC.out, rfl, hK9.below⟩)
    · have HC := Lib.hid hc
      have hK2 := hK1.join hKn
      clear hc
      obtain ⟨a1, a2, a3, -⟩ := hK2.cells
      go_wp2_with fail
      refine bodyPost.kn (((hK2.front 1 rfl).st 0 (.int .i64 b)).st 1 (.slice A _ c)) ?_; intro w9 hK9
      clear a1 a2 a3
      obtain ⟨a1, a2, a3, -⟩ := hK9.cells
      exact bodyPost_ret (v := .tuple #[.agg #[.int .i64 b, .slice A _ c], .int .i64 0]) (by simp [results, Tryz.results58, go_sem, a1]) rfl (.inr ⟨HC.out, A, c, rfl, hK9.sel [1] 99 (by decide) (by decide)⟩)
end Go.Proofs.YtkfbfainhmkkdaaGreat
