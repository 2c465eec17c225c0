/- Part 9: lemmas and contracts of the claim's functions. -/
import Derived.Test.YtafnebpbfmbgiaaDoorZC1
import Derived.Test.YtafnebpbfmbgiaaDoorZC2
import Derived.Test.YtafnebpbfmbgiaaDoorZC3
import Derived.Test.YtafnebpbfmbgiaaDoorZC4
import Derived.Test.YtafnebpbfmbgiaaDoorZC5
import Derived.Test.YtafnebpbfmbgiaaDoorZC6
import Derived.Test.YtafnebpbfmbgiaaDoorZC7
import Derived.Test.YtafnebpbfmbgiaaDoorZC8
import Derived.Test.YtafnebpbfmbgiaaDoorTie
import Derived.Test.YtafnebpbfmbgiaaDoorCards
import Derived.Deep.DeepHandedRow
import Derived.Lib.LaidTab
import Derived.ProofKit
import Derived.Carry
namespace Go.Proofs.YtafnebpbfmbgiaaDoor
open Go.RowKit Go.Sort
/-- a machine, a value and a code -/
def M2Ret (t : Tri) (x : Value) (C : Int) (w : World) (e : Ending) (w' : World) : Prop := ∃ A1 c1 A2 c2 A3 c3, e = .returned (.tuple #[.agg #[.int .i64 t.a.base, .slice A1 t.a.digits.length c1, .int .i64 t.b.base, .slice A2 t.b.digits.length c2, .int .i64 t.s.base, .slice A3 t.s.digits.length c3, .int .i64 t.carry], x, .int .i64 C]) ∧ Kn w [rowI A3 c3 t.s.digits, rowI A2 c2 t.b.digits, rowI A1 c1 t.a.digits] w'
theorem M2Ret.zero {x : Value} {C : Int} {w w' : World} (h : Below w.heap.size w w') : M2Ret zTri x C w (.returned (.tuple #[.agg #[.int .i64 0, .slice none 0 0, .int .i64 0, .slice none 0 0, .int .i64 0, .slice none 0 0, .int .i64 0], x, .int .i64 C])) w' :=
  ⟨none, 0, none, 0, none, 0, rfl, ((((Kn.nil w).keep h).nilRow _ _).nilRow _ _).nilRow _ _⟩
/-! a journal's replay, plainly -/
def rjStep (t : Tri) (n : List UInt8) : Tri := if kindOf n = 0 then t else (strokeT (kindOf n) t).1
def rjFold (t : Tri) (l : List (List UInt8)) : Tri := l.foldl rjStep t
def rjCount (l : List (List UInt8)) : Nat := (l.filter (fun n => decide (kindOf n ≠ 0))).length
theorem rjFold_ok {t : Tri} (h : vmach t = true) (l : List (List UInt8)) : vmach (rjFold t l) = true := by
  induction l generalizing t with
  | nil => exact h
  | cons n l ih =>
    show vmach (rjFold (rjStep t n) l) = true
    refine ih ?_
    unfold rjStep
    split
    · exact h
    · exact strokeT_ok _ h
theorem rj_next {l : List (List UInt8)} {k : Nat} (h : k < l.length) (t : Tri) : rjFold t (l.take (k + 1)) = rjStep (rjFold t (l.take k)) l[k] ∧ rjCount (l.take (k + 1)) = rjCount (l.take k) + (if kindOf l[k] = 0 then 0 else 1) := by
  rw [List.take_succ_eq_append_getElem h]
  constructor
  · unfold rjFold; rw [List.foldl_append]; rfl
  · unfold rjCount
    rw [List.filter_append, List.length_append]
    congr 1
    by_cases h0 : kindOf l[k] = 0 <;> simp [h0]
theorem rjCount_le (l : List (List UInt8)) (k : Nat) : rjCount (l.take k) ≤ k := by
  unfold rjCount
  refine Nat.le_trans (List.length_filter_le _ _) ?_
  rw [List.length_take]; omega
def rjC (t : Tri) (S : List UInt8) : Int := if vmach t then jcode S else 1
def rjM (t : Tri) (S : List UInt8) : Tri := if rjC t S = 0 then rjFold t (jall S).notes else zTri
def rjN (t : Tri) (S : List UInt8) : Int := if rjC t S = 0 then (rjCount (jall S).notes : Int) else 0
theorem rj_bad {t : Tri} {S : List UInt8} (h : vmach t = false) : rjC t S = 1 ∧ rjM t S = zTri ∧ rjN t S = 0 := by
  have h1 : rjC t S = 1 := by unfold rjC; rw [h]; rfl
  exact ⟨h1, by unfold rjM; rw [h1, if_neg (by decide)], by unfold rjN; rw [h1, if_neg (by decide)]⟩
theorem rj_code {t : Tri} {S : List UInt8} (h : vmach t = true) (hc : jcode S ≠ 0) : rjC t S = jcode S ∧ rjM t S = zTri ∧ rjN t S = 0 := by
  have h1 : rjC t S = jcode S := by unfold rjC; rw [h]; rfl
  exact ⟨h1, by unfold rjM; rw [h1, if_neg hc], by unfold rjN; rw [h1, if_neg hc]⟩
theorem rj_fine {t : Tri} {S : List UInt8} (h : vmach t = true) (hc : jcode S = 0) : rjC t S = 0 ∧ rjM t S = rjFold t (jall S).notes ∧ rjN t S = (rjCount (jall S).notes : Int) := by
  have h1 : rjC t S = 0 := by unfold rjC; rw [h]; exact hc
  exact ⟨h1, by unfold rjM; rw [h1, if_pos rfl], by unfold rjN; rw [h1, if_pos rfl]⟩
theorem rjM_ok {t : Tri} {S : List UInt8} (h : rjC t S = 0) : vmach (rjM t S) = true := by
  have hv : vmach t = true := by
    cases hv : vmach t with
    | true => rfl
    | false => rw [(rj_bad hv).1] at h; cases h
  unfold rjM
  rw [if_pos h]
  exact rjFold_ok hv _
theorem rjM_len (t : Tri) (S : List UInt8) : (rjM t S).a.digits.length ≤ 16 ∧ (rjM t S).b.digits.length ≤ 16 ∧ (rjM t S).s.digits.length ≤ 16 := by
  by_cases h : rjC t S = 0
  · have := sized_of (rjM_ok h)
    exact ⟨this.a, this.b, this.s⟩
  · unfold rjM; rw [if_neg h]; simp [zTri]
def RJRet (t : Tri) (S : List UInt8) : World → Ending → World → Prop := M2Ret (rjM t S) (.int .i64 (rjN t S)) (rjC t S)
set_option maxRecDepth 100000 in
set_option maxHeartbeats 3200000 in
theorem ReplayJournal_any (t : Tri) (A1 A2 A3 : Option Addr) (c1 c2 c3 : Nat) (s : ByteArray) (w : World) (r1 : RI w A1 t.a.digits.length t.a.digits) (r2 : RI w A2 t.b.digits.length t.b.digits) (r3 : RI w A3 t.s.digits.length t.s.digits) (hs : SmallTri t) (hz : s.size ≤ 9223372036854775807) (ht : TB w) :
    Calls Tryd.prog 15 #[.agg #[.int .i64 t.a.base, .slice A1 t.a.digits.length c1, .int .i64 t.b.base, .slice A2 t.b.digits.length c2, .int .i64 t.s.base, .slice A3 t.s.digits.length c3, .int .i64 t.carry], .string s] w (RJRet t (strB s) w) := by
  have KV := (fun W (hW : Below w.heap.size w W) => ValidMachine_any t A1 A2 A3 c1 c2 c3 W (r1.below hW) (r2.below hW) (r3.below hW) hs)
  have KW := (fun W (hW : Below w.heap.size w W) => wholeJournal_any s W hz (TB.below ht hW))
  unfold RJRet
  rcases hv : vmach t with _ | _
  · rw [hv] at KV
    obtain ⟨e1, e2, e3⟩ := rj_bad (S := strB s) hv
    rw [e1, e2, e3]
    replace KV := Lib.hid KV
    clear hv KW r1 r2 r3 hs ht e1 e2 e3
    go_enter Tryd.func15, Tryd.ntmps15
    go_wp2_with fail
    refine Calls.kn (((Kn.nil w).al [.int .i64 t.a.base, .slice A1 t.a.digits.length c1, .int .i64 t.b.base, .slice A2 t.b.digits.length c2, .int .i64 t.s.base, .slice A3 t.s.digits.length c3, .int .i64 t.carry] 28).al [.int .i64 0, .slice none 0 0, .int .i64 0, .slice none 0 0, .int .i64 0, .slice none 0 0, .int .i64 0] 28) ?_; intro w1 hK0
    simp only [World.size_alloc] at hK0
    refine (KV.out _ hK0.below).mono ?_; rintro e w2 ⟨rfl, hw⟩
    have hK1 := hK0.keep hw
    obtain ⟨x1, x2, x3⟩ := (hK1.front 0 rfl).blkAt
    go_wp2_with fail
    refine bodyPost.kn (((((((((hK1.front 0 rfl).st 0 (.int .i64 0)).st 1 (.slice none 0 0)).st 2 (.int .i64 0)).st 3 (.slice none 0 0)).st 4 (.int .i64 0)).st 5 (.slice none 0 0)).st 6 (.int .i64 0)).sel [0] 99 (by decide) (by decide)) ?_; intro w6 hK6
    clear x1 x2 x3
    obtain ⟨a1, a2, a3, -⟩ := hK6.cells
    refine bodyPost_ret (v := .tuple #[.agg #[.int .i64 0, .slice none 0 0, .int .i64 0, .slice none 0 0, .int .i64 0, .slice none 0 0, .int .i64 0], .int .i64 0, .int .i64 1]) (by simp [results, Tryd.results15, go_sem, a1]) rfl ?_
    exact M2Ret.zero hK6.below
  rw [hv] at KV
  unfold WJ at KW
  have H1 := rj_code (S := strB s) hv
  have H2 := rj_fine (S := strB s) hv
  have H3 := jcode_zero (bs := strB s)
  obtain ⟨C, hC⟩ : ∃ C, jcode (strB s) = C := ⟨_, rfl⟩
  obtain ⟨RC, hRC⟩ : ∃ C, rjC t (strB s) = C := ⟨_, rfl⟩
  obtain ⟨RM, hRM⟩ : ∃ C, rjM t (strB s) = C := ⟨_, rfl⟩
  obtain ⟨RN, hRN⟩ : ∃ C, rjN t (strB s) = C := ⟨_, rfl⟩
  obtain ⟨J, hJ⟩ : ∃ C, jall (strB s) = C := ⟨_, rfl⟩
  rw [hC, hJ] at KW
  rw [hC, hRC, hRM, hRN] at H1 H2
  rw [hJ] at H2
  rw [hC, hJ] at H3
  rw [hRC, hRM, hRN]
  clear hC hRC hRM hRN hJ
  replace KW := Lib.hid KW
  rcases hc0 : (C == 0) with _ | _
  · have HCN := Lib.hid (show C ≠ 0 by simpa using hc0)
    have HQ := Lib.hid (H1 HCN.out)
    have hc1 : (C != 0) = true := by simpa using hc0
    replace KV := Lib.hid KV
    clear H1 H2 H3 hv r1 r2 r3 hs ht hc0
    go_enter Tryd.func15, Tryd.ntmps15
    go_wp2_with fail
    refine Calls.kn (((Kn.nil w).al [.int .i64 t.a.base, .slice A1 t.a.digits.length c1, .int .i64 t.b.base, .slice A2 t.b.digits.length c2, .int .i64 t.s.base, .slice A3 t.s.digits.length c3, .int .i64 t.carry] 28).al [.int .i64 0, .slice none 0 0, .int .i64 0, .slice none 0 0, .int .i64 0, .slice none 0 0, .int .i64 0] 28) ?_; intro w1 hK0
    simp only [World.size_alloc] at hK0
    refine (KV.out _ hK0.below).mono ?_; rintro e w2 ⟨rfl, hw⟩
    have hK1 := hK0.keep hw
    go_wp2_with fail
    refine (KW.out _ hK1.below).mono ?_; rintro e w3 ⟨v, rfl, (⟨-, rfl, hw⟩ | ⟨h0, -⟩)⟩
    rotate_left
    · exact absurd h0 HCN.out
    have hK2 := hK1.keep (hw.mono (Nat.le_refl _))
    obtain ⟨x1, x2, x3⟩ := (hK2.front 0 rfl).blkAt
    go_wp2_with fail
    refine bodyPost.kn (((((((((hK2.front 0 rfl).st 0 (.int .i64 0)).st 1 (.slice none 0 0)).st 2 (.int .i64 0)).st 3 (.slice none 0 0)).st 4 (.int .i64 0)).st 5 (.slice none 0 0)).st 6 (.int .i64 0)).sel [0] 99 (by decide) (by decide)) ?_; intro w6 hK6
    clear x1 x2 x3
    obtain ⟨a1, a2, a3, -⟩ := hK6.cells
    refine bodyPost_ret (v := .tuple #[.agg #[.int .i64 0, .slice none 0 0, .int .i64 0, .slice none 0 0, .int .i64 0, .slice none 0 0, .int .i64 0], .int .i64 0, .int .i64 C]) (by simp [results, Tryd.results15, go_sem, a1]) rfl ?_
    rw [HQ.out.1, HQ.out.2.1, HQ.out.2.2]
    exact M2Ret.zero hK6.below
  obtain rfl : C = 0 := by simpa using hc0
  obtain ⟨-, -, z2⟩ := H3 rfl
  have HQ := Lib.hid (H2 rfl)
  have KC := Lib.hid (fun W (hW : Below w.heap.size w W) => copiedM_any t A1 A2 A3 c1 c2 c3 W (r1.below hW) (r2.below hW) (r3.below hW) (sized_of hv))
  have HV := Lib.hid hv
  replace KV := Lib.hid KV
  clear H1 H2 H3 hc0 hv r1 r2 r3 hs ht
  go_enter Tryd.func15, Tryd.ntmps15
  go_wp2_with fail
  refine Calls.kn (((Kn.nil w).al [.int .i64 t.a.base, .slice A1 t.a.digits.length c1, .int .i64 t.b.base, .slice A2 t.b.digits.length c2, .int .i64 t.s.base, .slice A3 t.s.digits.length c3, .int .i64 t.carry] 28).al [.int .i64 0, .slice none 0 0, .int .i64 0, .slice none 0 0, .int .i64 0, .slice none 0 0, .int .i64 0] 28) ?_; intro w1 hK0
  simp only [World.size_alloc] at hK0
  refine (KV.out _ hK0.below).mono ?_; rintro e w2 ⟨rfl, hw⟩
  have hK1 := hK0.keep hw
  go_wp2_with fail
  refine (KW.out _ hK1.below).mono ?_; rintro e w3 ⟨v, rfl, (⟨h0, -⟩ | ⟨-, g, rfl, hJ⟩)⟩
  · exact absurd rfl h0
  obtain ⟨A, c, ss, hss, hKj⟩ := hJ
  have hK2 : Kn w [.blk g [.slice A ss.length c, .int .i64 J.sum, .int .i64 J.size] 135, rowS (.slice A ss.length c) ss, .blk (w.heap.size + 1) [.int .i64 0, .slice none 0 0, .int .i64 0, .slice none 0 0, .int .i64 0, .slice none 0 0, .int .i64 0] 28, .blk w.heap.size [.int .i64 t.a.base, .slice A1 t.a.digits.length c1, .int .i64 t.b.base, .slice A2 t.b.digits.length c2, .int .i64 t.s.base, .slice A3 t.s.digits.length c3, .int .i64 t.carry] 28] w3 := hK1.join hKj
  have hnl : ss.length = J.notes.length := by rw [← hss, List.length_map]
  have hn4 : ss.length ≤ 4000 := by omega
  have HSS := Lib.hid hss
  clear hK0 hK1 hw hKj hss hnl
  obtain ⟨x1, x2, x3, x4, x5, x6, x7, x8, x9, -⟩ := hK2.cells
  go_wp2_with fail
  refine (KC.out _ hK2.below).mono ?_; rintro e w4 ⟨B1, d1, B2, d2, B3, d3, rfl, hKn⟩
  have hK3 := hK2.join hKn
  clear hK2 hKn x1 x2 x3 x4 x5 x6 x7 x8 x9
  obtain ⟨x1, x2, x3, x4, x5, x6, x7, x8, x9, -⟩ := hK3.cells
  have hK4 := hK3.al [.int .i64 t.a.base, .slice B1 t.a.digits.length d1, .int .i64 t.b.base, .slice B2 t.b.digits.length d2, .int .i64 t.s.base, .slice B3 t.s.digits.length d3, .int .i64 t.carry] 28
  go_wp2_with fail
  obtain ⟨g9, hg9⟩ : ∃ g9, w4.heap.size = g9 := ⟨_, rfl⟩
  rw [hg9] at hK4
  simp only [hg9]
  clear hK3 hg9 x1 x2 x3 x4 x5 x6 x7 x8 x9
  go_loopw [35, 10, 12, 13, 14] (fun ii nn _ _ _ wr => ∃ k : Nat, k ≤ ss.length ∧ ii = .int .i64 k ∧ nn = .int .i64 ((rjCount ((ss.map strB).take k) : Nat) : Int) ∧ MB w g9 [] 28 (rjFold t ((ss.map strB).take k)) [.blk g [.slice A ss.length c, .int .i64 J.sum, .int .i64 J.size] 135, rowS (.slice A ss.length c) ss, .blk (w.heap.size + 1) [.int .i64 0, .slice none 0 0, .int .i64 0, .slice none 0 0, .int .i64 0, .slice none 0 0, .int .i64 0] 28, .blk w.heap.size [.int .i64 t.a.base, .slice A1 t.a.digits.length c1, .int .i64 t.b.base, .slice A2 t.b.digits.length c2, .int .i64 t.s.base, .slice A3 t.s.digits.length c3, .int .i64 t.carry] 28] wr) (fun ii _ _ _ _ _ => ss.length - (intOf ii).toNat)
  case atStart => exact ⟨0, Nat.zero_le _, rfl, rfl, B1, d1, B2, d2, B3, d3, hK4⟩
  case round =>
    clear hK4
    obtain ⟨k, hk, rfl, rfl, B1, d1, B2, d2, B3, d3, hK⟩ := hrel
    have HVU := Lib.hid (rjFold_ok HV.out ((ss.map strB).take k))
    have hcb := rjCount_le (ss.map strB) k
    by_cases hkn : k < ss.length
    · obtain ⟨-, g', rfl, hc0, -, -⟩ := (hK.front 5 rfl).rowS_at (k := k) hkn
      have hnx := rj_next (l := ss.map strB) (k := k) (by rw [List.length_map]; exact hkn) t
      rw [List.getElem_map] at hnx
      obtain ⟨z, hzz⟩ : ∃ z, ss[k] = z := ⟨_, rfl⟩
      rw [hzz] at hc0 hnx
      obtain ⟨u, hu⟩ : ∃ u, rjFold t ((ss.map strB).take k) = u := ⟨_, rfl⟩
      obtain ⟨n, hn⟩ : ∃ u, rjCount ((ss.map strB).take k) = u := ⟨_, rfl⟩
      rw [hu, hn] at hnx
      rw [hu] at hK HVU
      rw [hn] at hcb ⊢
      have KN := (fun W => strokeNamed_any z W)
      have hkb := kindOf_bd (strB z)
      unfold rjStep at hnx
      obtain ⟨kd, hkd⟩ : ∃ kd, kindOf (strB z) = kd := ⟨_, rfl⟩
      rw [hkd] at KN hkb hnx
      have i1 : (k : Int) < (ss.length : Int) := by omega
      have i2 : (0 : Int) ≤ (k : Int) := by omega
      clear hzz hu hn hkd
      obtain ⟨x1, x2, x3, x4, x5, x6, x7, x8, x9, x10, x11, x12, -⟩ := hK.cells
      rcases hb : decide (kd ≠ 0) with _ | _
      · have h0 : kd = 0 := by simpa using hb
        rw [hb] at KN
        rw [if_pos h0, if_pos h0] at hnx
        have HNX := Lib.hid hnx
        replace KN := Lib.hid KN
        clear hnx hb h0 x4 x5 x6 x7 x8 x9 x10 x11 x12
        go_wp2_with (go_at_call 95; with_reducible refine (KN.out _).mono ?_; rintro e w5 ⟨rfl, hw⟩)
        go_roundw
        case rel => exact ⟨k + 1, by omega, by go_num, by rw [HNX.out.2]; rfl, B1, d1, B2, d2, B3, d3, by rw [HNX.out.1]; exact hK.keep hw⟩
        case measure => simp [intOf]; omega
      · have h0 : ¬ kd = 0 := by simpa using hb
        rw [hb] at KN
        rw [if_neg h0, if_neg h0] at hnx
        have hk16 : 1 ≤ kd ∧ kd ≤ 6 := by omega
        have KT := Lib.hid (fun (m' : List Ent) W {cs T} (h : Kn w (.blk g9 cs T :: rowI B3 d3 u.s.digits :: rowI B2 d2 u.b.digits :: rowI B1 d1 u.a.digits :: m') W) => stroke_any u B1 B2 B3 d1 d2 d3 kd W h.drop.drop.drop.riv h.drop.drop.riv h.drop.riv HVU.out hk16)
        obtain ⟨r, hr⟩ : ∃ r, strokeT kd u = r := ⟨_, rfl⟩
        rw [hr] at KT hnx
        have HNX := Lib.hid hnx
        replace KN := Lib.hid KN
        have hnw : IntKind.i64.wrap ((n : Int) + 1) = ((n + 1 : Nat) : Int) := by rw [wrapI (by omega)]; omega
        clear hnx hb h0 hr hk16 x4 x5 x6 x7 x8 x9 x10 x11 x12
        go_wp2_with (first
          | (go_at_call 95; with_reducible refine (KN.out _).mono ?_; rintro e w5 ⟨rfl, hw⟩; have hK5 := hK.keep hw; clear x1 x2 x3; obtain ⟨x1, x2, x3⟩ := hK5.blkAt)
          | (go_at_call 96; refine (KT.out _ _ hK5).mono ?_; rintro e w6 ⟨E1, f1, E2, f2, E3, f3, rfl, hKn⟩; have hK6 := hK5.join hKn; clear x1 x2 x3; obtain ⟨x1, x2, x3⟩ := (hK6.front 3 rfl).blkAt))
        go_roundw
        case rel =>
          refine ⟨k + 1, by omega, by go_num, by rw [HNX.out.2]; exact congrArg (Value.int .i64) (by omega), E1, f1, E2, f2, E3, f3, ?_⟩
          rw [HNX.out.1]
          exact ((((((((hK6.front 3 rfl).st 0 (.int .i64 r.1.a.base)).st 1 (.slice E1 r.1.a.digits.length f1)).st 2 (.int .i64 r.1.b.base)).st 3 (.slice E2 r.1.b.digits.length f2)).st 4 (.int .i64 r.1.s.base)).st 5 (.slice E3 r.1.s.digits.length f3)).st 6 (.int .i64 r.1.carry)).sel [0, 1, 2, 3] 7 (by decide) (by decide)
        case measure => simp [intOf]; omega
    · obtain rfl : k = ss.length := by omega
      have HT := Lib.hid (show (ss.map strB).take ss.length = J.notes by rw [List.take_of_length_le (by rw [List.length_map]; exact Nat.le_refl _)]; exact HSS.out)
      rw [HT.out] at hK hcb ⊢
      obtain ⟨u, hu⟩ : ∃ u, rjFold t J.notes = u := ⟨_, rfl⟩
      obtain ⟨n, hn⟩ : ∃ u, rjCount J.notes = u := ⟨_, rfl⟩
      have HQ2 : Hid (RC = 0 ∧ RM = u ∧ RN = (n : Int)) := by simp only [Hid]; rw [← hu, ← hn]; exact HQ.out
      rw [hu] at hK
      rw [hn]
      clear hu hn hcb
      have i1 : ¬ (ss.length : Int) < (ss.length : Int) := by omega
      obtain ⟨x1, x2, x3, x4, x5, x6, x7, x8, x9, x10, x11, x12, -⟩ := hK.cells
      clear x4 x5 x6 x10 x11 x12
      go_wp2_with fail
      refine bodyPost.kn ((((((((hK.front 6 rfl).st 0 (.int .i64 u.a.base)).st 1 (.slice B1 u.a.digits.length d1)).st 2 (.int .i64 u.b.base)).st 3 (.slice B2 u.b.digits.length d2)).st 4 (.int .i64 u.s.base)).st 5 (.slice B3 u.s.digits.length d3)).st 6 (.int .i64 u.carry)) ?_; intro w6 hK6
      clear x1 x2 x3 x7 x8 x9
      obtain ⟨a1, a2, a3, -⟩ := hK6.cells
      refine bodyPost_ret (v := .tuple #[.agg #[.int .i64 u.a.base, .slice B1 u.a.digits.length d1, .int .i64 u.b.base, .slice B2 u.b.digits.length d2, .int .i64 u.s.base, .slice B3 u.s.digits.length d3, .int .i64 u.carry], .int .i64 n, .int .i64 0]) (by simp [results, Tryd.results15, go_sem, a1]) rfl ?_
      rw [HQ2.out.1, HQ2.out.2.1, HQ2.out.2.2]
      exact ⟨B1, d1, B2, d2, B3, d3, rfl, hK6.sel [2, 3, 4] 99 (by decide) (by decide)⟩
end Go.Proofs.YtafnebpbfmbgiaaDoor

namespace Go.Proofs.YtafnebpbfmbgiaaDoor
open Go.RowKit Go.Sort
end Go.Proofs.YtafnebpbfmbgiaaDoor

namespace Go.Proofs.YtafnebpbfmbgiaaDoor
open Go.RowKit Go.Sort
/-! the recording of a stroke, plainly -/
def rkC (t : Tri) (s : ByteArray) (k : Int) : Int := if vmach t = false then 1 else if jcode (strB s) ≠ 0 then jcode (strB s) else if betB k 1 6 = false then 2 else anC (strB s) (strB (sname k))
def rkM (t : Tri) (s : ByteArray) (k : Int) : Tri := if rkC t s k = 0 then (strokeT k t).1 else zTri
def rkT (t : Tri) (s : ByteArray) (k : Int) : ByteArray := if rkC t s k = 0 then anT s (sname k) else ⟨#[]⟩
theorem rk_not {t : Tri} {s : ByteArray} {k c : Int} (h : rkC t s k = c) (hc : c ≠ 0) : rkC t s k = c ∧ rkM t s k = zTri ∧ rkT t s k = ⟨#[]⟩ :=
  ⟨h, by unfold rkM; rw [h, if_neg hc], by unfold rkT; rw [h, if_neg hc]⟩
theorem rk_bad {t : Tri} {s : ByteArray} {k : Int} (h : vmach t = false) : rkC t s k = 1 ∧ rkM t s k = zTri ∧ rkT t s k = ⟨#[]⟩ := rk_not (by unfold rkC; rw [if_pos h]) (by decide)
theorem rk_code {t : Tri} {s : ByteArray} {k : Int} (h : vmach t = true) (h2 : jcode (strB s) ≠ 0) : rkC t s k = jcode (strB s) ∧ rkM t s k = zTri ∧ rkT t s k = ⟨#[]⟩ := rk_not (by unfold rkC; rw [if_neg (by rw [h]; decide), if_pos h2]) h2
theorem rk_kind {t : Tri} {s : ByteArray} {k : Int} (h : vmach t = true) (h2 : jcode (strB s) = 0) (h3 : betB k 1 6 = false) : rkC t s k = 2 ∧ rkM t s k = zTri ∧ rkT t s k = ⟨#[]⟩ := rk_not (by unfold rkC; rw [if_neg (by rw [h]; decide), if_neg (fun h' => h' h2), if_pos h3]) (by decide)
theorem rk_note {t : Tri} {s : ByteArray} {k : Int} (h : vmach t = true) (h2 : jcode (strB s) = 0) (h3 : betB k 1 6 = true) (h4 : anC (strB s) (strB (sname k)) ≠ 0) : rkC t s k = anC (strB s) (strB (sname k)) ∧ rkM t s k = zTri ∧ rkT t s k = ⟨#[]⟩ := rk_not (by unfold rkC; rw [if_neg (by rw [h]; decide), if_neg (fun h' => h' h2), if_neg (by rw [h3]; decide)]) h4
theorem rk_fine {t : Tri} {s : ByteArray} {k : Int} (h : vmach t = true) (h2 : jcode (strB s) = 0) (h3 : betB k 1 6 = true) (h4 : anC (strB s) (strB (sname k)) = 0) : rkC t s k = 0 ∧ rkM t s k = (strokeT k t).1 ∧ rkT t s k = anT s (sname k) := by
  have h1 : rkC t s k = 0 := by unfold rkC; rw [if_neg (by rw [h]; decide), if_neg (fun h' => h' h2), if_neg (by rw [h3]; decide)]; exact h4
  exact ⟨h1, by unfold rkM; rw [h1, if_pos rfl], by unfold rkT; rw [h1, if_pos rfl]⟩
theorem rkM_ok {t : Tri} {s : ByteArray} {k : Int} (h : rkC t s k = 0) : vmach (rkM t s k) = true := by
  have hv : vmach t = true := by
    cases hv : vmach t with
    | true => rfl
    | false => rw [(rk_bad hv).1] at h; cases h
  unfold rkM
  rw [if_pos h]
  exact strokeT_ok _ hv
theorem rkM_len (t : Tri) (s : ByteArray) (k : Int) : (rkM t s k).a.digits.length ≤ 16 ∧ (rkM t s k).b.digits.length ≤ 16 ∧ (rkM t s k).s.digits.length ≤ 16 := by
  by_cases h : rkC t s k = 0
  · have := sized_of (rkM_ok h)
    exact ⟨this.a, this.b, this.s⟩
  · unfold rkM; rw [if_neg h]; simp [zTri]
def RKRet (t : Tri) (s : ByteArray) (k : Int) : World → Ending → World → Prop := M2Ret (rkM t s k) (.string (rkT t s k)) (rkC t s k)
theorem isStroke_any (k : Int) (w : World) : Calls Tryd.prog 100 #[.int .i64 k] w fun e w' => e = .returned (.bool (betB k 1 6)) ∧ w = w' := by
  have KB := Lib.hid (fun W => between_any k 1 6 W)
  go_enter Tryd.func100, Tryd.ntmps100
  go_wp2_with (go_at_call 112; refine (KB.out _).mono ?_; rintro e w' ⟨rfl, rfl⟩)
  go_ret
  exact ⟨rfl, rfl⟩
theorem l10Kind_any (k : Int) (w : World) : Calls Tryd.prog 104 #[.int .i64 k] w fun e w' => e = .returned (.bool (betB k 1 6)) ∧ w = w' := by
  have KB := Lib.hid (fun W => l00In_any k 1 6 W)
  go_enter Tryd.func104, Tryd.ntmps104
  go_wp2_with (go_at_call 165; refine (KB.out _).mono ?_; rintro e w' ⟨rfl, rfl⟩)
  go_ret
  exact ⟨rfl, rfl⟩
set_option maxRecDepth 100000 in
set_option maxHeartbeats 3200000 in
theorem RecordStroke_any (t : Tri) (A1 A2 A3 : Option Addr) (c1 c2 c3 : Nat) (s : ByteArray) (k : Int) (w : World) (r1 : RI w A1 t.a.digits.length t.a.digits) (r2 : RI w A2 t.b.digits.length t.b.digits) (r3 : RI w A3 t.s.digits.length t.s.digits) (hs : SmallTri t) (hz : s.size ≤ 9223372036854775807) (ht : TB w) :
    Calls Tryd.prog 19 #[.agg #[.int .i64 t.a.base, .slice A1 t.a.digits.length c1, .int .i64 t.b.base, .slice A2 t.b.digits.length c2, .int .i64 t.s.base, .slice A3 t.s.digits.length c3, .int .i64 t.carry], .string s, .int .i64 k] w (RKRet t s k w) := by
  have KV := (fun W (hW : Below w.heap.size w W) => ValidMachine_any t A1 A2 A3 c1 c2 c3 W (r1.below hW) (r2.below hW) (r3.below hW) hs)
  have KW := (fun W (hW : Below w.heap.size w W) => wholeJournal_any s W hz (TB.below ht hW))
  have KK := (fun W => isStroke_any k W)
  have KA := (fun W (hW : Below w.heap.size w W) => AppendNote_any s (sname k) W hz (by have := sname_len k; omega) (TB.below ht hW))
  unfold RKRet
  rcases hv : vmach t with _ | _
  · rw [hv] at KV
    obtain ⟨e1, e2, e3⟩ := rk_bad (s := s) (k := k) hv
    rw [e1, e2, e3]
    replace KV := Lib.hid KV
    clear hv KW KK KA r1 r2 r3 hs ht e1 e2 e3
    go_enter Tryd.func19, Tryd.ntmps19
    go_wp2_with fail
    refine Calls.kn (((Kn.nil w).al [.int .i64 t.a.base, .slice A1 t.a.digits.length c1, .int .i64 t.b.base, .slice A2 t.b.digits.length c2, .int .i64 t.s.base, .slice A3 t.s.digits.length c3, .int .i64 t.carry] 28).al [.int .i64 0, .slice none 0 0, .int .i64 0, .slice none 0 0, .int .i64 0, .slice none 0 0, .int .i64 0] 28) ?_; intro w1 hK0
    simp only [World.size_alloc] at hK0
    refine (KV.out _ hK0.below).mono ?_; rintro e w2 ⟨rfl, hw⟩
    have hK1 := hK0.keep hw
    obtain ⟨x1, x2, x3⟩ := (hK1.front 0 rfl).blkAt
    go_wp2_with fail
    refine bodyPost.kn (((((((((hK1.front 0 rfl).st 0 (.int .i64 0)).st 1 (.slice none 0 0)).st 2 (.int .i64 0)).st 3 (.slice none 0 0)).st 4 (.int .i64 0)).st 5 (.slice none 0 0)).st 6 (.int .i64 0)).sel [0] 99 (by decide) (by decide)) ?_; intro w6 hK6
    clear x1 x2 x3
    obtain ⟨a1, a2, a3, -⟩ := hK6.cells
    refine bodyPost_ret (v := .tuple #[.agg #[.int .i64 0, .slice none 0 0, .int .i64 0, .slice none 0 0, .int .i64 0, .slice none 0 0, .int .i64 0], .string ⟨#[]⟩, .int .i64 1]) (by simp [results, Tryd.results19, go_sem, a1]) rfl ?_
    exact M2Ret.zero hK6.below
  rw [hv] at KV
  unfold WJ at KW
  have H1 := rk_code (s := s) (k := k) hv
  have H2 := rk_kind (s := s) (k := k) hv
  have H3 := rk_note (s := s) (k := k) hv
  have H4 := rk_fine (s := s) (k := k) hv
  obtain ⟨C, hC⟩ : ∃ C, jcode (strB s) = C := ⟨_, rfl⟩
  obtain ⟨RC, hRC⟩ : ∃ C, rkC t s k = C := ⟨_, rfl⟩
  obtain ⟨RM, hRM⟩ : ∃ C, rkM t s k = C := ⟨_, rfl⟩
  obtain ⟨RT, hRT⟩ : ∃ C, rkT t s k = C := ⟨_, rfl⟩
  rw [hC] at KW
  rw [hC, hRC, hRM, hRT] at H1 H2 H3 H4
  rw [hRC, hRM, hRT]
  clear hC hRC hRM hRT
  replace KW := Lib.hid KW
  replace KV := Lib.hid KV
  rcases hc0 : (C == 0) with _ | _
  · have HCN := Lib.hid (show C ≠ 0 by simpa using hc0)
    have HQ := Lib.hid (H1 HCN.out)
    have hc1 : (C != 0) = true := by simpa using hc0
    clear H1 H2 H3 H4 KK KA hv r1 r2 r3 hs ht hc0
    go_enter Tryd.func19, Tryd.ntmps19
    go_wp2_with fail
    refine Calls.kn (((Kn.nil w).al [.int .i64 t.a.base, .slice A1 t.a.digits.length c1, .int .i64 t.b.base, .slice A2 t.b.digits.length c2, .int .i64 t.s.base, .slice A3 t.s.digits.length c3, .int .i64 t.carry] 28).al [.int .i64 0, .slice none 0 0, .int .i64 0, .slice none 0 0, .int .i64 0, .slice none 0 0, .int .i64 0] 28) ?_; intro w1 hK0
    simp only [World.size_alloc] at hK0
    refine (KV.out _ hK0.below).mono ?_; rintro e w2 ⟨rfl, hw⟩
    have hK1 := hK0.keep hw
    go_wp2_with fail
    refine (KW.out _ hK1.below).mono ?_; rintro e w3 ⟨v, rfl, (⟨-, rfl, hw⟩ | ⟨h0, -⟩)⟩
    rotate_left
    · exact absurd h0 HCN.out
    have hK2 := hK1.keep (hw.mono (Nat.le_refl _))
    obtain ⟨x1, x2, x3⟩ := (hK2.front 0 rfl).blkAt
    go_wp2_with fail
    refine bodyPost.kn (((((((((hK2.front 0 rfl).st 0 (.int .i64 0)).st 1 (.slice none 0 0)).st 2 (.int .i64 0)).st 3 (.slice none 0 0)).st 4 (.int .i64 0)).st 5 (.slice none 0 0)).st 6 (.int .i64 0)).sel [0] 99 (by decide) (by decide)) ?_; intro w6 hK6
    clear x1 x2 x3
    obtain ⟨a1, a2, a3, -⟩ := hK6.cells
    refine bodyPost_ret (v := .tuple #[.agg #[.int .i64 0, .slice none 0 0, .int .i64 0, .slice none 0 0, .int .i64 0, .slice none 0 0, .int .i64 0], .string ⟨#[]⟩, .int .i64 C]) (by simp [results, Tryd.results19, go_sem, a1]) rfl ?_
    rw [HQ.out.1, HQ.out.2.1, HQ.out.2.2]
    exact M2Ret.zero hK6.below
  obtain rfl : C = 0 := by simpa using hc0
  replace H2 := H2 rfl
  replace H3 := H3 rfl
  replace H4 := H4 rfl
  clear H1 hc0
  rcases hk : betB k 1 6 with _ | _
  · rw [hk] at KK
    have HQ := Lib.hid (H2 hk)
    replace KK := Lib.hid KK
    clear H2 H3 H4 KA hv hk r1 r2 r3 hs ht
    go_enter Tryd.func19, Tryd.ntmps19
    go_wp2_with fail
    refine Calls.kn (((Kn.nil w).al [.int .i64 t.a.base, .slice A1 t.a.digits.length c1, .int .i64 t.b.base, .slice A2 t.b.digits.length c2, .int .i64 t.s.base, .slice A3 t.s.digits.length c3, .int .i64 t.carry] 28).al [.int .i64 0, .slice none 0 0, .int .i64 0, .slice none 0 0, .int .i64 0, .slice none 0 0, .int .i64 0] 28) ?_; intro w1 hK0
    simp only [World.size_alloc] at hK0
    refine (KV.out _ hK0.below).mono ?_; rintro e w2 ⟨rfl, hw⟩
    have hK1 := hK0.keep hw
    go_wp2_with fail
    refine (KW.out _ hK1.below).mono ?_; rintro e w3 ⟨v, rfl, (⟨h0, -⟩ | ⟨-, g, rfl, hJ⟩)⟩
    · exact absurd rfl h0
    have hK2 := hK1.keep hJ.below
    obtain ⟨x1, x2, x3⟩ := hK2.blkAt
    go_wp2_with (go_at_call 100; with_reducible refine (KK.out _).mono ?_; rintro e w4 ⟨rfl, rfl⟩)
    refine bodyPost.kn ((((((((hK2.st 0 (.int .i64 0)).st 1 (.slice none 0 0)).st 2 (.int .i64 0)).st 3 (.slice none 0 0)).st 4 (.int .i64 0)).st 5 (.slice none 0 0)).st 6 (.int .i64 0)).sel [0] 99 (by decide) (by decide)) ?_; intro w6 hK6
    clear x1 x2 x3
    obtain ⟨a1, a2, a3, -⟩ := hK6.cells
    refine bodyPost_ret (v := .tuple #[.agg #[.int .i64 0, .slice none 0 0, .int .i64 0, .slice none 0 0, .int .i64 0, .slice none 0 0, .int .i64 0], .string ⟨#[]⟩, .int .i64 2]) (by simp [results, Tryd.results19, go_sem, a1]) rfl ?_
    rw [HQ.out.1, HQ.out.2.1, HQ.out.2.2]
    exact M2Ret.zero hK6.below
  rw [hk] at KK
  replace H3 := H3 hk
  replace H4 := H4 hk
  have hk16 := betB_iff.1 hk
  have hnm := sname_len k
  obtain ⟨N, hN⟩ : ∃ N, sname k = N := ⟨_, rfl⟩
  obtain ⟨AC, hAC⟩ : ∃ N, anC (strB s) (strB (sname k)) = N := ⟨_, rfl⟩
  obtain ⟨AT, hAT⟩ : ∃ N, anT s (sname k) = N := ⟨_, rfl⟩
  have KN := (fun W => StrokeName_any k W hk16)
  have KT := Lib.hid (fun W (hW : Below w.heap.size w W) => stroke_any t A1 A2 A3 c1 c2 c3 k W (r1.below hW) (r2.below hW) (r3.below hW) hv hk16)
  rw [hAC, hAT] at KA
  rw [hAC] at H3 H4
  rw [hAT] at H4
  rw [hN] at KA KN
  clear hN hAC hAT
  obtain ⟨r, hr⟩ : ∃ r, strokeT k t = r := ⟨_, rfl⟩
  rw [hr] at KT H4
  replace KK := Lib.hid KK
  replace KA := Lib.hid KA
  replace KN := Lib.hid KN
  clear hr hk hk16 hv H2 r1 r2 r3 hs ht
  rcases hc0 : (AC == 0) with _ | _
  · have HCN := Lib.hid (show AC ≠ 0 by simpa using hc0)
    have HQ := Lib.hid (H3 HCN.out)
    have hc1 : (AC != 0) = true := by simpa using hc0
    clear H3 H4 KT
    go_enter Tryd.func19, Tryd.ntmps19
    go_wp2_with fail
    refine Calls.kn (((Kn.nil w).al [.int .i64 t.a.base, .slice A1 t.a.digits.length c1, .int .i64 t.b.base, .slice A2 t.b.digits.length c2, .int .i64 t.s.base, .slice A3 t.s.digits.length c3, .int .i64 t.carry] 28).al [.int .i64 0, .slice none 0 0, .int .i64 0, .slice none 0 0, .int .i64 0, .slice none 0 0, .int .i64 0] 28) ?_; intro w1 hK0
    simp only [World.size_alloc] at hK0
    refine (KV.out _ hK0.below).mono ?_; rintro e w2 ⟨rfl, hw⟩
    have hK1 := hK0.keep hw
    go_wp2_with fail
    refine (KW.out _ hK1.below).mono ?_; rintro e w3 ⟨v, rfl, (⟨h0, -⟩ | ⟨-, g, rfl, hJ⟩)⟩
    · exact absurd rfl h0
    have hK2 := hK1.keep hJ.below
    obtain ⟨x1, x2, x3⟩ := hK2.blkAt
    go_wp2_with (first
      | (go_at_call 100; with_reducible refine (KK.out _).mono ?_; rintro e w4 ⟨rfl, rfl⟩)
      | (go_at_call 102; with_reducible refine (KN.out _).mono ?_; rintro e w5 ⟨rfl, hw⟩; have hK4 := hK2.keep hw)
      | (go_at_call 101; refine (KA.out _ hK4.below).mono ?_; rintro e w6 ⟨rfl, hw6⟩; have hK5 := hK4.keep hw6; clear x1 x2 x3; obtain ⟨x1, x2, x3, x4, x5, x6, -⟩ := hK5.cells))
    refine bodyPost.kn ((((((((hK5.st 0 (.int .i64 0)).st 1 (.slice none 0 0)).st 2 (.int .i64 0)).st 3 (.slice none 0 0)).st 4 (.int .i64 0)).st 5 (.slice none 0 0)).st 6 (.int .i64 0)).sel [0] 99 (by decide) (by decide)) ?_; intro w6 hK6
    clear x1 x2 x3 x4 x5 x6
    obtain ⟨a1, a2, a3, -⟩ := hK6.cells
    refine bodyPost_ret (v := .tuple #[.agg #[.int .i64 0, .slice none 0 0, .int .i64 0, .slice none 0 0, .int .i64 0, .slice none 0 0, .int .i64 0], .string ⟨#[]⟩, .int .i64 AC]) (by simp [results, Tryd.results19, go_sem, a1]) rfl ?_
    rw [HQ.out.1, HQ.out.2.1, HQ.out.2.2]
    exact M2Ret.zero hK6.below
  obtain rfl : AC = 0 := by simpa using hc0
  have HQ := Lib.hid (H4 rfl)
  clear H3 H4 hc0
  go_enter Tryd.func19, Tryd.ntmps19
  go_wp2_with fail
  refine Calls.kn (((Kn.nil w).al [.int .i64 t.a.base, .slice A1 t.a.digits.length c1, .int .i64 t.b.base, .slice A2 t.b.digits.length c2, .int .i64 t.s.base, .slice A3 t.s.digits.length c3, .int .i64 t.carry] 28).al [.int .i64 0, .slice none 0 0, .int .i64 0, .slice none 0 0, .int .i64 0, .slice none 0 0, .int .i64 0] 28) ?_; intro w1 hK0
  simp only [World.size_alloc] at hK0
  refine (KV.out _ hK0.below).mono ?_; rintro e w2 ⟨rfl, hw⟩
  have hK1 := hK0.keep hw
  go_wp2_with fail
  refine (KW.out _ hK1.below).mono ?_; rintro e w3 ⟨v, rfl, (⟨h0, -⟩ | ⟨-, g, rfl, hJ⟩)⟩
  · exact absurd rfl h0
  have hK2 := hK1.keep hJ.below
  obtain ⟨x1, x2, x3, x4, x5, x6, -⟩ := hK2.cells
  go_wp2_with (first
      | (go_at_call 100; with_reducible refine (KK.out _).mono ?_; rintro e w4 ⟨rfl, rfl⟩)
      | (go_at_call 102; with_reducible refine (KN.out _).mono ?_; rintro e w5 ⟨rfl, hw⟩; have hK4 := hK2.keep hw)
      | (go_at_call 101; refine (KA.out _ hK4.below).mono ?_; rintro e w6 ⟨rfl, hw6⟩; have hK5 := hK4.keep hw6; clear x1 x2 x3 x4 x5 x6; obtain ⟨x1, x2, x3, x4, x5, x6, -⟩ := hK5.cells)
      | (go_at_call 96; refine (KT.out _ hK5.below).mono ?_; rintro e w7 ⟨E1, f1, E2, f2, E3, f3, rfl, hKn⟩; have hK7 := hK5.join hKn; clear x1 x2 x3 x4 x5 x6; obtain ⟨x1, x2, x3, x4, x5, x6, -⟩ := hK7.cells))
  refine bodyPost.kn (((((((((hK7.front 3 rfl).st 0 (.int .i64 r.1.a.base)).st 1 (.slice E1 r.1.a.digits.length f1)).st 2 (.int .i64 r.1.b.base)).st 3 (.slice E2 r.1.b.digits.length f2)).st 4 (.int .i64 r.1.s.base)).st 5 (.slice E3 r.1.s.digits.length f3)).st 6 (.int .i64 r.1.carry)).al_ _) ?_; intro w8 hK8
  clear x1 x2 x3 x4 x5 x6
  obtain ⟨a1, a2, a3, -⟩ := hK8.cells
  refine bodyPost_ret (v := .tuple #[.agg #[.int .i64 r.1.a.base, .slice E1 r.1.a.digits.length f1, .int .i64 r.1.b.base, .slice E2 r.1.b.digits.length f2, .int .i64 r.1.s.base, .slice E3 r.1.s.digits.length f3, .int .i64 r.1.carry], .string AT, .int .i64 0]) (by simp [results, Tryd.results19, go_sem, a1]) rfl ?_
  rw [HQ.out.1, HQ.out.2.1, HQ.out.2.2]
  exact ⟨E1, f1, E2, f2, E3, f3, rfl, hK8.sel [1, 2, 3] 99 (by decide) (by decide)⟩
end Go.Proofs.YtafnebpbfmbgiaaDoor

namespace Go.Proofs.YtafnebpbfmbgiaaDoor
open Go.RowKit Go.Sort
def sameM (t u : Tri) : Bool := sameR t.a u.a && sameR t.b u.b && sameR t.s u.s && (t.carry == u.carry)
set_option maxRecDepth 100000 in
set_option maxHeartbeats 1600000 in
theorem l10Same_any (p q : Addr) (t u : Tri) (w : World) (hT : TriM w p t) (hU : TriM w q u) (hs : SmallTri t) (hu : SmallTri u) :
    Calls Tryd.prog 99 #[.pointer (some p), .pointer (some q)] w fun e w' => e = .returned (.bool (sameM t u)) ∧ ∃ m, w' = w.drewN m := by
  have HM := Lib.hid (show sameM t u = (sameR t.a u.a && sameR t.b u.b && sameR t.s u.s && (t.carry == u.carry)) from rfl)
  have K1 := (fun (m : Nat) => l02Same_any p q t.a u.a (w.drewN m) hT.1 hU.1 hs.1 hu.1)
  have K2 := (fun (m : Nat) => l02Same_any ⟨p.block, p.off + 2, none⟩ ⟨q.block, q.off + 2, none⟩ t.b u.b (w.drewN m) hT.2.1 hU.2.1 hs.2.1 hu.2.1)
  have K3 := (fun (m : Nat) => l02Same_any ⟨p.block, p.off + 4, none⟩ ⟨q.block, q.off + 4, none⟩ t.s u.s (w.drewN m) hT.2.2.1 hU.2.2.1 hs.2.2 hu.2.2)
  have hc1 := hT.2.2.2
  have hc2 := hU.2.2.2
  obtain ⟨e1, h1⟩ : ∃ b, sameR t.a u.a = b := ⟨_, rfl⟩
  obtain ⟨e2, h2⟩ : ∃ b, sameR t.b u.b = b := ⟨_, rfl⟩
  obtain ⟨e3, h3⟩ : ∃ b, sameR t.s u.s = b := ⟨_, rfl⟩
  rw [h1] at K1 HM
  rw [h2] at K2 HM
  rw [h3] at K3 HM
  replace K1 := Lib.hid K1
  replace K2 := Lib.hid K2
  replace K3 := Lib.hid K3
  obtain ⟨R, hR⟩ : ∃ R, sameM t u = R := ⟨_, rfl⟩
  rw [hR] at HM ⊢
  clear h1 h2 h3 hT hU hs hu hR
  rcases e1 with _ | _
  · have HQ : Hid (R = false) := by simp only [Hid]; rw [HM.out]; rfl
    go_enter Tryd.func99, Tryd.ntmps99
    go_wp2_with fail
    go_quiet ((go_at_call 117; first | (with_reducible exact quiet_of_ex (K1.out _)) | (with_reducible exact quiet_add_ex (K1.out _)) | (with_reducible exact quiet_of_ex (K2.out _)) | (with_reducible exact quiet_add_ex (K2.out _)) | (with_reducible exact quiet_of_ex (K3.out _)) | (with_reducible exact quiet_add_ex (K3.out _))))
    go_wp2_with fail
    go_ret
    exact ⟨ret_bool HQ.out.symm, by first | exact ⟨_, rfl⟩ | exact ⟨_, World.drewN_drewN _ _ _⟩⟩
  rcases e2 with _ | _
  · have HQ : Hid (R = false) := by simp only [Hid]; rw [HM.out]; rfl
    go_enter Tryd.func99, Tryd.ntmps99
    go_wp2_with fail
    go_quiet ((go_at_call 117; first | (with_reducible exact quiet_of_ex (K1.out _)) | (with_reducible exact quiet_add_ex (K1.out _)) | (with_reducible exact quiet_of_ex (K2.out _)) | (with_reducible exact quiet_add_ex (K2.out _)) | (with_reducible exact quiet_of_ex (K3.out _)) | (with_reducible exact quiet_add_ex (K3.out _))))
    go_wp2_with fail
    go_ret
    exact ⟨ret_bool HQ.out.symm, by first | exact ⟨_, rfl⟩ | exact ⟨_, World.drewN_drewN _ _ _⟩⟩
  rcases e3 with _ | _
  · have HQ : Hid (R = false) := by simp only [Hid]; rw [HM.out]; rfl
    go_enter Tryd.func99, Tryd.ntmps99
    go_wp2_with fail
    go_quiet ((go_at_call 117; first | (with_reducible exact quiet_of_ex (K1.out _)) | (with_reducible exact quiet_add_ex (K1.out _)) | (with_reducible exact quiet_of_ex (K2.out _)) | (with_reducible exact quiet_add_ex (K2.out _)) | (with_reducible exact quiet_of_ex (K3.out _)) | (with_reducible exact quiet_add_ex (K3.out _))))
    go_wp2_with fail
    go_ret
    exact ⟨ret_bool HQ.out.symm, by first | exact ⟨_, rfl⟩ | exact ⟨_, World.drewN_drewN _ _ _⟩⟩
  · have HQ : Hid (R = (t.carry == u.carry)) := by simp only [Hid]; rw [HM.out]; simp
    go_enter Tryd.func99, Tryd.ntmps99
    go_wp2_with fail
    go_quiet ((go_at_call 117; first | (with_reducible exact quiet_of_ex (K1.out _)) | (with_reducible exact quiet_add_ex (K1.out _)) | (with_reducible exact quiet_of_ex (K2.out _)) | (with_reducible exact quiet_add_ex (K2.out _)) | (with_reducible exact quiet_of_ex (K3.out _)) | (with_reducible exact quiet_add_ex (K3.out _))))
    go_wp2_with fail
    go_ret
    exact ⟨ret_bool HQ.out.symm, by first | exact ⟨_, rfl⟩ | exact ⟨_, World.drewN_drewN _ _ _⟩⟩
end Go.Proofs.YtafnebpbfmbgiaaDoor

namespace Go.Proofs.YtafnebpbfmbgiaaDoor
open Go.RowKit Go.Sort
/-! whole sessions, plainly -/
/-- what a line does to a machine -/
def stepM (t : Tri) (b : List UInt8) : Tri × Int :=
  if kindOf b ≠ 0 then ((strokeT (kindOf b) t).1, 0)
  else if b = endB then (t, 0)
  else if begins setB b then (if (rdDec (b.drop 4)).isSome && decide (0 ≤ rdN (b.drop 4) ∧ rdN (b.drop 4) < pw t.a.base t.a.digits.length) then (setT t (rdN (b.drop 4)), 0) else (t, 3))
  else if begins showB b then (if b.drop 5 = strB (mtextL t) then (t, 0) else (t, 4))
  else (t, 2)
theorem kind_end : kindOf endB = 0 := by decide
theorem lineS_step {s : SS} {i : Int} {b : List UInt8} (h : s.ended = false) : (lineS s i b).1.m = (stepM s.m b).1 ∧ (lineS s i b).2 = (stepM s.m b).2 ∧ (lineS s i b).1.ended = decide (b = endB) ∧ (lineS s i b).1.start = s.start := by
  unfold lineS stepM
  rw [if_neg (by rw [h]; decide)]
  by_cases hk : kindOf b = 0
  · have hk' : ¬ (kindOf b ≠ 0) := fun h => h hk
    rw [if_neg hk', if_neg hk']
    by_cases he : b = endB
    · rw [if_pos he, if_pos he]; simp [he]
    · rw [if_neg he, if_neg he]
      have hd : decide (b = endB) = false := decide_eq_false he
      rw [hd]
      rcases begins setB b with _ | _
      · simp only [Bool.false_eq_true, if_false]
        rcases begins showB b with _ | _
        · simp [h]
        · simp only [if_true]; split <;> simp [h]
      · simp only [if_true]; split <;> simp [h]
  · rw [if_pos hk, if_pos hk]
    have he : b ≠ endB := by rintro rfl; exact hk kind_end
    simp [he]
def foldT (t : Tri) (l : List (List UInt8)) : Tri := l.foldl (fun t b => (stepM t b).1) t
def AllOk : Tri → List (List UInt8) → Prop
  | _, [] => True
  | t, b :: l => (stepM t b).2 = 0 ∧ b ≠ endB ∧ AllOk (stepM t b).1 l
theorem goS_ended {s : SS} {i : Int} {l : List (List UInt8)} (h : s.ended = true) (h0 : (goS s i l).2.2 = 0) : l = [] := by
  cases l with
  | nil => rfl
  | cons b l =>
    rw [goS_cons, lineS_ended i b h] at h0
    rw [if_pos (show (5 : Int) ≠ 0 by decide)] at h0
    cases h0
/-- a whole session: its lines are fine, and the last one ends it -/
theorem goS_valid : ∀ {l : List (List UInt8)} {s : SS} {i : Int}, s.ended = false → (goS s i l).2.2 = 0 → ∃ body, l = body ++ [endB] ∧ AllOk s.m body ∧ (goS s i l).1.m = foldT s.m body ∧ (goS s i l).1.start = s.start
  | [], s, i, h, h0 => by
    rw [goS_nil, h, if_neg (by decide)] at h0
    cases h0
  | b :: l, s, i, h, h0 => by
    obtain ⟨e1, e2, e3, e4⟩ := lineS_step (i := i) (b := b) h
    by_cases hc : (lineS s i b).2 = 0
    · rw [goS_cons, if_neg (fun h => h hc)] at h0 ⊢
      by_cases he : b = endB
      · have hl := goS_ended (by rw [e3, decide_eq_true he]) h0
        subst hl
        refine ⟨[], by rw [he]; rfl, trivial, ?_, ?_⟩
        · rw [goS_nil, e3, decide_eq_true he, if_pos rfl, e1, he]
          show (stepM s.m endB).1 = s.m
          unfold stepM
          rw [if_neg (fun h => h kind_end), if_pos rfl]
        · rw [goS_nil, e3, decide_eq_true he, if_pos rfl, e4]
      · have he' : (lineS s i b).1.ended = false := by rw [e3, decide_eq_false he]
        obtain ⟨body, h1, h2, h3, h4⟩ := goS_valid (l := l) he' h0
        refine ⟨b :: body, by rw [h1]; rfl, ⟨e2.symm.trans hc, he, by rw [← e1]; exact h2⟩, ?_, by rw [h4, e4]⟩
        rw [h3, e1]; rfl
    · rw [goS_cons, if_pos hc] at h0
      exact absurd h0 hc
/-- fine lines without an end: the machine behind them -/
theorem goS_fold : ∀ {l : List (List UInt8)} {s : SS} {i : Int}, s.ended = false → AllOk s.m l → (goS s i l).1.m = foldT s.m l
  | [], s, i, h, _ => by rw [goS_nil, h, if_neg (by decide)]; rfl
  | b :: l, s, i, h, h0 => by
    obtain ⟨e1, e2, e3, e4⟩ := lineS_step (i := i) (b := b) h
    obtain ⟨h1, h2, h3⟩ := h0
    rw [goS_cons, if_neg (fun h => h (e2.trans h1))]
    rw [goS_fold (by rw [e3, decide_eq_false h2]) (by rw [e1]; exact h3), e1]; rfl
theorem foldT_ok : ∀ {l : List (List UInt8)} {t : Tri}, vmach t = true → vmach (foldT t l) = true
  | [], t, h => h
  | b :: l, t, h => by
    show vmach (foldT (stepM t b).1 l) = true
    refine foldT_ok ?_
    have hg : (SS.mk t t [] [] false).Good 0 := ⟨h, h, Nat.le_refl _, Nat.le_refl _⟩
    have := (lineS_good (i := 0) (bs := b) hg).m
    rw [(lineS_step (s := ⟨t, t, [], [], false⟩) (i := 0) (b := b) rfl).1] at this
    exact this
/-- a whole session, from its lines -/
theorem whole_parts {l : List (List UInt8)} (h : wholeC l = 0) : l.length ≤ 100 ∧ ∃ b0 body, l = b0 :: (body ++ [endB]) ∧ startOk b0 = true ∧ vmach (rdMach (b0.drop 6)) = true ∧ AllOk (rdMach (b0.drop 6)) body ∧ (runS l).1.m = foldT (rdMach (b0.drop 6)) body ∧ (runS l).1.start = rdMach (b0.drop 6) := by
  obtain ⟨h1, h2⟩ := wholeC_ok h
  refine ⟨h1, ?_⟩
  match l, h2 with
  | [], h2 => simp [runS] at h2
  | b :: t, h2 =>
    rw [runS_cons] at h2 ⊢
    rcases hs : startOk b with _ | _
    · rw [hs, if_neg (by decide)] at h2; cases h2
    · rw [hs, if_pos rfl] at h2
      obtain ⟨body, e1, e2, e3, e4⟩ := goS_valid (s := ⟨rdMach (b.drop 6), rdMach (b.drop 6), [], [], false⟩) rfl h2
      have hv : vmach (rdMach (b.drop 6)) = true := by
        unfold startOk at hs
        rw [Bool.and_eq_true] at hs
        exact rdm_good hs.2
      rw [if_pos rfl]
      exact ⟨b, body, by rw [e1], hs, hv, e2, e3, e4⟩
theorem show_step {t : Tri} {b : List UInt8} (h : begins showB b = true) (h0 : (stepM t b).2 = 0) : (stepM t b).1 = t := by
  have h0 := h0
  unfold stepM at h0 ⊢
  by_cases hk : kindOf b = 0
  · have hk' : ¬ (kindOf b ≠ 0) := fun h => h hk
    rw [if_neg hk'] at h0 ⊢
    rw [if_neg (begins_ne h (by decide)), show_not_set h, if_neg (by decide), if_pos h] at h0 ⊢
    split <;> rfl
  · have hkk := kindOf_name hk
    have hb := (begins_iff.1 h).1
    have : b.length ≤ 5 := by rw [← hkk, strB_len]; exact sname_len _
    change 5 < b.length at hb
    omega
/-- the bytes "show " alone are no line of a session -/
theorem show_alone {t : Tri} (h : (stepM t showB).2 = 0) : False := by
  have : stepM t showB = (t, 2) := by
    unfold stepM
    rw [if_neg (by decide), if_neg (by decide), if_neg (by decide), if_neg (by decide)]
  rw [this] at h
  cases h
/-- is a line one that shows? (the reference's test) -/
def isShow (b : List UInt8) : Bool := decide (5 ≤ b.length) && decide (b.take 5 = showB)
theorem isShow_eq {t : Tri} {b : List UInt8} (h : (stepM t b).2 = 0) : isShow b = begins showB b := by
  unfold isShow begins
  by_cases h5 : b.length = 5
  · by_cases hb : b.take 5 = showB
    · rw [List.take_of_length_le (by omega)] at hb
      subst hb
      exact (show_alone h).elim
    · show (_ && decide (b.take 5 = showB)) = (_ && decide (b.take 5 = showB))
      rw [decide_eq_false hb]; simp
  · show (decide (5 ≤ b.length) && _) = (decide (5 < b.length) && _)
    have : decide (5 ≤ b.length) = decide (5 < b.length) := by
      by_cases h6 : 5 < b.length
      · rw [decide_eq_true h6, decide_eq_true (by omega)]
      · rw [decide_eq_false h6, decide_eq_false (by omega)]
    rw [this]; rfl
theorem isShow_end : isShow endB = false := by decide
theorem start_not_show {b : List UInt8} (h : startOk b = true) : begins showB b = false ∧ isShow b = false := by
  unfold startOk at h
  rw [Bool.and_eq_true] at h
  have h1 := (begins_iff.1 h.1).2
  have h2 : b.take 5 = startB.take 5 := by rw [← h1, List.take_take]; rfl
  constructor
  · unfold begins
    have : ¬ b.take showB.length = showB := by
      show ¬ b.take 5 = showB
      rw [h2]; decide
    rw [decide_eq_false this]; simp
  · unfold isShow
    rw [h2]
    have : decide (startB.take 5 = showB) = false := by decide
    rw [this]; simp
end Go.Proofs.YtafnebpbfmbgiaaDoor

namespace Go.Proofs.YtafnebpbfmbgiaaDoor
open Go.RowKit Go.Sort
/-! the shown session, plainly -/
def endW : ByteArray := ⟨#[101, 110, 100]⟩
def showT (t : Tri) : ByteArray := showW ++ mtext t
/-- what follows in the shown session, behind the first line -/
def restL (t : Tri) : List ByteArray → List ByteArray
  | [] => []
  | b :: r => if r = [] then [b] else if begins showB (strB b) then restL t r else b :: showT (stepM t (strB b)).1 :: restL (stepM t (strB b)).1 r
/-- the same of lines none of which shows -/
def restP (t : Tri) : List ByteArray → List ByteArray
  | [] => []
  | b :: r => if r = [] then [b] else b :: showT (stepM t (strB b)).1 :: restP (stepM t (strB b)).1 r
def notShow (b : ByteArray) : Bool := !isShow (strB b)
/-- lines that are fine, and the end behind them -/
def OkEnd (t : Tri) (l : List ByteArray) : Prop := ∃ body, l = body ++ [endW] ∧ AllOk t (body.map strB)
theorem endW_of {E : ByteArray} (h : strB E = endB) : E = endW := by
  have : endW = E := str_eq.2 (show ([101, 110, 100] : List UInt8) = strB E from h.symm)
  exact this.symm
theorem OkEnd.cons {t : Tri} {b : ByteArray} {r : List ByteArray} (h : OkEnd t (b :: r)) (hr : r ≠ []) : (stepM t (strB b)).2 = 0 ∧ strB b ≠ endB ∧ OkEnd (stepM t (strB b)).1 r := by
  obtain ⟨body, h1, h2⟩ := h
  cases body with
  | nil =>
    simp only [List.nil_append, List.cons.injEq] at h1
    exact absurd h1.2 hr
  | cons c body =>
    simp only [List.cons_append, List.cons.injEq] at h1
    obtain ⟨rfl, rfl⟩ := h1
    exact ⟨h2.1, h2.2.1, body, rfl, h2.2.2⟩
theorem OkEnd.last {t : Tri} {b : ByteArray} (h : OkEnd t [b]) : b = endW := by
  obtain ⟨body, h1, h2⟩ := h
  cases body with
  | nil => simpa using h1
  | cons c body => simp at h1
theorem OkEnd.ne {t : Tri} {l : List ByteArray} (h : OkEnd t l) : l ≠ [] := by
  obtain ⟨body, h1, -⟩ := h
  rw [h1]; simp
theorem whole_lines {ss : List ByteArray} (h : wholeC (ss.map strB) = 0) : ss.length ≤ 100 ∧ ∃ L tl, ss = L :: tl ∧ startOk (strB L) = true ∧ vmach (rdMach ((strB L).drop 6)) = true ∧ OkEnd (rdMach ((strB L).drop 6)) tl ∧ (runS (ss.map strB)).1.start = rdMach ((strB L).drop 6) := by
  obtain ⟨h1, b0, body, h2, h3, h4, h5, h6, h7⟩ := whole_parts h
  rw [List.length_map] at h1
  refine ⟨h1, ?_⟩
  match ss, h2, h7 with
  | L :: tl, g2, h7 =>
    simp only [List.map_cons, List.cons.injEq] at g2
    obtain ⟨rfl, g3⟩ := g2
    refine ⟨L, tl, rfl, h3, h4, ?_, h7⟩
    obtain ⟨l1, l2, rfl, e1, e2⟩ := List.map_eq_append_iff.1 g3
    have hl2 : l2.length = 1 := by have := congrArg List.length e2; simpa using this
    obtain ⟨E, rfl⟩ := List.length_eq_one_iff.1 hl2
    have e3 : strB E = endB := by simpa using e2
    exact ⟨l1, by rw [endW_of e3], by rw [e1]; exact h5⟩
theorem endW_notShow : notShow endW = true := by decide
/-- the lines that do not show, and the machine -/
theorem rest_plain : ∀ {l : List ByteArray} {t : Tri}, OkEnd t l → restL t l = restP t (l.filter notShow) ∧ OkEnd t (l.filter notShow)
  | [], t, h => absurd rfl h.ne
  | [b], t, h => by
    have hb := h.last
    subst hb
    have hf : [endW].filter notShow = [endW] := by rw [List.filter_cons_of_pos endW_notShow, List.filter_nil]
    rw [hf]
    exact ⟨by unfold restL restP; simp, h⟩
  | b :: c :: r, t, h => by
    obtain ⟨h1, h2, h3⟩ := h.cons (by simp)
    obtain ⟨ih1, ih2⟩ := rest_plain h3
    have hs : notShow b = !begins showB (strB b) := by unfold notShow; rw [isShow_eq h1]
    rcases hb : begins showB (strB b) with _ | _
    · rw [hb] at hs
      rw [List.filter_cons_of_pos (by rw [hs]; rfl)]
      have hne := ih2.ne
      refine ⟨?_, ?_⟩
      · have e1 : restL t (b :: c :: r) = b :: showT (stepM t (strB b)).1 :: restL (stepM t (strB b)).1 (c :: r) := by
          conv => lhs; unfold restL
          rw [if_neg (by simp), hb, if_neg (by decide)]
        have e2 : restP t (b :: (c :: r).filter notShow) = b :: showT (stepM t (strB b)).1 :: restP (stepM t (strB b)).1 ((c :: r).filter notShow) := by
          conv => lhs; unfold restP
          rw [if_neg hne]
        rw [e1, e2, ih1]
      · obtain ⟨body, e, ok⟩ := ih2
        exact ⟨b :: body, by rw [e]; rfl, h1, h2, ok⟩
    · rw [hb] at hs
      rw [List.filter_cons_of_neg (by rw [hs]; decide)]
      have ht := show_step hb h1
      rw [ht] at ih1 ih2
      refine ⟨?_, ih2⟩
      have e1 : restL t (b :: c :: r) = restL t (c :: r) := by
        conv => lhs; unfold restL
        rw [if_neg (by simp), hb, if_pos rfl]
      rw [e1, ih1]
/-- the shown session, and its code -/
def shL (ss : List ByteArray) : List ByteArray := match ss with | [] => [] | L :: tl => L :: restL (rdMach ((strB L).drop 6)) tl
def shC (ss : List ByteArray) : Int := if wholeC (ss.map strB) = 0 then (if (shL ss).length > 100 then 5 else 0) else wholeC (ss.map strB)
def shR (ss : List ByteArray) : List ByteArray := if shC ss = 0 then shL ss else []
theorem shR_len (ss : List ByteArray) : (shR ss).length ≤ 100 := by
  unfold shR
  split
  · rename_i h
    unfold shC at h
    split at h
    · split at h
      · cases h
      · omega
    · rename_i h'; exact absurd h h'
  · simp
/-- a row of strings, of its own length -/
def rowT (A : Option Addr) (c : Nat) (ss : List ByteArray) : Ent := rowSN A ss.length c ss
/-- strings and a code -/
def SCRet (l : List ByteArray) (C : Int) (w : World) (e : Ending) (w' : World) : Prop := ∃ X x, e = .returned (.tuple #[.slice X l.length x, .int .i64 C]) ∧ Kn w [rowT X x l] w'
theorem SCRet.none {C : Int} {w w' : World} (h : Below w.heap.size w w') : SCRet [] C w (.returned (.tuple #[.slice none 0 0, .int .i64 C])) w' :=
  ⟨_, _, rfl, ((Kn.nil w).keep h).nilRow _ _⟩
theorem AllOk.take : ∀ {l : List (List UInt8)} {t : Tri} (k : Nat), AllOk t l → AllOk t (l.take k)
  | [], t, k, h => by rw [List.take_nil]; trivial
  | b :: l, t, 0, h => trivial
  | b :: l, t, k + 1, h => ⟨h.1, h.2.1, AllOk.take k h.2.2⟩
theorem restL_len : ∀ (l : List ByteArray) (t : Tri), (restL t l).length ≤ 2 * l.length
  | [], t => by simp [restL]
  | b :: r, t => by
    unfold restL
    have h1 := restL_len r t
    have h2 := restL_len r (stepM t (strB b)).1
    split
    · simp; omega
    · split
      · simp only [List.length_cons]; omega
      · simp only [List.length_cons]; omega
end Go.Proofs.YtafnebpbfmbgiaaDoor

namespace Go.Proofs.YtafnebpbfmbgiaaDoor
open Go.RowKit Go.Sort
theorem StrokeName_all (k : Int) (w : World) : Calls Tryd.prog 102 #[.int .i64 k] w fun e w' => e = .returned (.string (sname k)) ∧ Below w.heap.size w w' := by
  by_cases h : 1 ≤ k ∧ k ≤ 6
  · exact StrokeName_any k w h
  · have hs : sname k = ⟨#[]⟩ := by
      unfold sname
      rw [if_neg (by omega), if_neg (by omega), if_neg (by omega), if_neg (by omega), if_neg (by omega), if_neg (by omega)]
    have hb : betB k 1 6 = false := betB_false.2 (by omega)
    have KB := Lib.hid (fun W => calls_val (between_any k 1 6 W) (congrArg Value.bool hb))
    have KI : ∀ W, Calls Tryd.prog 100 #[.int .i64 k] W fun e w' => e = .returned (.bool false) ∧ W = w' := fun W => by
      go_enter Tryd.func100, Tryd.ntmps100
      go_wp2_with (go_at_call 112; refine (KB.out _).mono ?_; rintro e w' ⟨rfl, rfl⟩)
      go_ret
      exact ⟨rfl, rfl⟩
    have KI := Lib.hid KI
    rw [hs]
    clear hb h hs KB
    go_enter Tryd.func102, Tryd.ntmps102
    go_wp2_with (go_at_call 100; refine (KI.out _).mono ?_; rintro e w' ⟨rfl, rfl⟩)
    go_ret
    exact ⟨rfl, Below.refl _ _⟩
theorem specStrokeName_all (k : Int) (w : World) : Calls Tryd.prog 235 #[.int .i64 k] w fun e w' => e = .returned (.string (sname k)) ∧ Below w.heap.size w w' := by
  by_cases h : 1 ≤ k ∧ k ≤ 6
  · exact specStrokeName_any k w h
  · have hs : sname k = ⟨#[]⟩ := by
      unfold sname
      rw [if_neg (by omega), if_neg (by omega), if_neg (by omega), if_neg (by omega), if_neg (by omega), if_neg (by omega)]
    have hb : betB k 1 6 = false := betB_false.2 (by omega)
    have KB := Lib.hid (fun W => calls_val (l00In_any k 1 6 W) (congrArg Value.bool hb))
    have KI : ∀ W, Calls Tryd.prog 104 #[.int .i64 k] W fun e w' => e = .returned (.bool false) ∧ W = w' := fun W => by
      go_enter Tryd.func104, Tryd.ntmps104
      go_wp2_with (go_at_call 165; refine (KB.out _).mono ?_; rintro e w' ⟨rfl, rfl⟩)
      go_ret
      exact ⟨rfl, rfl⟩
    have KI := Lib.hid KI
    rw [hs]
    clear hb h hs KB
    go_enter Tryd.func235, Tryd.ntmps235
    go_wp2_with (go_at_call 104; refine (KI.out _).mono ?_; rintro e w' ⟨rfl, rfl⟩)
    go_ret
    exact ⟨rfl, by first | exact Below.refl _ _ | exact (Below.refl _ _).alloc (Nat.le_refl _) _⟩
/-- a recorded session -/
def startT (t : Tri) : ByteArray := startW ++ mtext t
def recL (t : Tri) (s : RS) : List ByteArray := startT t :: (s.tr.map sname ++ [showT s.m, endW])
def hasSet (L : List Ins) : Bool := L.any (fun x => x.op == 1)
noncomputable def rcC (L : List Ins) (t : Tri) : Int :=
  if (vmach t && vprog L) = false then 1 else if hasSet L then 6 else if (endR L t).code ≠ 0 then (endR L t).code else if (recL t (endR L t)).length > 100 then 5 else 0
noncomputable def rcR (L : List Ins) (t : Tri) : List ByteArray := if rcC L t = 0 then recL t (endR L t) else []
theorem rcR_len (L : List Ins) (t : Tri) : (rcR L t).length ≤ 100 := by
  unfold rcR
  split
  · rename_i h
    unfold rcC at h
    split at h
    · cases h
    · split at h
      · cases h
      · split at h
        · rename_i h1; exact absurd h h1
        · split at h
          · cases h
          · omega
  · simp
theorem rc_bad {L : List Ins} {t : Tri} (h : (vmach t && vprog L) = false) : rcC L t = 1 ∧ rcR L t = [] := by
  have h1 : rcC L t = 1 := by unfold rcC; rw [if_pos h]
  exact ⟨h1, by unfold rcR; rw [h1, if_neg (by decide)]⟩
theorem rc_set {L : List Ins} {t : Tri} (h : (vmach t && vprog L) = true) (hs : hasSet L = true) : rcC L t = 6 ∧ rcR L t = [] := by
  have h1 : rcC L t = 6 := by unfold rcC; rw [if_neg (by rw [h]; decide), if_pos hs]
  exact ⟨h1, by unfold rcR; rw [h1, if_neg (by decide)]⟩
theorem rc_code {L : List Ins} {t : Tri} (h : (vmach t && vprog L) = true) (hs : hasSet L = false) {s' : RS} {b' : Bool} (he : Ev L (.run 0 L.length) (startR t) s' b') (hc : s'.code ≠ 0) : rcC L t = s'.code ∧ rcR L t = [] := by
  have h1 : rcC L t = s'.code := by unfold rcC; rw [if_neg (by rw [h]; decide), hs, if_neg (by decide), endR_eq he, if_pos hc]
  exact ⟨h1, by unfold rcR; rw [h1, if_neg hc]⟩
theorem rc_fine {L : List Ins} {t : Tri} (h : (vmach t && vprog L) = true) (hs : hasSet L = false) {s' : RS} {b' : Bool} (he : Ev L (.run 0 L.length) (startR t) s' b') (hc : s'.code = 0) : rcC L t = (if (recL t s').length > 100 then 5 else 0) ∧ rcR L t = (if (recL t s').length > 100 then [] else recL t s') := by
  have h1 : rcC L t = (if (recL t s').length > 100 then 5 else 0) := by
    unfold rcC; rw [if_neg (by rw [h]; decide), hs, if_neg (by decide), endR_eq he, if_neg (fun h => h hc)]
  refine ⟨h1, ?_⟩
  unfold rcR
  rw [h1, endR_eq he]
  by_cases hl : (recL t s').length > 100
  · rw [if_pos hl, if_neg (by decide), if_pos hl]
  · rw [if_neg hl, if_pos rfl, if_neg hl]
theorem hasSet_take_succ {L : List Ins} {k : Nat} (h : k < L.length) : hasSet (L.take (k + 1)) = (hasSet (L.take k) || (L[k].op == 1)) := by
  unfold hasSet
  rw [List.take_succ_eq_append_getElem h, List.any_append]; simp
theorem hasSet_at {L : List Ins} {k : Nat} (h : k < L.length) (h1 : (L[k].op == 1) = true) : hasSet L = true := by
  unfold hasSet
  rw [List.any_eq_true]
  exact ⟨_, List.getElem_mem h, h1⟩
theorem mtext_size {t : Tri} (hv : vmach t = true) : (mtext t).size ≤ 300 := by
  obtain ⟨o1, o2, o3, y0, y1⟩ := vmach_parts hv
  have l1 := rtext_len t.a
  have l2 := rtext_len t.b
  have l3 := rtext_len t.s
  have l4 := dec_len t.carry (by omega) (by omega)
  unfold mtext
  rw [if_pos hv]
  unfold mtextL
  have e1 : (⟨#[32]⟩ : ByteArray).size = 1 := rfl
  simp only [ByteArray.size_append, size_mk, e1]
  omega
theorem small_of' {t : Tri} (h : vmach t = true) : SmallTri t := by
  have hz := sized_of h
  exact ⟨by have := hz.a; unfold SmallReg; omega, by have := hz.b; unfold SmallReg; omega, by have := hz.s; unfold SmallReg; omega⟩
end Go.Proofs.YtafnebpbfmbgiaaDoor

namespace Go.Proofs.YtafnebpbfmbgiaaDoor
open Go.RowKit Go.Sort
theorem sameR_refl (r : Reg) : sameR r r = true := by simp [sameR]
theorem sameM_refl (t : Tri) : sameM t t = true := by simp [sameM, sameR_refl]
set_option maxHeartbeats 800000 in
theorem a2Long2_any (A B : Option Addr) (n c m d : Nat) (w : World) (hn : n ≤ 9223372036854775807) (hm : m ≤ 9223372036854775807) :
    Calls Tryd.prog 11 #[.slice A n c, .slice B m d] w fun e w' => e = .returned (.bool (decide (3000 < n) || decide (3000 < m))) ∧ w = w' := by
  by_cases h : 3000 < n
  · have h1 : (3000 : Int) < (n : Int) := by omega
    have HF : Hid ((decide (3000 < n) || decide (3000 < m)) = true) := by simp [Hid, h]
    obtain ⟨R, hR⟩ : ∃ R, (decide (3000 < n) || decide (3000 < m)) = R := ⟨_, rfl⟩
    rw [hR] at HF ⊢
    clear hR
    go_enter Tryd.func11, Tryd.ntmps11
    go_wp2
    go_ret
    exact ⟨by first | exact ret_bool HF.out.symm | rfl, rfl⟩
  · by_cases h2 : 3000 < m
    · have h1 : ¬ (3000 : Int) < (n : Int) := by omega
      have h3 : (3000 : Int) < (m : Int) := by omega
      have HF : Hid ((decide (3000 < n) || decide (3000 < m)) = true) := by simp [Hid, h2]
      obtain ⟨R, hR⟩ : ∃ R, (decide (3000 < n) || decide (3000 < m)) = R := ⟨_, rfl⟩
      rw [hR] at HF ⊢
      clear hR
      have hd : decide ((3000 : Int) < (n : Int)) = false := decide_eq_false h1
      go_enter Tryd.func11, Tryd.ntmps11
      go_wp2
      go_ret
      exact ⟨by first | exact ret_bool HF.out.symm | rfl, rfl⟩
    · have h1 : ¬ (3000 : Int) < (n : Int) := by omega
      have h3 : ¬ (3000 : Int) < (m : Int) := by omega
      have HF : Hid ((decide (3000 < n) || decide (3000 < m)) = false) := by simp [Hid, h, h2]
      obtain ⟨R, hR⟩ : ∃ R, (decide (3000 < n) || decide (3000 < m)) = R := ⟨_, rfl⟩
      rw [hR] at HF ⊢
      clear hR
      have hd : decide ((3000 : Int) < (n : Int)) = false := decide_eq_false h1
      have hd2 : decide ((3000 : Int) < (m : Int)) = false := decide_eq_false h3
      go_enter Tryd.func11, Tryd.ntmps11
      go_wp2
      go_ret
      exact ⟨by first | exact ret_bool HF.out.symm | rfl, rfl⟩
set_option maxHeartbeats 800000 in
theorem a2At0_any (A : Option Addr) (n c : Nat) (bs : List UInt8) (q : Int) (w : World) (hb : RB w A n bs) (hn : n ≤ 9223372036854775807) (hq : 1 ≤ q ∧ q ≤ 1000) :
    Calls Tryd.prog 18 #[.slice A n c, .int .i64 0, .int .i64 q] w fun e w' => (∃ x : Int, e = .returned (.int .i64 x) ∧ 0 ≤ x ∧ x < q) ∧ w = w' := by
  rcases Nat.eq_zero_or_pos n with h0 | h0
  · subst h0
    clear hb
    go_enter Tryd.func18, Tryd.ntmps18
    go_wp2_with fail
    go_ret
    exact ⟨⟨0, rfl, by omega, by omega⟩, rfl⟩
  · obtain ⟨ad, rfl, hl, hc⟩ := hb.2 h0
    have hl0 : 0 < bs.length := by rw [hb.1]; exact h0
    obtain ⟨z, hz⟩ : ∃ z : Nat, bs[0].toNat = z := ⟨_, rfl⟩
    have hc0 := hc 0 bs[0] (by simp [hl0])
    have hz2 : z < 256 := by rw [← hz]; exact bs[0].toNat_lt
    unfold byteV at hc0
    rw [hz] at hc0
    have hc1 : w.cell? ad = some (.int .u8 (z : Int)) := by
      have e0 : ad.add 0 = ad := by unfold Addr.add; split <;> simp_all
      rw [e0] at hc0; exact hc0
    clear hc0
    have i1 : ¬ (n : Int) ≤ 0 := by omega
    have i2 : (0 : Int) < (n : Int) := by omega
    have i3 : ¬ q < 1 := by omega
    have i4 : ¬ q = 0 := by omega
    have i5 : q ≠ 0 := by omega
    have hm0 := Int.emod_nonneg (z : Int) i5
    have hm1 := Int.emod_lt_of_pos (z : Int) (show 0 < q by omega)
    have hw1 : IntKind.i64.wrap (z : Int) = z := wrapI64 (by omega)
    have hw2 : IntKind.i64.wrap ((z : Int) % q) = (z : Int) % q := wrapI64 (by omega)
    have hw3 : IntKind.i64.wrap ((z : Int).tmod q) = (z : Int) % q := by rw [Int.tmod_eq_emod_of_nonneg (by omega)]; exact hw2
    clear hc hb hz hl
    go_enter Tryd.func18, Tryd.ntmps18
    go_wp2_with fail
    go_ret
    exact ⟨⟨(z : Int) % q, rfl, hm0, hm1⟩, rfl⟩
theorem StrokeBack_any (k : Int) (w : World) (hk : 1 ≤ k ∧ k ≤ 6) :
    Calls Tryd.prog 190 #[.int .i64 k] w fun e w' => e = .returned (.tuple #[.int .i64 (if k ≤ 4 then backK k else 0), .int .i64 (if k ≤ 4 then 0 else 3)]) ∧ w = w' := by
  have hk' : k = 1 ∨ k = 2 ∨ k = 3 ∨ k = 4 ∨ k = 5 ∨ k = 6 := by omega
  clear hk
  rcases hk' with rfl | rfl | rfl | rfl | rfl | rfl <;>
  · go_enter Tryd.func190, Tryd.ntmps190
    go_wp2_with fail
    go_ret2
    exact ⟨rfl, rfl⟩
theorem specValidMachine_any (t : Tri) (A1 A2 A3 : Option Addr) (c1 c2 c3 : Nat) (w : World) (r1 : RI w A1 t.a.digits.length t.a.digits) (r2 : RI w A2 t.b.digits.length t.b.digits) (r3 : RI w A3 t.s.digits.length t.s.digits) (hs : SmallTri t) :
    Calls Tryd.prog 74 #[.agg #[.int .i64 t.a.base, .slice A1 t.a.digits.length c1, .int .i64 t.b.base, .slice A2 t.b.digits.length c2, .int .i64 t.s.base, .slice A3 t.s.digits.length c3, .int .i64 t.carry]] w fun e w' => e = .returned (.bool (vmach t)) ∧ Below w.heap.size w w' := by
  have KV := Lib.hid (fun W (hW : Kn w ([.blk w.heap.size [.int .i64 t.a.base, .slice A1 t.a.digits.length c1, .int .i64 t.b.base, .slice A2 t.b.digits.length c2, .int .i64 t.s.base, .slice A3 t.s.digits.length c3, .int .i64 t.carry] 28]) W) => l10Ok_any ⟨w.heap.size, 0, none⟩ t W (TriC.tri (A1 := A1) (c1 := c1) (A2 := A2) (c2 := c2) (A3 := A3) (c3 := c3) ⟨⟨hW.blkAt.1 0, hW.blkAt.1 1, hW.blkAt.1 2, hW.blkAt.1 3, hW.blkAt.1 4, hW.blkAt.1 5, hW.blkAt.1 6⟩, r1.below hW.below, r2.below hW.below, r3.below hW.below⟩) hs)
  clear r1 r2 r3
  go_enter Tryd.func74, Tryd.ntmps74
  go_wp2_with fail
  refine Calls.kn ((Kn.nil w).al [.int .i64 t.a.base, .slice A1 t.a.digits.length c1, .int .i64 t.b.base, .slice A2 t.b.digits.length c2, .int .i64 t.s.base, .slice A3 t.s.digits.length c3, .int .i64 t.carry] 28) ?_; intro w1 hK0
  refine (KV.out _ hK0).mono ?_; rintro e w2 ⟨rfl, m, rfl⟩
  go_wp2_with fail
  go_ret
  exact ⟨rfl, (hK0.drewN m).below⟩
theorem specSameMachine_any (t u : Tri) (A1 A2 A3 B1 B2 B3 : Option Addr) (c1 c2 c3 d1 d2 d3 : Nat) (w : World) (r1 : RI w A1 t.a.digits.length t.a.digits) (r2 : RI w A2 t.b.digits.length t.b.digits) (r3 : RI w A3 t.s.digits.length t.s.digits)
    (q1 : RI w B1 u.a.digits.length u.a.digits) (q2 : RI w B2 u.b.digits.length u.b.digits) (q3 : RI w B3 u.s.digits.length u.s.digits) (hs : SmallTri t) (hu : SmallTri u) :
    Calls Tryd.prog 17 #[.agg #[.int .i64 t.a.base, .slice A1 t.a.digits.length c1, .int .i64 t.b.base, .slice A2 t.b.digits.length c2, .int .i64 t.s.base, .slice A3 t.s.digits.length c3, .int .i64 t.carry], .agg #[.int .i64 u.a.base, .slice B1 u.a.digits.length d1, .int .i64 u.b.base, .slice B2 u.b.digits.length d2, .int .i64 u.s.base, .slice B3 u.s.digits.length d3, .int .i64 u.carry]] w fun e w' => e = .returned (.bool (sameM t u)) ∧ Below w.heap.size w w' := by
  have KV := Lib.hid (fun W (hW : Kn w ([.blk (w.heap.size + 1) [.int .i64 u.a.base, .slice B1 u.a.digits.length d1, .int .i64 u.b.base, .slice B2 u.b.digits.length d2, .int .i64 u.s.base, .slice B3 u.s.digits.length d3, .int .i64 u.carry] 28, .blk w.heap.size [.int .i64 t.a.base, .slice A1 t.a.digits.length c1, .int .i64 t.b.base, .slice A2 t.b.digits.length c2, .int .i64 t.s.base, .slice A3 t.s.digits.length c3, .int .i64 t.carry] 28]) W) => l10Same_any ⟨w.heap.size, 0, none⟩ ⟨w.heap.size + 1, 0, none⟩ t u W
    (TriC.tri (A1 := A1) (c1 := c1) (A2 := A2) (c2 := c2) (A3 := A3) (c3 := c3) ⟨⟨hW.drop.blkAt.1 0, hW.drop.blkAt.1 1, hW.drop.blkAt.1 2, hW.drop.blkAt.1 3, hW.drop.blkAt.1 4, hW.drop.blkAt.1 5, hW.drop.blkAt.1 6⟩, r1.below hW.below, r2.below hW.below, r3.below hW.below⟩)
    (TriC.tri (A1 := B1) (c1 := d1) (A2 := B2) (c2 := d2) (A3 := B3) (c3 := d3) ⟨⟨hW.blkAt.1 0, hW.blkAt.1 1, hW.blkAt.1 2, hW.blkAt.1 3, hW.blkAt.1 4, hW.blkAt.1 5, hW.blkAt.1 6⟩, q1.below hW.below, q2.below hW.below, q3.below hW.below⟩) hs hu)
  clear r1 r2 r3 q1 q2 q3
  go_enter Tryd.func17, Tryd.ntmps17
  go_wp2_with fail
  refine Calls.kn (((Kn.nil w).al [.int .i64 t.a.base, .slice A1 t.a.digits.length c1, .int .i64 t.b.base, .slice A2 t.b.digits.length c2, .int .i64 t.s.base, .slice A3 t.s.digits.length c3, .int .i64 t.carry] 28).al [.int .i64 u.a.base, .slice B1 u.a.digits.length d1, .int .i64 u.b.base, .slice B2 u.b.digits.length d2, .int .i64 u.s.base, .slice B3 u.s.digits.length d3, .int .i64 u.carry] 28) ?_; intro w1 hK0
  simp only [World.size_alloc] at hK0
  refine (KV.out _ hK0).mono ?_; rintro e w2 ⟨rfl, m, rfl⟩
  go_wp2_with fail
  go_ret
  exact ⟨rfl, (hK0.drewN m).below⟩
/-- a machine, a bell and a code -/
def DSRet (r : Tri × Bool) (w : World) (e : Ending) (w' : World) : Prop := ∃ E1 f1 E2 f2 E3 f3, e = .returned (.tuple #[.agg #[.int .i64 r.1.a.base, .slice E1 r.1.a.digits.length f1, .int .i64 r.1.b.base, .slice E2 r.1.b.digits.length f2, .int .i64 r.1.s.base, .slice E3 r.1.s.digits.length f3, .int .i64 r.1.carry], .bool r.2, .int .i64 0]) ∧ Kn w [rowI E3 f3 r.1.s.digits, rowI E2 f2 r.1.b.digits, rowI E1 f1 r.1.a.digits] w'
set_option maxRecDepth 100000 in
set_option maxHeartbeats 1600000 in
theorem specDoStrokeV (t : Tri) (A1 A2 A3 : Option Addr) (c1 c2 c3 : Nat) (k : Int) (w : World) (r1 : RI w A1 t.a.digits.length t.a.digits) (r2 : RI w A2 t.b.digits.length t.b.digits) (r3 : RI w A3 t.s.digits.length t.s.digits) (hv : vmach t = true) (hk : 1 ≤ k ∧ k ≤ 6) :
    Calls Tryd.prog 20 #[.agg #[.int .i64 t.a.base, .slice A1 t.a.digits.length c1, .int .i64 t.b.base, .slice A2 t.b.digits.length c2, .int .i64 t.s.base, .slice A3 t.s.digits.length c3, .int .i64 t.carry], .int .i64 k] w (DSRet (strokeT k t) w) := by
  have hTC : ∀ W, Kn w ([.blk (w.heap.size + 1) [.int .i64 0, .slice none 0 0, .int .i64 0, .slice none 0 0, .int .i64 0, .slice none 0 0, .int .i64 0] 28, .blk w.heap.size [.int .i64 t.a.base, .slice A1 t.a.digits.length c1, .int .i64 t.b.base, .slice A2 t.b.digits.length c2, .int .i64 t.s.base, .slice A3 t.s.digits.length c3, .int .i64 t.carry] 28]) W → TriC W ⟨w.heap.size, 0, none⟩ t A1 c1 A2 c2 A3 c3 := fun W h => ⟨⟨h.drop.blkAt.1 0, h.drop.blkAt.1 1, h.drop.blkAt.1 2, h.drop.blkAt.1 3, h.drop.blkAt.1 4, h.drop.blkAt.1 5, h.drop.blkAt.1 6⟩, r1.below h.below, r2.below h.below, r3.below h.below⟩
  have KV := (fun W (hW : Kn w ([.blk (w.heap.size + 1) [.int .i64 0, .slice none 0 0, .int .i64 0, .slice none 0 0, .int .i64 0, .slice none 0 0, .int .i64 0] 28, .blk w.heap.size [.int .i64 t.a.base, .slice A1 t.a.digits.length c1, .int .i64 t.b.base, .slice A2 t.b.digits.length c2, .int .i64 t.s.base, .slice A3 t.s.digits.length c3, .int .i64 t.carry] 28]) W) => l10Ok_any ⟨w.heap.size, 0, none⟩ t W (hTC W hW).tri (small_of' hv))
  rw [hv] at KV
  have KK := Lib.hid (fun W => l10KindV k W hk)
  have KC := Lib.hid (fun W (hW : Kn w ([.blk (w.heap.size + 1) [.int .i64 0, .slice none 0 0, .int .i64 0, .slice none 0 0, .int .i64 0, .slice none 0 0, .int .i64 0] 28, .blk w.heap.size [.int .i64 t.a.base, .slice A1 t.a.digits.length c1, .int .i64 t.b.base, .slice A2 t.b.digits.length c2, .int .i64 t.s.base, .slice A3 t.s.digits.length c3, .int .i64 t.carry] 28]) W) => l10Own_any w.heap.size t A1 A2 A3 c1 c2 c3 W (hTC W hW) (sized_of hv))
  have KT := (fun (g9 : Nat) (m' : List Ent) W (h : MB w g9 [] 28 t m' W) => l10DoK t k W h hv hk)
  obtain ⟨r, hr⟩ : ∃ r, strokeT k t = r := ⟨_, rfl⟩
  rw [hr] at KT ⊢
  replace KT := Lib.hid KT
  replace KV := Lib.hid KV
  clear hr hk hv r1 r2 r3 hTC
  unfold DSRet
  go_enter Tryd.func20, Tryd.ntmps20
  go_wp2_with fail
  refine Calls.kn (((Kn.nil w).al [.int .i64 t.a.base, .slice A1 t.a.digits.length c1, .int .i64 t.b.base, .slice A2 t.b.digits.length c2, .int .i64 t.s.base, .slice A3 t.s.digits.length c3, .int .i64 t.carry] 28).al [.int .i64 0, .slice none 0 0, .int .i64 0, .slice none 0 0, .int .i64 0, .slice none 0 0, .int .i64 0] 28) ?_; intro w1 hK0
  simp only [World.size_alloc] at hK0
  refine (KV.out _ hK0).mono ?_; rintro e w2 ⟨rfl, m, rfl⟩
  have hK5 := hK0.drewN m
  clear hK0
  obtain ⟨x1, x2, x3, x4, x5, x6, -⟩ := hK5.cells
  go_wp2_with (first
    | (go_at_call 104; with_reducible refine (KK.out _).mono ?_; rintro e w4 ⟨rfl, rfl⟩)
    | (go_at_call 105; refine (KC.out _ hK5).mono ?_; rintro e w7 ⟨B1, d1, B2, d2, B3, d3, rfl, hKn⟩; have hK7 := (hK5.join hKn).al [.int .i64 t.a.base, .slice B1 t.a.digits.length d1, .int .i64 t.b.base, .slice B2 t.b.digits.length d2, .int .i64 t.s.base, .slice B3 t.s.digits.length d3, .int .i64 t.carry] 28; clear x1 x2 x3 x4 x5 x6; obtain ⟨x1, x2, x3, x4, x5, x6, -⟩ := (hK5.join hKn).cells)
    | (go_at_call 106; refine (KT.out _ _ _ ⟨B1, d1, B2, d2, B3, d3, hK7⟩).mono ?_; rintro e w9 ⟨rfl, E1, f1, E2, f2, E3, f3, hK9⟩; clear x1 x2 x3 x4 x5 x6; obtain ⟨x1, x2, x3, x4, x5, x6, -⟩ := hK9.cells))
  refine bodyPost.kn ((((((((hK9.front 4 rfl).st 0 (.int .i64 r.1.a.base)).st 1 (.slice E1 r.1.a.digits.length f1)).st 2 (.int .i64 r.1.b.base)).st 3 (.slice E2 r.1.b.digits.length f2)).st 4 (.int .i64 r.1.s.base)).st 5 (.slice E3 r.1.s.digits.length f3)).st 6 (.int .i64 r.1.carry)) ?_; intro w8 hK8
  clear x1 x2 x3 x4 x5 x6
  obtain ⟨a1, a2, a3, -⟩ := hK8.cells
  refine bodyPost_ret (v := .tuple #[.agg #[.int .i64 r.1.a.base, .slice E1 r.1.a.digits.length f1, .int .i64 r.1.b.base, .slice E2 r.1.b.digits.length f2, .int .i64 r.1.s.base, .slice E3 r.1.s.digits.length f3, .int .i64 r.1.carry], .bool r.2, .int .i64 0]) (by simp [results, Tryd.results20, go_sem, a1]) rfl ?_
  exact ⟨E1, f1, E2, f2, E3, f3, rfl, hK8.sel [2, 3, 4] 99 (by decide) (by decide)⟩
end Go.Proofs.YtafnebpbfmbgiaaDoor

namespace Go.Proofs.YtafnebpbfmbgiaaDoor
open Go.RowKit Go.ChangeShapes Go.WideShapes Go.ChangeAt
theorem laid_tail {P : Program} {W : World} {x : String × DataW Unit} {rest : List (String × DataW Unit)} (h : laidMet P (x :: rest) W) : laidMet P rest W := by
  obtain ⟨ps, ⟨g, t, cs, fuel, p, q, h1, h2, h3, h4, h5, rfl⟩, hn, hr⟩ := h
  exact ⟨q, h5, (List.nodup_append.1 hn).2.1, fun b off hb => hr b off (List.mem_append_right _ hb)⟩
theorem cellsU64 : Tryd.prog.cellsOf 221 = 1 := by kernel_rfl
theorem cellsTab : Tryd.prog.cellsOf 284 = 20 := by kernel_rfl
theorem gTab : Tryd.prog.globalNamed "internal/strconv.uint64pow10" = some 0 := by kernel_rfl
theorem gTabType : (Tryd.prog.globals[0]?).map (·.type) = some 284 := by kernel_rfl
theorem tb_of_laid {W : World} (h : laidMetH Tryd.prog [("math/bits.deBruijn32tab", Rows.laid_math_bits_deBruijn32tab), ("math/bits.deBruijn64tab", Rows.laid_math_bits_deBruijn64tab), ("internal/strconv.uint64pow10", Rows.laid_internal_strconv_uint64pow10)] W) : TB W := by
  have h1 : laidMet Tryd.prog [("math/bits.deBruijn32tab", Rows.laid_math_bits_deBruijn32tab), ("math/bits.deBruijn64tab", Rows.laid_math_bits_deBruijn64tab), ("internal/strconv.uint64pow10", Rows.laid_internal_strconv_uint64pow10)] W := h
  exact Lib.tabIs_of_head (rest := []) gTab gTabType Tryd.underlying284 Tryd.underlying221 cellsU64 cellsTab (laid_tail (laid_tail h1))
def tabCells (l : DataW Unit) (k : IntKind) : Array Value := match l with
  | .agg ds => (ds.map fun d => match d with | .lit (.int _ n) => Value.int k n | _ => .int k 0).toArray
  | _ => #[]
def setTab (cs : Array Value) (o : Obj) : Obj := match o with
  | .cells _ t frozen => .cells cs t frozen
  | o => o
noncomputable def laidWorld (os : Os) : World :=
  { World.holding Tryd.prog os ⟨#[], #[], []⟩ with heap := (((World.holding Tryd.prog os ⟨#[], #[], []⟩).heap.modify 0 (setTab (tabCells Rows.laid_internal_strconv_uint64pow10 .u64))).modify 2 (setTab (tabCells Rows.laid_math_bits_deBruijn32tab .u8))).modify 3 (setTab (tabCells Rows.laid_math_bits_deBruijn64tab .u8)) }
theorem laid_met (os : Os) (args : Array Value) : laidMet Tryd.prog [("math/bits.deBruijn32tab", Rows.laid_math_bits_deBruijn32tab), ("math/bits.deBruijn64tab", Rows.laid_math_bits_deBruijn64tab), ("internal/strconv.uint64pow10", Rows.laid_internal_strconv_uint64pow10)] ((laidWorld os).forCall (fun _ _ => 0) ⟨#[], args, []⟩).memory :=
  laidMet_of_run' 8 (by kernel_rfl) (by kernel_rfl)
theorem own : ownKnob Tryd.prog.godebug = none := by kernel_rfl
theorem laidOut : laidOutB Tryd.prog = true := by kernel_rfl
end Go.Proofs.YtafnebpbfmbgiaaDoor

namespace Go.Proofs.YtafnebpbfmbgiaaDoor
open Go.RowKit Go.ChangeShapes Go.WideShapes Go.ChangeAt
section
variable {H : Type} {enc : TypeId × Value → H} {w : World} {base : Nat} {spare : Nat → Bool} {held : Bool} {fuel : Nat} {cs : List Value} {x : DataW H × List MemPlace}
theorem cellsU8 : Tryd.prog.cellsOf 5 = 1 := by kernel_rfl
theorem byteV_of (z : Int) (h0 : 0 ≤ z) (h1 : z ≤ 255) : Value.int .u8 z = byteV (UInt8.ofNat z.toNat) := by
  unfold byteV
  congr 1
  rw [UInt8.toNat_ofNat']
  omega
theorem rd_bytes (h : DataW.trod enc Tryd.prog w base spare held fuel 22 cs = some x) : ∃ A n c bs, cs = [.slice A n c] ∧ RB w A n bs ∧ n ≤ 9223372036854775807 := by
  rcases open_ints Tryd.underlying22 Tryd.underlying5 cellsU8 h with ⟨rfl, _⟩ | ⟨a, len, cap, zs, rfl, _, hl, hm, hz, _, hcell, hwf⟩
  · exact ⟨none, 0, 0, [], rfl, ⟨rfl, fun h => absurd h (by omega)⟩, by omega⟩
  · have hlen : len ≤ zs.length := by rw [hz]; split <;> omega
    have hw : ∀ z ∈ zs, 0 ≤ z ∧ z ≤ 255 := fun z hz => by
      have h := hwf z hz
      have h1 : IntKind.u8.min = 0 := by decide
      have h2 : IntKind.u8.max = 255 := by decide
      simp [Lit.wf] at h
      omega
    refine ⟨some a, len, cap, (zs.take len).map (fun z => UInt8.ofNat z.toNat), rfl, ⟨by simp; omega, fun h0 => ⟨a, rfl, ?_, fun j u hu => ?_⟩⟩, by simp only [maxLen] at hm; omega⟩
    · have := World.block_lt_of_cell? w _ (hcell 0 (by omega)); rwa [block_of_add] at this
    · rw [List.getElem?_map, List.getElem?_take] at hu
      split at hu
      · have hj : j < zs.length := by omega
        rw [List.getElem?_eq_getElem hj] at hu
        have hu' : UInt8.ofNat zs[j].toNat = u := by simpa using hu
        obtain ⟨z0, z1⟩ := hw zs[j] (List.getElem_mem _)
        rw [hcell j hj, ← hu', ← byteV_of _ z0 z1]
        simp [List.getD, List.getElem?_eq_getElem hj]
      · simp at hu
end
end Go.Proofs.YtafnebpbfmbgiaaDoor
