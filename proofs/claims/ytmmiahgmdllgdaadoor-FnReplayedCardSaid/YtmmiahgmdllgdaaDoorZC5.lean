/- Part 5: lemmas and contracts of the claim's functions. -/
import Derived.Test.YtmmiahgmdllgdaaDoorZC1
import Derived.Test.YtmmiahgmdllgdaaDoorZC2
import Derived.Test.YtmmiahgmdllgdaaDoorZC3
import Derived.Test.YtmmiahgmdllgdaaDoorZC4
import Derived.Lib.ItoaLen
import Derived.WalkSmall
import Derived.Laws.Bits64b
namespace Go.Proofs.YtmmiahgmdllgdaaDoor
open Go.RowKit Go.Sort
/-- a machine, a value and a code -/
def M2Ret (t : Tri) (x : Value) (C : Int) (w : World) (e : Ending) (w' : World) : Prop := ∃ A1 c1 A2 c2 A3 c3, e = .returned (.tuple #[.agg #[.int .i64 t.a.base, .slice A1 t.a.digits.length c1, .int .i64 t.b.base, .slice A2 t.b.digits.length c2, .int .i64 t.s.base, .slice A3 t.s.digits.length c3, .int .i64 t.carry], x, .int .i64 C]) ∧ Kn w [rowI A3 c3 t.s.digits, rowI A2 c2 t.b.digits, rowI A1 c1 t.a.digits] w'
theorem M2Ret.zero {x : Value} {C : Int} {w w' : World} (h : Below w.heap.size w w') : M2Ret zTri x C w (.returned (.tuple #[.agg #[.int .i64 0, .slice none 0 0, .int .i64 0, .slice none 0 0, .int .i64 0, .slice none 0 0, .int .i64 0], x, .int .i64 C])) w' :=
  ⟨none, 0, none, 0, none, 0, rfl, ((((Kn.nil w).keep h).nilRow _ _).nilRow _ _).nilRow _ _⟩
/-! a journal's replay, plainly -/
def rjStep (t : Tri) (n : List UInt8) : Tri := if kindOf n = 0 then t else (strokeT (kindOf n) t).1
def rjFold (t : Tri) (l : List (List UInt8)) : Tri := l.foldl rjStep t
def rjCount (l : List (List UInt8)) : Nat := (l.filter (fun n => decide (kindOf n ≠ 0))).length
theorem rjFold_ok {t : Tri} (h : vmach t = true) (l : List (List UInt8)) : vmach (rjFold t l) = true := by
  induction l generalizing t with
  | nil => exact h
  | cons n l ih =>
    show vmach (rjFold (rjStep t n) l) = true
    refine ih ?_
    unfold rjStep
    split
    · exact h
    · exact strokeT_ok _ h
theorem rj_next {l : List (List UInt8)} {k : Nat} (h : k < l.length) (t : Tri) : rjFold t (l.take (k + 1)) = rjStep (rjFold t (l.take k)) l[k] ∧ rjCount (l.take (k + 1)) = rjCount (l.take k) + (if kindOf l[k] = 0 then 0 else 1) := by
  rw [List.take_succ_eq_append_getElem h]
  constructor
  · unfold rjFold; rw [List.foldl_append]; rfl
  · unfold rjCount
    rw [List.filter_append, List.length_append]
    congr 1
    by_cases h0 : kindOf l[k] = 0 <;> simp [h0]
theorem rjCount_le (l : List (List UInt8)) (k : Nat) : rjCount (l.take k) ≤ k := by
  unfold rjCount
  refine Nat.le_trans (List.length_filter_le _ _) ?_
  rw [List.length_take]; omega
def rjC (t : Tri) (S : List UInt8) : Int := if vmach t then jcode S else 1
def rjM (t : Tri) (S : List UInt8) : Tri := if rjC t S = 0 then rjFold t (jall S).notes else zTri
def rjN (t : Tri) (S : List UInt8) : Int := if rjC t S = 0 then (rjCount (jall S).notes : Int) else 0
theorem rj_bad {t : Tri} {S : List UInt8} (h : vmach t = false) : rjC t S = 1 ∧ rjM t S = zTri ∧ rjN t S = 0 := by
  have h1 : rjC t S = 1 := by unfold rjC; rw [h]; rfl
  exact ⟨h1, by unfold rjM; rw [h1, if_neg (by decide)], by unfold rjN; rw [h1, if_neg (by decide)]⟩
theorem rj_code {t : Tri} {S : List UInt8} (h : vmach t = true) (hc : jcode S ≠ 0) : rjC t S = jcode S ∧ rjM t S = zTri ∧ rjN t S = 0 := by
  have h1 : rjC t S = jcode S := by unfold rjC; rw [h]; rfl
  exact ⟨h1, by unfold rjM; rw [h1, if_neg hc], by unfold rjN; rw [h1, if_neg hc]⟩
theorem rj_fine {t : Tri} {S : List UInt8} (h : vmach t = true) (hc : jcode S = 0) : rjC t S = 0 ∧ rjM t S = rjFold t (jall S).notes ∧ rjN t S = (rjCount (jall S).notes : Int) := by
  have h1 : rjC t S = 0 := by unfold rjC; rw [h]; exact hc
  exact ⟨h1, by unfold rjM; rw [h1, if_pos rfl], by unfold rjN; rw [h1, if_pos rfl]⟩
theorem rjM_ok {t : Tri} {S : List UInt8} (h : rjC t S = 0) : vmach (rjM t S) = true := by
  have hv : vmach t = true := by
    cases hv : vmach t with
    | true => rfl
    | false => rw [(rj_bad hv).1] at h; cases h
  unfold rjM
  rw [if_pos h]
  exact rjFold_ok hv _
theorem rjM_len (t : Tri) (S : List UInt8) : (rjM t S).a.digits.length ≤ 16 ∧ (rjM t S).b.digits.length ≤ 16 ∧ (rjM t S).s.digits.length ≤ 16 := by
  by_cases h : rjC t S = 0
  · have := sized_of (rjM_ok h)
    exact ⟨this.a, this.b, this.s⟩
  · unfold rjM; rw [if_neg h]; simp [zTri]
def RJRet (t : Tri) (S : List UInt8) : World → Ending → World → Prop := M2Ret (rjM t S) (.int .i64 (rjN t S)) (rjC t S)
set_option maxRecDepth 100000 in
set_option maxHeartbeats 3200000 in
theorem ReplayJournal_any (t : Tri) (A1 A2 A3 : Option Addr) (c1 c2 c3 : Nat) (s : ByteArray) (w : World) (r1 : RI w A1 t.a.digits.length t.a.digits) (r2 : RI w A2 t.b.digits.length t.b.digits) (r3 : RI w A3 t.s.digits.length t.s.digits) (hs : SmallTri t) (hz : s.size ≤ 9223372036854775807) (ht : TB w) :
    Calls Tryd.prog 8 #[.agg #[.int .i64 t.a.base, .slice A1 t.a.digits.length c1, .int .i64 t.b.base, .slice A2 t.b.digits.length c2, .int .i64 t.s.base, .slice A3 t.s.digits.length c3, .int .i64 t.carry], .string s] w (RJRet t (strB s) w) := by
  have KV := (fun W (hW : Below w.heap.size w W) => ValidMachine_any t A1 A2 A3 c1 c2 c3 W (r1.below hW) (r2.below hW) (r3.below hW) hs)
  have KW := (fun W (hW : Below w.heap.size w W) => wholeJournal_any s W hz (TB.below ht hW))
  unfold RJRet
  rcases hv : vmach t with _ | _
  · rw [hv] at KV
    obtain ⟨e1, e2, e3⟩ := rj_bad (S := strB s) hv
    rw [e1, e2, e3]
    replace KV := Lib.hid KV
    clear hv KW r1 r2 r3 hs ht e1 e2 e3
    go_enter Tryd.func8, Tryd.ntmps8
    go_wp2_with fail
    refine Calls.kn (((Kn.nil w).al [.int .i64 t.a.base, .slice A1 t.a.digits.length c1, .int .i64 t.b.base, .slice A2 t.b.digits.length c2, .int .i64 t.s.base, .slice A3 t.s.digits.length c3, .int .i64 t.carry] 28).al [.int .i64 0, .slice none 0 0, .int .i64 0, .slice none 0 0, .int .i64 0, .slice none 0 0, .int .i64 0] 28) ?_; intro w1 hK0
    simp only [World.size_alloc] at hK0
    refine (KV.out _ hK0.below).mono ?_; rintro e w2 ⟨rfl, hw⟩
    have hK1 := hK0.keep hw
    obtain ⟨x1, x2, x3⟩ := (hK1.front 0 rfl).blkAt
    go_wp2_with fail
    refine bodyPost.kn (((((((((hK1.front 0 rfl).st 0 (.int .i64 0)).st 1 (.slice none 0 0)).st 2 (.int .i64 0)).st 3 (.slice none 0 0)).st 4 (.int .i64 0)).st 5 (.slice none 0 0)).st 6 (.int .i64 0)).sel [0] 99 (by decide) (by decide)) ?_; intro w6 hK6
    clear x1 x2 x3
    obtain ⟨a1, a2, a3, -⟩ := hK6.cells
    refine bodyPost_ret (v := .tuple #[.agg #[.int .i64 0, .slice none 0 0, .int .i64 0, .slice none 0 0, .int .i64 0, .slice none 0 0, .int .i64 0], .int .i64 0, .int .i64 1]) (by simp [results, Tryd.results8, go_sem, a1]) rfl ?_
    exact M2Ret.zero hK6.below
  rw [hv] at KV
  unfold WJ at KW
  have H1 := rj_code (S := strB s) hv
  have H2 := rj_fine (S := strB s) hv
  have H3 := jcode_zero (bs := strB s)
  obtain ⟨C, hC⟩ : ∃ C, jcode (strB s) = C := ⟨_, rfl⟩
  obtain ⟨RC, hRC⟩ : ∃ C, rjC t (strB s) = C := ⟨_, rfl⟩
  obtain ⟨RM, hRM⟩ : ∃ C, rjM t (strB s) = C := ⟨_, rfl⟩
  obtain ⟨RN, hRN⟩ : ∃ C, rjN t (strB s) = C := ⟨_, rfl⟩
  obtain ⟨J, hJ⟩ : ∃ C, jall (strB s) = C := ⟨_, rfl⟩
  rw [hC, hJ] at KW
  rw [hC, hRC, hRM, hRN] at H1 H2
  rw [hJ] at H2
  rw [hC, hJ] at H3
  rw [hRC, hRM, hRN]
  clear hC hRC hRM hRN hJ
  replace KW := Lib.hid KW
  rcases hc0 : (C == 0) with _ | _
  · have HCN := Lib.hid (show C ≠ 0 by simpa using hc0)
    have HQ := Lib.hid (H1 HCN.out)
    have hc1 : (C != 0) = true := by simpa using hc0
    replace KV := Lib.hid KV
    clear H1 H2 H3 hv r1 r2 r3 hs ht hc0
    go_enter Tryd.func8, Tryd.ntmps8
    go_wp2_with fail
    refine Calls.kn (((Kn.nil w).al [.int .i64 t.a.base, .slice A1 t.a.digits.length c1, .int .i64 t.b.base, .slice A2 t.b.digits.length c2, .int .i64 t.s.base, .slice A3 t.s.digits.length c3, .int .i64 t.carry] 28).al [.int .i64 0, .slice none 0 0, .int .i64 0, .slice none 0 0, .int .i64 0, .slice none 0 0, .int .i64 0] 28) ?_; intro w1 hK0
    simp only [World.size_alloc] at hK0
    refine (KV.out _ hK0.below).mono ?_; rintro e w2 ⟨rfl, hw⟩
    have hK1 := hK0.keep hw
    go_wp2_with fail
    refine (KW.out _ hK1.below).mono ?_; rintro e w3 ⟨v, rfl, (⟨-, rfl, hw⟩ | ⟨h0, -⟩)⟩
    rotate_left
    · exact absurd h0 HCN.out
    have hK2 := hK1.keep (hw.mono (Nat.le_refl _))
    obtain ⟨x1, x2, x3⟩ := (hK2.front 0 rfl).blkAt
    go_wp2_with fail
    refine bodyPost.kn (((((((((hK2.front 0 rfl).st 0 (.int .i64 0)).st 1 (.slice none 0 0)).st 2 (.int .i64 0)).st 3 (.slice none 0 0)).st 4 (.int .i64 0)).st 5 (.slice none 0 0)).st 6 (.int .i64 0)).sel [0] 99 (by decide) (by decide)) ?_; intro w6 hK6
    clear x1 x2 x3
    obtain ⟨a1, a2, a3, -⟩ := hK6.cells
    refine bodyPost_ret (v := .tuple #[.agg #[.int .i64 0, .slice none 0 0, .int .i64 0, .slice none 0 0, .int .i64 0, .slice none 0 0, .int .i64 0], .int .i64 0, .int .i64 C]) (by simp [results, Tryd.results8, go_sem, a1]) rfl ?_
    rw [HQ.out.1, HQ.out.2.1, HQ.out.2.2]
    exact M2Ret.zero hK6.below
  obtain rfl : C = 0 := by simpa using hc0
  obtain ⟨-, -, z2⟩ := H3 rfl
  have HQ := Lib.hid (H2 rfl)
  have KC := Lib.hid (fun W (hW : Below w.heap.size w W) => copiedM_any t A1 A2 A3 c1 c2 c3 W (r1.below hW) (r2.below hW) (r3.below hW) (sized_of hv))
  have HV := Lib.hid hv
  replace KV := Lib.hid KV
  clear H1 H2 H3 hc0 hv r1 r2 r3 hs ht
  go_enter Tryd.func8, Tryd.ntmps8
  go_wp2_with fail
  refine Calls.kn (((Kn.nil w).al [.int .i64 t.a.base, .slice A1 t.a.digits.length c1, .int .i64 t.b.base, .slice A2 t.b.digits.length c2, .int .i64 t.s.base, .slice A3 t.s.digits.length c3, .int .i64 t.carry] 28).al [.int .i64 0, .slice none 0 0, .int .i64 0, .slice none 0 0, .int .i64 0, .slice none 0 0, .int .i64 0] 28) ?_; intro w1 hK0
  simp only [World.size_alloc] at hK0
  refine (KV.out _ hK0.below).mono ?_; rintro e w2 ⟨rfl, hw⟩
  have hK1 := hK0.keep hw
  go_wp2_with fail
  refine (KW.out _ hK1.below).mono ?_; rintro e w3 ⟨v, rfl, (⟨h0, -⟩ | ⟨-, g, rfl, hJ⟩)⟩
  · exact absurd rfl h0
  obtain ⟨A, c, ss, hss, hKj⟩ := hJ
  have hK2 : Kn w [.blk g [.slice A ss.length c, .int .i64 J.sum, .int .i64 J.size] 54, rowS (.slice A ss.length c) ss, .blk (w.heap.size + 1) [.int .i64 0, .slice none 0 0, .int .i64 0, .slice none 0 0, .int .i64 0, .slice none 0 0, .int .i64 0] 28, .blk w.heap.size [.int .i64 t.a.base, .slice A1 t.a.digits.length c1, .int .i64 t.b.base, .slice A2 t.b.digits.length c2, .int .i64 t.s.base, .slice A3 t.s.digits.length c3, .int .i64 t.carry] 28] w3 := hK1.join hKj
  have hnl : ss.length = J.notes.length := by rw [← hss, List.length_map]
  have hn4 : ss.length ≤ 4000 := by omega
  have HSS := Lib.hid hss
  clear hK0 hK1 hw hKj hss hnl
  obtain ⟨x1, x2, x3, x4, x5, x6, x7, x8, x9, -⟩ := hK2.cells
  go_wp2_with fail
  refine (KC.out _ hK2.below).mono ?_; rintro e w4 ⟨B1, d1, B2, d2, B3, d3, rfl, hKn⟩
  have hK3 := hK2.join hKn
  clear hK2 hKn x1 x2 x3 x4 x5 x6 x7 x8 x9
  obtain ⟨x1, x2, x3, x4, x5, x6, x7, x8, x9, -⟩ := hK3.cells
  have hK4 := hK3.al [.int .i64 t.a.base, .slice B1 t.a.digits.length d1, .int .i64 t.b.base, .slice B2 t.b.digits.length d2, .int .i64 t.s.base, .slice B3 t.s.digits.length d3, .int .i64 t.carry] 28
  go_wp2_with fail
  obtain ⟨g9, hg9⟩ : ∃ g9, w4.heap.size = g9 := ⟨_, rfl⟩
  rw [hg9] at hK4
  simp only [hg9]
  clear hK3 hg9 x1 x2 x3 x4 x5 x6 x7 x8 x9
  go_loopw [35, 10, 12, 13, 14] (fun ii nn _ _ _ wr => ∃ k : Nat, k ≤ ss.length ∧ ii = .int .i64 k ∧ nn = .int .i64 ((rjCount ((ss.map strB).take k) : Nat) : Int) ∧ MB w g9 [] 28 (rjFold t ((ss.map strB).take k)) [.blk g [.slice A ss.length c, .int .i64 J.sum, .int .i64 J.size] 54, rowS (.slice A ss.length c) ss, .blk (w.heap.size + 1) [.int .i64 0, .slice none 0 0, .int .i64 0, .slice none 0 0, .int .i64 0, .slice none 0 0, .int .i64 0] 28, .blk w.heap.size [.int .i64 t.a.base, .slice A1 t.a.digits.length c1, .int .i64 t.b.base, .slice A2 t.b.digits.length c2, .int .i64 t.s.base, .slice A3 t.s.digits.length c3, .int .i64 t.carry] 28] wr) (fun ii _ _ _ _ _ => ss.length - (intOf ii).toNat)
  case atStart => exact ⟨0, Nat.zero_le _, rfl, rfl, B1, d1, B2, d2, B3, d3, hK4⟩
  case round =>
    clear hK4
    obtain ⟨k, hk, rfl, rfl, B1, d1, B2, d2, B3, d3, hK⟩ := hrel
    have HVU := Lib.hid (rjFold_ok HV.out ((ss.map strB).take k))
    have hcb := rjCount_le (ss.map strB) k
    by_cases hkn : k < ss.length
    · obtain ⟨-, g', rfl, hc0, -, -⟩ := (hK.front 5 rfl).rowS_at (k := k) hkn
      have hnx := rj_next (l := ss.map strB) (k := k) (by rw [List.length_map]; exact hkn) t
      rw [List.getElem_map] at hnx
      obtain ⟨z, hzz⟩ : ∃ z, ss[k] = z := ⟨_, rfl⟩
      rw [hzz] at hc0 hnx
      obtain ⟨u, hu⟩ : ∃ u, rjFold t ((ss.map strB).take k) = u := ⟨_, rfl⟩
      obtain ⟨n, hn⟩ : ∃ u, rjCount ((ss.map strB).take k) = u := ⟨_, rfl⟩
      rw [hu, hn] at hnx
      rw [hu] at hK HVU
      rw [hn] at hcb ⊢
      have KN := (fun W => strokeNamed_any z W)
      have hkb := kindOf_bd (strB z)
      unfold rjStep at hnx
      obtain ⟨kd, hkd⟩ : ∃ kd, kindOf (strB z) = kd := ⟨_, rfl⟩
      rw [hkd] at KN hkb hnx
      have i1 : (k : Int) < (ss.length : Int) := by omega
      have i2 : (0 : Int) ≤ (k : Int) := by omega
      clear hzz hu hn hkd
      obtain ⟨x1, x2, x3, x4, x5, x6, x7, x8, x9, x10, x11, x12, -⟩ := hK.cells
      rcases hb : decide (kd ≠ 0) with _ | _
      · have h0 : kd = 0 := by simpa using hb
        rw [hb] at KN
        rw [if_pos h0, if_pos h0] at hnx
        have HNX := Lib.hid hnx
        replace KN := Lib.hid KN
        clear hnx hb h0 x4 x5 x6 x7 x8 x9 x10 x11 x12
        go_wp2_with (go_at_call 22; with_reducible refine (KN.out _).mono ?_; rintro e w5 ⟨rfl, hw⟩)
        go_roundw
        case rel => exact ⟨k + 1, by omega, by go_num, by rw [HNX.out.2]; rfl, B1, d1, B2, d2, B3, d3, by rw [HNX.out.1]; exact hK.keep hw⟩
        case measure => simp [intOf]; omega
      · have h0 : ¬ kd = 0 := by simpa using hb
        rw [hb] at KN
        rw [if_neg h0, if_neg h0] at hnx
        have hk16 : 1 ≤ kd ∧ kd ≤ 6 := by omega
        have KT := Lib.hid (fun (m' : List Ent) W {cs T} (h : Kn w (.blk g9 cs T :: rowI B3 d3 u.s.digits :: rowI B2 d2 u.b.digits :: rowI B1 d1 u.a.digits :: m') W) => stroke_any u B1 B2 B3 d1 d2 d3 kd W h.drop.drop.drop.riv h.drop.drop.riv h.drop.riv HVU.out hk16)
        obtain ⟨r, hr⟩ : ∃ r, strokeT kd u = r := ⟨_, rfl⟩
        rw [hr] at KT hnx
        have HNX := Lib.hid hnx
        replace KN := Lib.hid KN
        have hnw : IntKind.i64.wrap ((n : Int) + 1) = ((n + 1 : Nat) : Int) := by rw [wrapI (by omega)]; omega
        clear hnx hb h0 hr hk16 x4 x5 x6 x7 x8 x9 x10 x11 x12
        go_wp2_with (first
          | (go_at_call 22; with_reducible refine (KN.out _).mono ?_; rintro e w5 ⟨rfl, hw⟩; have hK5 := hK.keep hw; clear x1 x2 x3; obtain ⟨x1, x2, x3⟩ := hK5.blkAt)
          | (go_at_call 23; refine (KT.out _ _ hK5).mono ?_; rintro e w6 ⟨E1, f1, E2, f2, E3, f3, rfl, hKn⟩; have hK6 := hK5.join hKn; clear x1 x2 x3; obtain ⟨x1, x2, x3⟩ := (hK6.front 3 rfl).blkAt))
        go_roundw
        case rel =>
          refine ⟨k + 1, by omega, by go_num, by rw [HNX.out.2]; exact congrArg (Value.int .i64) (by omega), E1, f1, E2, f2, E3, f3, ?_⟩
          rw [HNX.out.1]
          exact ((((((((hK6.front 3 rfl).st 0 (.int .i64 r.1.a.base)).st 1 (.slice E1 r.1.a.digits.length f1)).st 2 (.int .i64 r.1.b.base)).st 3 (.slice E2 r.1.b.digits.length f2)).st 4 (.int .i64 r.1.s.base)).st 5 (.slice E3 r.1.s.digits.length f3)).st 6 (.int .i64 r.1.carry)).sel [0, 1, 2, 3] 7 (by decide) (by decide)
        case measure => simp [intOf]; omega
    · obtain rfl : k = ss.length := by omega
      have HT := Lib.hid (show (ss.map strB).take ss.length = J.notes by rw [List.take_of_length_le (by rw [List.length_map]; exact Nat.le_refl _)]; exact HSS.out)
      rw [HT.out] at hK hcb ⊢
      obtain ⟨u, hu⟩ : ∃ u, rjFold t J.notes = u := ⟨_, rfl⟩
      obtain ⟨n, hn⟩ : ∃ u, rjCount J.notes = u := ⟨_, rfl⟩
      have HQ2 : Hid (RC = 0 ∧ RM = u ∧ RN = (n : Int)) := by simp only [Hid]; rw [← hu, ← hn]; exact HQ.out
      rw [hu] at hK
      rw [hn]
      clear hu hn hcb
      have i1 : ¬ (ss.length : Int) < (ss.length : Int) := by omega
      obtain ⟨x1, x2, x3, x4, x5, x6, x7, x8, x9, x10, x11, x12, -⟩ := hK.cells
      clear x4 x5 x6 x10 x11 x12
      go_wp2_with fail
      refine bodyPost.kn ((((((((hK.front 6 rfl).st 0 (.int .i64 u.a.base)).st 1 (.slice B1 u.a.digits.length d1)).st 2 (.int .i64 u.b.base)).st 3 (.slice B2 u.b.digits.length d2)).st 4 (.int .i64 u.s.base)).st 5 (.slice B3 u.s.digits.length d3)).st 6 (.int .i64 u.carry)) ?_; intro w6 hK6
      clear x1 x2 x3 x7 x8 x9
      obtain ⟨a1, a2, a3, -⟩ := hK6.cells
      refine bodyPost_ret (v := .tuple #[.agg #[.int .i64 u.a.base, .slice B1 u.a.digits.length d1, .int .i64 u.b.base, .slice B2 u.b.digits.length d2, .int .i64 u.s.base, .slice B3 u.s.digits.length d3, .int .i64 u.carry], .int .i64 n, .int .i64 0]) (by simp [results, Tryd.results8, go_sem, a1]) rfl ?_
      rw [HQ2.out.1, HQ2.out.2.1, HQ2.out.2.2]
      exact ⟨B1, d1, B2, d2, B3, d3, rfl, hK6.sel [2, 3, 4] 99 (by decide) (by decide)⟩
end Go.Proofs.YtmmiahgmdllgdaaDoor

namespace Go.Proofs.YtmmiahgmdllgdaaDoor
open Go.RowKit Go.Sort
end Go.Proofs.YtmmiahgmdllgdaaDoor

namespace Go.Proofs.YtmmiahgmdllgdaaDoor
open Go.RowKit Go.Sort
/-! the recording of a stroke, plainly -/
def rkC (t : Tri) (s : ByteArray) (k : Int) : Int := if vmach t = false then 1 else if jcode (strB s) ≠ 0 then jcode (strB s) else if betB k 1 6 = false then 2 else anC (strB s) (strB (sname k))
def rkM (t : Tri) (s : ByteArray) (k : Int) : Tri := if rkC t s k = 0 then (strokeT k t).1 else zTri
def rkT (t : Tri) (s : ByteArray) (k : Int) : ByteArray := if rkC t s k = 0 then anT s (sname k) else ⟨#[]⟩
theorem rk_not {t : Tri} {s : ByteArray} {k c : Int} (h : rkC t s k = c) (hc : c ≠ 0) : rkC t s k = c ∧ rkM t s k = zTri ∧ rkT t s k = ⟨#[]⟩ :=
  ⟨h, by unfold rkM; rw [h, if_neg hc], by unfold rkT; rw [h, if_neg hc]⟩
theorem rk_bad {t : Tri} {s : ByteArray} {k : Int} (h : vmach t = false) : rkC t s k = 1 ∧ rkM t s k = zTri ∧ rkT t s k = ⟨#[]⟩ := rk_not (by unfold rkC; rw [if_pos h]) (by decide)
theorem rk_code {t : Tri} {s : ByteArray} {k : Int} (h : vmach t = true) (h2 : jcode (strB s) ≠ 0) : rkC t s k = jcode (strB s) ∧ rkM t s k = zTri ∧ rkT t s k = ⟨#[]⟩ := rk_not (by unfold rkC; rw [if_neg (by rw [h]; decide), if_pos h2]) h2
theorem rk_kind {t : Tri} {s : ByteArray} {k : Int} (h : vmach t = true) (h2 : jcode (strB s) = 0) (h3 : betB k 1 6 = false) : rkC t s k = 2 ∧ rkM t s k = zTri ∧ rkT t s k = ⟨#[]⟩ := rk_not (by unfold rkC; rw [if_neg (by rw [h]; decide), if_neg (fun h' => h' h2), if_pos h3]) (by decide)
theorem rk_note {t : Tri} {s : ByteArray} {k : Int} (h : vmach t = true) (h2 : jcode (strB s) = 0) (h3 : betB k 1 6 = true) (h4 : anC (strB s) (strB (sname k)) ≠ 0) : rkC t s k = anC (strB s) (strB (sname k)) ∧ rkM t s k = zTri ∧ rkT t s k = ⟨#[]⟩ := rk_not (by unfold rkC; rw [if_neg (by rw [h]; decide), if_neg (fun h' => h' h2), if_neg (by rw [h3]; decide)]) h4
theorem rk_fine {t : Tri} {s : ByteArray} {k : Int} (h : vmach t = true) (h2 : jcode (strB s) = 0) (h3 : betB k 1 6 = true) (h4 : anC (strB s) (strB (sname k)) = 0) : rkC t s k = 0 ∧ rkM t s k = (strokeT k t).1 ∧ rkT t s k = anT s (sname k) := by
  have h1 : rkC t s k = 0 := by unfold rkC; rw [if_neg (by rw [h]; decide), if_neg (fun h' => h' h2), if_neg (by rw [h3]; decide)]; exact h4
  exact ⟨h1, by unfold rkM; rw [h1, if_pos rfl], by unfold rkT; rw [h1, if_pos rfl]⟩
theorem rkM_ok {t : Tri} {s : ByteArray} {k : Int} (h : rkC t s k = 0) : vmach (rkM t s k) = true := by
  have hv : vmach t = true := by
    cases hv : vmach t with
    | true => rfl
    | false => rw [(rk_bad hv).1] at h; cases h
  unfold rkM
  rw [if_pos h]
  exact strokeT_ok _ hv
theorem rkM_len (t : Tri) (s : ByteArray) (k : Int) : (rkM t s k).a.digits.length ≤ 16 ∧ (rkM t s k).b.digits.length ≤ 16 ∧ (rkM t s k).s.digits.length ≤ 16 := by
  by_cases h : rkC t s k = 0
  · have := sized_of (rkM_ok h)
    exact ⟨this.a, this.b, this.s⟩
  · unfold rkM; rw [if_neg h]; simp [zTri]
def RKRet (t : Tri) (s : ByteArray) (k : Int) : World → Ending → World → Prop := M2Ret (rkM t s k) (.string (rkT t s k)) (rkC t s k)
theorem isStroke_any (k : Int) (w : World) : Calls Tryd.prog 27 #[.int .i64 k] w fun e w' => e = .returned (.bool (betB k 1 6)) ∧ w = w' := by
  have KB := Lib.hid (fun W => between_any k 1 6 W)
  go_enter Tryd.func27, Tryd.ntmps27
  go_wp2_with (go_at_call 45; refine (KB.out _).mono ?_; rintro e w' ⟨rfl, rfl⟩)
  go_ret
  exact ⟨rfl, rfl⟩
theorem l10Kind_any (k : Int) (w : World) : Calls Tryd.prog 31 #[.int .i64 k] w fun e w' => e = .returned (.bool (betB k 1 6)) ∧ w = w' := by
  have KB := Lib.hid (fun W => l00In_any k 1 6 W)
  go_enter Tryd.func31, Tryd.ntmps31
  go_wp2_with (go_at_call 59; refine (KB.out _).mono ?_; rintro e w' ⟨rfl, rfl⟩)
  go_ret
  exact ⟨rfl, rfl⟩
set_option maxRecDepth 100000 in
set_option maxHeartbeats 3200000 in
theorem RecordStroke_any (t : Tri) (A1 A2 A3 : Option Addr) (c1 c2 c3 : Nat) (s : ByteArray) (k : Int) (w : World) (r1 : RI w A1 t.a.digits.length t.a.digits) (r2 : RI w A2 t.b.digits.length t.b.digits) (r3 : RI w A3 t.s.digits.length t.s.digits) (hs : SmallTri t) (hz : s.size ≤ 9223372036854775807) (ht : TB w) :
    Calls Tryd.prog 12 #[.agg #[.int .i64 t.a.base, .slice A1 t.a.digits.length c1, .int .i64 t.b.base, .slice A2 t.b.digits.length c2, .int .i64 t.s.base, .slice A3 t.s.digits.length c3, .int .i64 t.carry], .string s, .int .i64 k] w (RKRet t s k w) := by
  have KV := (fun W (hW : Below w.heap.size w W) => ValidMachine_any t A1 A2 A3 c1 c2 c3 W (r1.below hW) (r2.below hW) (r3.below hW) hs)
  have KW := (fun W (hW : Below w.heap.size w W) => wholeJournal_any s W hz (TB.below ht hW))
  have KK := (fun W => isStroke_any k W)
  have KA := (fun W (hW : Below w.heap.size w W) => AppendNote_any s (sname k) W hz (by have := sname_len k; omega) (TB.below ht hW))
  unfold RKRet
  rcases hv : vmach t with _ | _
  · rw [hv] at KV
    obtain ⟨e1, e2, e3⟩ := rk_bad (s := s) (k := k) hv
    rw [e1, e2, e3]
    replace KV := Lib.hid KV
    clear hv KW KK KA r1 r2 r3 hs ht e1 e2 e3
    go_enter Tryd.func12, Tryd.ntmps12
    go_wp2_with fail
    refine Calls.kn (((Kn.nil w).al [.int .i64 t.a.base, .slice A1 t.a.digits.length c1, .int .i64 t.b.base, .slice A2 t.b.digits.length c2, .int .i64 t.s.base, .slice A3 t.s.digits.length c3, .int .i64 t.carry] 28).al [.int .i64 0, .slice none 0 0, .int .i64 0, .slice none 0 0, .int .i64 0, .slice none 0 0, .int .i64 0] 28) ?_; intro w1 hK0
    simp only [World.size_alloc] at hK0
    refine (KV.out _ hK0.below).mono ?_; rintro e w2 ⟨rfl, hw⟩
    have hK1 := hK0.keep hw
    obtain ⟨x1, x2, x3⟩ := (hK1.front 0 rfl).blkAt
    go_wp2_with fail
    refine bodyPost.kn (((((((((hK1.front 0 rfl).st 0 (.int .i64 0)).st 1 (.slice none 0 0)).st 2 (.int .i64 0)).st 3 (.slice none 0 0)).st 4 (.int .i64 0)).st 5 (.slice none 0 0)).st 6 (.int .i64 0)).sel [0] 99 (by decide) (by decide)) ?_; intro w6 hK6
    clear x1 x2 x3
    obtain ⟨a1, a2, a3, -⟩ := hK6.cells
    refine bodyPost_ret (v := .tuple #[.agg #[.int .i64 0, .slice none 0 0, .int .i64 0, .slice none 0 0, .int .i64 0, .slice none 0 0, .int .i64 0], .string ⟨#[]⟩, .int .i64 1]) (by simp [results, Tryd.results12, go_sem, a1]) rfl ?_
    exact M2Ret.zero hK6.below
  rw [hv] at KV
  unfold WJ at KW
  have H1 := rk_code (s := s) (k := k) hv
  have H2 := rk_kind (s := s) (k := k) hv
  have H3 := rk_note (s := s) (k := k) hv
  have H4 := rk_fine (s := s) (k := k) hv
  obtain ⟨C, hC⟩ : ∃ C, jcode (strB s) = C := ⟨_, rfl⟩
  obtain ⟨RC, hRC⟩ : ∃ C, rkC t s k = C := ⟨_, rfl⟩
  obtain ⟨RM, hRM⟩ : ∃ C, rkM t s k = C := ⟨_, rfl⟩
  obtain ⟨RT, hRT⟩ : ∃ C, rkT t s k = C := ⟨_, rfl⟩
  rw [hC] at KW
  rw [hC, hRC, hRM, hRT] at H1 H2 H3 H4
  rw [hRC, hRM, hRT]
  clear hC hRC hRM hRT
  replace KW := Lib.hid KW
  replace KV := Lib.hid KV
  rcases hc0 : (C == 0) with _ | _
  · have HCN := Lib.hid (show C ≠ 0 by simpa using hc0)
    have HQ := Lib.hid (H1 HCN.out)
    have hc1 : (C != 0) = true := by simpa using hc0
    clear H1 H2 H3 H4 KK KA hv r1 r2 r3 hs ht hc0
    go_enter Tryd.func12, Tryd.ntmps12
    go_wp2_with fail
    refine Calls.kn (((Kn.nil w).al [.int .i64 t.a.base, .slice A1 t.a.digits.length c1, .int .i64 t.b.base, .slice A2 t.b.digits.length c2, .int .i64 t.s.base, .slice A3 t.s.digits.length c3, .int .i64 t.carry] 28).al [.int .i64 0, .slice none 0 0, .int .i64 0, .slice none 0 0, .int .i64 0, .slice none 0 0, .int .i64 0] 28) ?_; intro w1 hK0
    simp only [World.size_alloc] at hK0
    refine (KV.out _ hK0.below).mono ?_; rintro e w2 ⟨rfl, hw⟩
    have hK1 := hK0.keep hw
    go_wp2_with fail
    refine (KW.out _ hK1.below).mono ?_; rintro e w3 ⟨v, rfl, (⟨-, rfl, hw⟩ | ⟨h0, -⟩)⟩
    rotate_left
    · exact absurd h0 HCN.out
    have hK2 := hK1.keep (hw.mono (Nat.le_refl _))
    obtain ⟨x1, x2, x3⟩ := (hK2.front 0 rfl).blkAt
    go_wp2_with fail
    refine bodyPost.kn (((((((((hK2.front 0 rfl).st 0 (.int .i64 0)).st 1 (.slice none 0 0)).st 2 (.int .i64 0)).st 3 (.slice none 0 0)).st 4 (.int .i64 0)).st 5 (.slice none 0 0)).st 6 (.int .i64 0)).sel [0] 99 (by decide) (by decide)) ?_; intro w6 hK6
    clear x1 x2 x3
    obtain ⟨a1, a2, a3, -⟩ := hK6.cells
    refine bodyPost_ret (v := .tuple #[.agg #[.int .i64 0, .slice none 0 0, .int .i64 0, .slice none 0 0, .int .i64 0, .slice none 0 0, .int .i64 0], .string ⟨#[]⟩, .int .i64 C]) (by simp [results, Tryd.results12, go_sem, a1]) rfl ?_
    rw [HQ.out.1, HQ.out.2.1, HQ.out.2.2]
    exact M2Ret.zero hK6.below
  obtain rfl : C = 0 := by simpa using hc0
  replace H2 := H2 rfl
  replace H3 := H3 rfl
  replace H4 := H4 rfl
  clear H1 hc0
  rcases hk : betB k 1 6 with _ | _
  · rw [hk] at KK
    have HQ := Lib.hid (H2 hk)
    replace KK := Lib.hid KK
    clear H2 H3 H4 KA hv hk r1 r2 r3 hs ht
    go_enter Tryd.func12, Tryd.ntmps12
    go_wp2_with fail
    refine Calls.kn (((Kn.nil w).al [.int .i64 t.a.base, .slice A1 t.a.digits.length c1, .int .i64 t.b.base, .slice A2 t.b.digits.length c2, .int .i64 t.s.base, .slice A3 t.s.digits.length c3, .int .i64 t.carry] 28).al [.int .i64 0, .slice none 0 0, .int .i64 0, .slice none 0 0, .int .i64 0, .slice none 0 0, .int .i64 0] 28) ?_; intro w1 hK0
    simp only [World.size_alloc] at hK0
    refine (KV.out _ hK0.below).mono ?_; rintro e w2 ⟨rfl, hw⟩
    have hK1 := hK0.keep hw
    go_wp2_with fail
    refine (KW.out _ hK1.below).mono ?_; rintro e w3 ⟨v, rfl, (⟨h0, -⟩ | ⟨-, g, rfl, hJ⟩)⟩
    · exact absurd rfl h0
    have hK2 := hK1.keep hJ.below
    obtain ⟨x1, x2, x3⟩ := hK2.blkAt
    go_wp2_with (go_at_call 27; with_reducible refine (KK.out _).mono ?_; rintro e w4 ⟨rfl, rfl⟩)
    refine bodyPost.kn ((((((((hK2.st 0 (.int .i64 0)).st 1 (.slice none 0 0)).st 2 (.int .i64 0)).st 3 (.slice none 0 0)).st 4 (.int .i64 0)).st 5 (.slice none 0 0)).st 6 (.int .i64 0)).sel [0] 99 (by decide) (by decide)) ?_; intro w6 hK6
    clear x1 x2 x3
    obtain ⟨a1, a2, a3, -⟩ := hK6.cells
    refine bodyPost_ret (v := .tuple #[.agg #[.int .i64 0, .slice none 0 0, .int .i64 0, .slice none 0 0, .int .i64 0, .slice none 0 0, .int .i64 0], .string ⟨#[]⟩, .int .i64 2]) (by simp [results, Tryd.results12, go_sem, a1]) rfl ?_
    rw [HQ.out.1, HQ.out.2.1, HQ.out.2.2]
    exact M2Ret.zero hK6.below
  rw [hk] at KK
  replace H3 := H3 hk
  replace H4 := H4 hk
  have hk16 := betB_iff.1 hk
  have hnm := sname_len k
  obtain ⟨N, hN⟩ : ∃ N, sname k = N := ⟨_, rfl⟩
  obtain ⟨AC, hAC⟩ : ∃ N, anC (strB s) (strB (sname k)) = N := ⟨_, rfl⟩
  obtain ⟨AT, hAT⟩ : ∃ N, anT s (sname k) = N := ⟨_, rfl⟩
  have KN := (fun W => StrokeName_any k W hk16)
  have KT := Lib.hid (fun W (hW : Below w.heap.size w W) => stroke_any t A1 A2 A3 c1 c2 c3 k W (r1.below hW) (r2.below hW) (r3.below hW) hv hk16)
  rw [hAC, hAT] at KA
  rw [hAC] at H3 H4
  rw [hAT] at H4
  rw [hN] at KA KN
  clear hN hAC hAT
  obtain ⟨r, hr⟩ : ∃ r, strokeT k t = r := ⟨_, rfl⟩
  rw [hr] at KT H4
  replace KK := Lib.hid KK
  replace KA := Lib.hid KA
  replace KN := Lib.hid KN
  clear hr hk hk16 hv H2 r1 r2 r3 hs ht
  rcases hc0 : (AC == 0) with _ | _
  · have HCN := Lib.hid (show AC ≠ 0 by simpa using hc0)
    have HQ := Lib.hid (H3 HCN.out)
    have hc1 : (AC != 0) = true := by simpa using hc0
    clear H3 H4 KT
    go_enter Tryd.func12, Tryd.ntmps12
    go_wp2_with fail
    refine Calls.kn (((Kn.nil w).al [.int .i64 t.a.base, .slice A1 t.a.digits.length c1, .int .i64 t.b.base, .slice A2 t.b.digits.length c2, .int .i64 t.s.base, .slice A3 t.s.digits.length c3, .int .i64 t.carry] 28).al [.int .i64 0, .slice none 0 0, .int .i64 0, .slice none 0 0, .int .i64 0, .slice none 0 0, .int .i64 0] 28) ?_; intro w1 hK0
    simp only [World.size_alloc] at hK0
    refine (KV.out _ hK0.below).mono ?_; rintro e w2 ⟨rfl, hw⟩
    have hK1 := hK0.keep hw
    go_wp2_with fail
    refine (KW.out _ hK1.below).mono ?_; rintro e w3 ⟨v, rfl, (⟨h0, -⟩ | ⟨-, g, rfl, hJ⟩)⟩
    · exact absurd rfl h0
    have hK2 := hK1.keep hJ.below
    obtain ⟨x1, x2, x3⟩ := hK2.blkAt
    go_wp2_with (first
      | (go_at_call 27; with_reducible refine (KK.out _).mono ?_; rintro e w4 ⟨rfl, rfl⟩)
      | (go_at_call 29; with_reducible refine (KN.out _).mono ?_; rintro e w5 ⟨rfl, hw⟩; have hK4 := hK2.keep hw)
      | (go_at_call 28; refine (KA.out _ hK4.below).mono ?_; rintro e w6 ⟨rfl, hw6⟩; have hK5 := hK4.keep hw6; clear x1 x2 x3; obtain ⟨x1, x2, x3, x4, x5, x6, -⟩ := hK5.cells))
    refine bodyPost.kn ((((((((hK5.st 0 (.int .i64 0)).st 1 (.slice none 0 0)).st 2 (.int .i64 0)).st 3 (.slice none 0 0)).st 4 (.int .i64 0)).st 5 (.slice none 0 0)).st 6 (.int .i64 0)).sel [0] 99 (by decide) (by decide)) ?_; intro w6 hK6
    clear x1 x2 x3 x4 x5 x6
    obtain ⟨a1, a2, a3, -⟩ := hK6.cells
    refine bodyPost_ret (v := .tuple #[.agg #[.int .i64 0, .slice none 0 0, .int .i64 0, .slice none 0 0, .int .i64 0, .slice none 0 0, .int .i64 0], .string ⟨#[]⟩, .int .i64 AC]) (by simp [results, Tryd.results12, go_sem, a1]) rfl ?_
    rw [HQ.out.1, HQ.out.2.1, HQ.out.2.2]
    exact M2Ret.zero hK6.below
  obtain rfl : AC = 0 := by simpa using hc0
  have HQ := Lib.hid (H4 rfl)
  clear H3 H4 hc0
  go_enter Tryd.func12, Tryd.ntmps12
  go_wp2_with fail
  refine Calls.kn (((Kn.nil w).al [.int .i64 t.a.base, .slice A1 t.a.digits.length c1, .int .i64 t.b.base, .slice A2 t.b.digits.length c2, .int .i64 t.s.base, .slice A3 t.s.digits.length c3, .int .i64 t.carry] 28).al [.int .i64 0, .slice none 0 0, .int .i64 0, .slice none 0 0, .int .i64 0, .slice none 0 0, .int .i64 0] 28) ?_; intro w1 hK0
  simp only [World.size_alloc] at hK0
  refine (KV.out _ hK0.below).mono ?_; rintro e w2 ⟨rfl, hw⟩
  have hK1 := hK0.keep hw
  go_wp2_with fail
  refine (KW.out _ hK1.below).mono ?_; rintro e w3 ⟨v, rfl, (⟨h0, -⟩ | ⟨-, g, rfl, hJ⟩)⟩
  · exact absurd rfl h0
  have hK2 := hK1.keep hJ.below
  obtain ⟨x1, x2, x3, x4, x5, x6, -⟩ := hK2.cells
  go_wp2_with (first
      | (go_at_call 27; with_reducible refine (KK.out _).mono ?_; rintro e w4 ⟨rfl, rfl⟩)
      | (go_at_call 29; with_reducible refine (KN.out _).mono ?_; rintro e w5 ⟨rfl, hw⟩; have hK4 := hK2.keep hw)
      | (go_at_call 28; refine (KA.out _ hK4.below).mono ?_; rintro e w6 ⟨rfl, hw6⟩; have hK5 := hK4.keep hw6; clear x1 x2 x3 x4 x5 x6; obtain ⟨x1, x2, x3, x4, x5, x6, -⟩ := hK5.cells)
      | (go_at_call 23; refine (KT.out _ hK5.below).mono ?_; rintro e w7 ⟨E1, f1, E2, f2, E3, f3, rfl, hKn⟩; have hK7 := hK5.join hKn; clear x1 x2 x3 x4 x5 x6; obtain ⟨x1, x2, x3, x4, x5, x6, -⟩ := hK7.cells))
  refine bodyPost.kn (((((((((hK7.front 3 rfl).st 0 (.int .i64 r.1.a.base)).st 1 (.slice E1 r.1.a.digits.length f1)).st 2 (.int .i64 r.1.b.base)).st 3 (.slice E2 r.1.b.digits.length f2)).st 4 (.int .i64 r.1.s.base)).st 5 (.slice E3 r.1.s.digits.length f3)).st 6 (.int .i64 r.1.carry)).al_ _) ?_; intro w8 hK8
  clear x1 x2 x3 x4 x5 x6
  obtain ⟨a1, a2, a3, -⟩ := hK8.cells
  refine bodyPost_ret (v := .tuple #[.agg #[.int .i64 r.1.a.base, .slice E1 r.1.a.digits.length f1, .int .i64 r.1.b.base, .slice E2 r.1.b.digits.length f2, .int .i64 r.1.s.base, .slice E3 r.1.s.digits.length f3, .int .i64 r.1.carry], .string AT, .int .i64 0]) (by simp [results, Tryd.results12, go_sem, a1]) rfl ?_
  rw [HQ.out.1, HQ.out.2.1, HQ.out.2.2]
  exact ⟨E1, f1, E2, f2, E3, f3, rfl, hK8.sel [1, 2, 3] 99 (by decide) (by decide)⟩
end Go.Proofs.YtmmiahgmdllgdaaDoor

namespace Go.Proofs.YtmmiahgmdllgdaaDoor
open Go.RowKit Go.Sort
/-! strokes that lead back, plainly -/
theorem tmod_wrap (a P : Int) (hP : 0 < P) : (a.tmod P + P).tmod P = a % P := by
  have h1 := Int.lt_tmod_of_pos a hP
  rw [Int.tmod_eq_emod_of_nonneg (by omega), Int.add_emod_right, Int.tmod_def, Int.sub_mul_emod_self_left]
theorem digD_valL (b : Int) (hb : 2 ≤ b) : ∀ ds : List Int, (∀ d ∈ ds, 0 ≤ d ∧ d < b) → valL b ds ≤ 1000000000000 → digD b ds.length (valL b ds) = ds
  | [], _, _ => rfl
  | d :: ds, hd, hl => by
    have hd0 := hd d (List.mem_cons_self ..)
    have hv0 := (valL_bd b hb ds (fun x hx => (hd x (List.mem_cons_of_mem _ hx)).1)).1
    have e1 : valL b (d :: ds) = valL b ds * b + d := by simp only [valL] at hl ⊢; omega
    have h2 : valL b ds * 1 ≤ valL b ds * b := Int.mul_le_mul_of_nonneg_left (by omega) hv0
    have ih := digD_valL b hb ds (fun x hx => hd x (List.mem_cons_of_mem _ hx)) (by omega)
    have h3 : 0 ≤ valL b ds * b + d := by omega
    have e2 : (valL b ds * b + d).tmod b = d := by
      rw [Int.tmod_eq_emod_of_nonneg h3, Int.add_comm, Int.add_mul_emod_self_right]
      exact Int.emod_eq_of_lt hd0.1 hd0.2
    have e3 : (valL b ds * b + d).tdiv b = valL b ds := by
      rw [Int.tdiv_eq_ediv_of_nonneg h3, Int.add_comm, Int.add_mul_ediv_right _ _ (by omega), Int.ediv_eq_zero_of_lt hd0.1 hd0.2, Int.zero_add]
    rw [List.length_cons, digD_cons, e1, e2, e3, ih]
theorem vreg_dig {b : Int} {ds : List Int} (hv : vreg b ds = true) : digD b ds.length (valL b ds) = ds := by
  obtain ⟨⟨b1, b2⟩, -, hd, hl⟩ := vreg_iff.1 hv
  exact digD_valL b b1 ds hd hl
theorem valL_shift {b : Int} {ds : List Int} (x : Int) (hv : vreg b ds = true) (hp : pw b ds.length ≤ 1000000000001) : valL b (shiftD b ds x) = (valL b ds + x) % pw b ds.length := by
  obtain ⟨⟨b1, b2⟩, -, hd, hl⟩ := vreg_iff.1 hv
  have hp1 := pw_pos b b1 ds.length
  unfold shiftD
  rw [tmod_wrap _ _ (by omega)]
  have h1 := Int.emod_nonneg (valL b ds + x) (show pw b ds.length ≠ 0 by omega)
  have h2 := Int.emod_lt_of_pos (valL b ds + x) (show 0 < pw b ds.length by omega)
  exact valL_digD b b1 _ _ h1 h2 (by omega)
theorem shiftD_eq (b : Int) (hb : 2 ≤ b) (ds : List Int) (y : Int) : shiftD b ds y = digD b ds.length ((valL b ds + y) % pw b ds.length) := by
  have hp1 := pw_pos b hb ds.length
  unfold shiftD
  rw [tmod_wrap _ _ (by omega)]
theorem shift_back {b : Int} {ds : List Int} (x y : Int) (hxy : x + y = 0) (hv : vreg b ds = true) (hp : pw b ds.length ≤ 1000000000001) : shiftD b (shiftD b ds x) y = ds := by
  obtain ⟨⟨b1, b2⟩, -, hd, hl⟩ := vreg_iff.1 hv
  have hp1 := pw_pos b b1 ds.length
  have hv0 := (valL_bd b b1 ds (fun x hx => (hd x hx).1)).1
  have hv1 := valL_lt b b1 ds hd
  rw [shiftD_eq b b1 (shiftD b ds x) y, valL_shift x hv hp, shiftD_len, Int.emod_add_emod, Int.add_assoc, hxy, Int.add_zero, Int.emod_eq_of_lt hv0 hv1]
  exact vreg_dig hv
/-- the stroke that leads back -/
def backK (k : Int) : Int := if k = 1 then 2 else if k = 2 then 1 else if k = 3 then 4 else 3
theorem turn_back {t : Tri} (h : vmach t = true) (s s' : Int) (hs : s + s' = 0) : (turnT (turnT t s).1 s').1 = t := by
  obtain ⟨k1, k2, k3, e1, e2, f1, f2, l1, c0, c1⟩ := vmach_all h
  have q1 := shift_back (s * (valL t.a.base t.a.digits * pw t.b.base t.carry.toNat)) (s' * (valL t.a.base t.a.digits * pw t.b.base t.carry.toNat)) (by rw [← Int.add_mul, hs, Int.zero_mul]) k2 f1
  have q2 := shift_back (s * pw t.b.base t.carry.toNat) (s' * pw t.b.base t.carry.toNat) (by rw [← Int.add_mul, hs, Int.zero_mul]) k3 f2
  rw [show (turnT (turnT t s).1 s').1 = ⟨t.a, ⟨t.b.base, shiftD t.b.base (shiftD t.b.base t.b.digits (s * (valL t.a.base t.a.digits * pw t.b.base t.carry.toNat))) (s' * (valL t.a.base t.a.digits * pw t.b.base t.carry.toNat))⟩, ⟨t.s.base, shiftD t.s.base (shiftD t.s.base t.s.digits (s * pw t.b.base t.carry.toNat)) (s' * pw t.b.base t.carry.toNat)⟩, t.carry⟩ from rfl, q1, q2]
theorem stroke_back {t : Tri} (h : vmach t = true) {k : Int} (hk : 1 ≤ k ∧ k ≤ 4) : if (strokeT k t).2 = true ∧ 2 < k then (strokeT k t).1 = t else (strokeT (backK k) (strokeT k t).1).1 = t := by
  obtain ⟨k1, k2, k3, e1, e2, f1, f2, l1, c0, c1⟩ := vmach_all h
  have hk' : k = 1 ∨ k = 2 ∨ k = 3 ∨ k = 4 := by omega
  rcases hk' with rfl | rfl | rfl | rfl
  · rw [if_neg (by omega)]
    exact turn_back h 1 (-1) (by decide)
  · rw [if_neg (by omega)]
    exact turn_back h (-1) 1 (by decide)
  · by_cases hc : t.carry + 1 = vplaces t
    · have e : strokeT 3 t = (t, true) := by simp [strokeT, hc]
      rw [e, if_pos ⟨rfl, by decide⟩]
    · have e : strokeT 3 t = ({ t with carry := t.carry + 1 }, false) := by simp [strokeT, hc]
      rw [e, if_neg (by simp)]
      have h4 : ¬ t.carry + 1 = 0 := by omega
      simp [strokeT, backK, h4]
  · by_cases hc : t.carry = 0
    · have e : strokeT 4 t = (t, true) := by simp [strokeT, hc]
      rw [e, if_pos ⟨rfl, by decide⟩]
    · have e : strokeT 4 t = ({ t with carry := t.carry - 1 }, false) := by simp [strokeT, hc]
      rw [e, if_neg (by simp)]
      have h4 : ¬ t.carry = vplaces t := by omega
      simp only [backK, strokeT]
      simp [vplaces] at h4 ⊢
      simp [h4]
end Go.Proofs.YtmmiahgmdllgdaaDoor

namespace Go.Proofs.YtmmiahgmdllgdaaDoor
open Go.RowKit Go.Sort
/-! journals that are made, plainly -/
theorem cutB_one {c : UInt8} : ∀ {a r : List UInt8}, c ∉ a → cutB [c] (a ++ c :: r) = some (a, r)
  | [], r, _ => by simp [cutB, List.isPrefixOf]
  | b :: a, r, h => by
    have h1 : ¬ c = b := fun e => h (by rw [e]; exact List.mem_cons_self ..)
    have h2 : c ∉ a := fun e => h (List.mem_cons_of_mem _ e)
    rw [List.cons_append]
    unfold cutB
    rw [if_neg (by simp [List.isPrefixOf, h1]), cutB_one h2]
    rfl
theorem dec_not (n : Int) {c : UInt8} (h : c.toNat ≠ 45) (h2 : c.toNat < 48) : c ∉ dec n := fun hc => by
  have := dec_bytes n c hc; omega
theorem note_not {x : List UInt8} (h : noteOk x = true) : (10 : UInt8) ∉ x := fun hc => by
  unfold noteOk at h
  rw [Bool.and_eq_true] at h
  have h1 := List.all_eq_true.1 h.1 _ hc
  exact absurd h1 (by decide)
theorem jstep_line {sum : Int} {n : Nat} {x rest : List UInt8} (h : noteOk x = true) : jstep sum n (jline sum n x ++ rest) = some x := by
  have e1 : jline sum n x ++ rest = (dec ((n : Int) + 1) ++ 32 :: (dec (nsum sum ((n : Int) + 1) x) ++ 32 :: x)) ++ 10 :: rest := by
    simp [jline, List.append_assoc]
  have n1 : (10 : UInt8) ∉ dec ((n : Int) + 1) ++ 32 :: (dec (nsum sum ((n : Int) + 1) x) ++ 32 :: x) := fun hc => by
    rcases List.mem_append.1 hc with hc | hc
    · exact dec_not _ (by decide) (by decide) hc
    · rcases List.mem_cons.1 hc with hc | hc
      · exact absurd hc (by decide)
      · rcases List.mem_append.1 hc with hc | hc
        · exact dec_not _ (by decide) (by decide) hc
        · rcases List.mem_cons.1 hc with hc | hc
          · exact absurd hc (by decide)
          · exact note_not h hc
  unfold jstep
  rw [e1, cutB_one n1, Option.bind_some]
  dsimp only
  rw [cutB_one (dec_not _ (by decide) (by decide)), Option.bind_some]
  dsimp only
  rw [cutB_one (dec_not _ (by decide) (by decide)), Option.bind_some]
  dsimp only
  rw [if_pos]
  rw [h, Bool.true_and, beq_iff_eq]
  simp [jline, List.append_assoc]
/-- the lines of some notes -/
def jmk (n : Nat) (s : Int) : List (List UInt8) → List UInt8
  | [] => []
  | x :: l => jline s n x ++ jmk (n + 1) (nsum s ((n : Int) + 1) x) l
def jsum (n : Nat) (s : Int) : List (List UInt8) → Int
  | [] => s
  | x :: l => jsum (n + 1) (nsum s ((n : Int) + 1) x) l
def jof (l : List (List UInt8)) : List UInt8 := jmk 0 0 l
theorem jmk_append : ∀ (a b : List (List UInt8)) (n : Nat) (s : Int), jmk n s (a ++ b) = jmk n s a ++ jmk (n + a.length) (jsum n s a) b
  | [], b, n, s => rfl
  | x :: a, b, n, s => by
    show jline s n x ++ jmk (n + 1) _ (a ++ b) = (jline s n x ++ jmk (n + 1) _ a) ++ _
    rw [jmk_append a b, List.append_assoc, List.length_cons, show n + 1 + a.length = n + (a.length + 1) by omega]
    rfl
theorem jread_mk : ∀ (l : List (List UInt8)) (j : JS), (∀ x ∈ l, noteOk x = true) → jread (jmk j.notes.length j.sum l) j = ⟨j.notes ++ l, jsum j.notes.length j.sum l, j.size + (jmk j.notes.length j.sum l).length⟩
  | [], j, _ => by
    rw [jread_none]
    · simp [jmk, jsum]
    · rfl
  | x :: l, j, h => by
    have hx := h x (List.mem_cons_self ..)
    show jread (jline j.sum j.notes.length x ++ jmk (j.notes.length + 1) (nsum j.sum ((j.notes.length : Int) + 1) x) l) j = _
    rw [jread_some (jstep_line hx), List.drop_left]
    have h2 := jread_mk l ⟨j.notes ++ [x], nsum j.sum ((j.notes.length : Int) + 1) x, j.size + (jline j.sum j.notes.length x).length⟩ (fun y hy => h y (List.mem_cons_of_mem _ hy))
    simp only [List.length_append, List.length_cons, List.length_nil, Nat.zero_add] at h2
    rw [h2]
    simp only [List.append_assoc, List.cons_append, List.nil_append, jmk, jsum, List.length_append, Nat.add_assoc]
theorem jall_of {l : List (List UInt8)} (h : ∀ x ∈ l, noteOk x = true) : jall (jof l) = ⟨l, jsum 0 0 l, (jof l).length⟩ := by
  have := jread_mk l ⟨[], 0, 0⟩ h
  simpa [jall, jof] using this
theorem jcode_of {l : List (List UInt8)} (h : ∀ x ∈ l, noteOk x = true) (hl : (jof l).length ≤ 4000) : jcode (jof l) = 0 := by
  unfold jcode
  rw [if_neg (by omega), jall_of h, if_pos rfl]
theorem jmk_bd (k : Nat) : ∀ (l : List (List UInt8)) (n : Nat) (s : Int), n + l.length ≤ 1000000 → (∀ x ∈ l, x.length ≤ k) → (jmk n s l).length ≤ (k + 45) * l.length
  | [], _, _, _, _ => by simp [jmk]
  | x :: l, n, s, h, hx => by
    rw [List.length_cons] at h
    have h1 := (jline_len s n (by omega) x).2
    have h2 := jmk_bd k l (n + 1) (nsum s ((n : Int) + 1) x) (by omega) (fun y hy => hx y (List.mem_cons_of_mem _ hy))
    have h3 := hx x (List.mem_cons_self ..)
    show (jline s n x ++ jmk (n + 1) _ l).length ≤ _
    rw [List.length_append, List.length_cons, Nat.mul_succ]
    omega
/-! how long they are, in Nat -/
def dN (x : Nat) : Nat := if x < 10 then 1 else if x < 100 then 2 else if x < 1000 then 3 else if x < 10000 then 4 else 5
theorem dN_bd (x : Nat) : 1 ≤ dN x ∧ dN x ≤ 5 := by unfold dN; (repeat' split) <;> omega
theorem dec_dN {x : Nat} (h : x < 100000) : (dec (x : Int)).length = dN x := by
  unfold dec
  rw [Lib.itoa_nonneg, Lib.decDigits_length]
  unfold dN
  by_cases h1 : x < 10
  · rw [if_pos h1, Lib.nDigits_small h1]
  rw [if_neg h1, Lib.nDigits_big h1]
  by_cases h2 : x < 100
  · rw [if_pos h2, Lib.nDigits_small (by omega)]
  rw [if_neg h2, Lib.nDigits_big (by omega)]
  by_cases h3 : x < 1000
  · rw [if_pos h3, Lib.nDigits_small (by omega)]
  rw [if_neg h3, Lib.nDigits_big (by omega)]
  by_cases h4 : x < 10000
  · rw [if_pos h4, Lib.nDigits_small (by omega)]
  rw [if_neg h4, Lib.nDigits_big (by omega), Lib.nDigits_small (by omega)]
def nfN (y : Nat) (x : List UInt8) : Nat := x.foldl (fun s b => (31 * s + b.toNat) % 65521) y
def nsN (s n : Nat) (x : List UInt8) : Nat := nfN ((s + 7 * n) % 65521) x
theorem nfN_eq : ∀ (x : List UInt8) (y : Nat), nfold (y : Int) x = (nfN y x : Int)
  | [], _ => rfl
  | b :: x, y => by
    show nfold ((31 * (y : Int) + (b.toNat : Int)).tmod 65521) x = (nfN ((31 * y + b.toNat) % 65521) x : Int)
    rw [← nfN_eq x, Int.tmod_eq_emod_of_nonneg (by omega)]
    congr 1
theorem nsN_eq {s n : Nat} (x : List UInt8) (hs : s ≤ 65520) (hn : n ≤ 1000000) : nsum (s : Int) (n : Int) x = (nsN s n x : Int) := by
  unfold nsum nsN
  rw [if_pos, ← nfN_eq, Int.tmod_eq_emod_of_nonneg (by omega)]
  · congr 1
  · rw [betB_iff.2 (by omega), betB_iff.2 (by omega)]; rfl
theorem nsN_bd {s n : Nat} (x : List UInt8) (hs : s ≤ 65520) (hn : n ≤ 1000000) : nsN s n x ≤ 65520 := by
  have h := (nsum_bd (s : Int) (n : Int) x).2
  rw [nsN_eq x hs hn] at h
  omega
def lenJ (n s : Nat) : List (List UInt8) → Nat
  | [] => 0
  | x :: l => 4 + dN (nsN s (n + 1) x) + x.length + lenJ (n + 1) (nsN s (n + 1) x) l
def sumJ (n s : Nat) : List (List UInt8) → Nat
  | [] => s
  | x :: l => sumJ (n + 1) (nsN s (n + 1) x) l
theorem sumJ_bd : ∀ (l : List (List UInt8)) (n s : Nat), n + l.length ≤ 9 → s ≤ 65520 → sumJ n s l ≤ 65520
  | [], _, _, _, hs => hs
  | x :: l, n, s, h, hs => by
    rw [List.length_cons] at h
    exact sumJ_bd l (n + 1) _ (by omega) (nsN_bd x hs (by omega))
theorem jmk_len : ∀ (l : List (List UInt8)) (n s : Nat), n + l.length ≤ 9 → s ≤ 65520 → (jmk n (s : Int) l).length = lenJ n s l
  | [], _, _, _, _ => rfl
  | x :: l, n, s, h, hs => by
    rw [List.length_cons] at h
    have e1 : nsum (s : Int) ((n : Int) + 1) x = (nsN s (n + 1) x : Int) := nsN_eq (n := n + 1) x hs (by omega)
    have hb := nsN_bd (n := n + 1) x hs (by omega)
    show (jline (s : Int) n x ++ jmk (n + 1) _ l).length = _
    rw [List.length_append, e1, jmk_len l (n + 1) _ (by omega) hb]
    show (dec ((n : Int) + 1) ++ [32] ++ dec (nsum (s : Int) ((n : Int) + 1) x) ++ [32] ++ x ++ [10]).length + _ = 4 + dN _ + x.length + _
    rw [e1]
    simp only [List.length_append, List.length_cons, List.length_nil]
    have d1 : (dec ((n : Int) + 1)).length = 1 := by
      have := dec_dN (x := n + 1) (by omega)
      have h9 : dN (n + 1) = 1 := by unfold dN; rw [if_pos (by omega)]
      rw [h9] at this
      exact this
    rw [d1, dec_dN (by omega)]
    omega
theorem lenJ_append : ∀ (a b : List (List UInt8)) (n s : Nat), lenJ n s (a ++ b) = lenJ n s a + lenJ (n + a.length) (sumJ n s a) b
  | [], b, n, s => by simp [lenJ, sumJ]
  | x :: a, b, n, s => by
    show 4 + _ + x.length + lenJ (n + 1) _ (a ++ b) = 4 + _ + x.length + lenJ (n + 1) _ a + _
    rw [lenJ_append a b, List.length_cons, show n + 1 + a.length = n + (a.length + 1) by omega]
    show _ = _ + lenJ _ (sumJ (n + 1) _ a) b
    omega
def totL (l : List (List UInt8)) : Nat := (l.map List.length).sum
theorem lenJ_bd : ∀ (l : List (List UInt8)) (n s : Nat), totL l + 5 * l.length ≤ lenJ n s l ∧ lenJ n s l ≤ totL l + 9 * l.length
  | [], _, _ => by simp [lenJ, totL]
  | x :: l, n, s => by
    have h1 := lenJ_bd l (n + 1) (nsN s (n + 1) x)
    have h2 := dN_bd (nsN s (n + 1) x)
    show totL (x :: l) + 5 * (l.length + 1) ≤ 4 + _ + x.length + lenJ (n + 1) _ l ∧ 4 + _ + x.length + lenJ (n + 1) _ l ≤ _ + 9 * (l.length + 1)
    have e : totL (x :: l) = x.length + totL l := by simp [totL]
    rw [e]
    omega
/-- the texts that are drawn -/
def aL : List UInt8 := [97, 100, 100]
def sL : List UInt8 := [115, 117, 98]
def noteL : List (List UInt8) := [aL, sL, [114, 105, 103, 104, 116], [108, 101, 102, 116], [99, 108, 101, 97, 114], [122, 101, 114, 111], [], [118, 105, 115, 105, 116, 111, 114, 32, 55], [115, 101, 116, 32, 49, 50], [97, 100, 100, 32, 97, 100, 100], [32, 120]]
/-- a turn that undoes another one -/
def undN (a b : List UInt8) : Bool := (a == aL && b == sL) || (a == sL && b == aL)
theorem undN_iff {a b : List UInt8} : undN a b = true ↔ (a = aL ∧ b = sL) ∨ (a = sL ∧ b = aL) := by
  unfold undN; simp
theorem dec_2 : ∀ x ∈ noteL, ∀ y ∈ noteL, ∀ p ∈ [(aL, sL), (sL, aL)], 6 ≤ dN (nsN (nsN (nsN 0 1 x) 2 y) 3 p.1) + dN (nsN (nsN (nsN (nsN 0 1 x) 2 y) 3 p.1) 4 p.2) := by decide +kernel
theorem dec_1 : ∀ x ∈ noteL, ∀ p ∈ [(aL, sL), (sL, aL)], ∀ t ∈ noteL, 6 + dN (nsN (nsN 0 1 x) 2 t) ≤ dN (nsN (nsN 0 1 x) 2 p.1) + dN (nsN (nsN (nsN 0 1 x) 2 p.1) 3 p.2) + dN (nsN (nsN (nsN (nsN 0 1 x) 2 p.1) 3 p.2) 4 t) := by decide +kernel
theorem dec_0 : ∀ p ∈ [(aL, sL), (sL, aL)], ∀ t ∈ noteL, ∀ u ∈ noteL, 6 + dN (nsN 0 1 t) + dN (nsN (nsN 0 1 t) 2 u) ≤ dN (nsN 0 1 p.1) + dN (nsN (nsN 0 1 p.1) 2 p.2) + dN (nsN (nsN (nsN 0 1 p.1) 2 p.2) 3 t) + dN (nsN (nsN (nsN (nsN 0 1 p.1) 2 p.2) 3 t) 4 u) := by decide +kernel
theorem pair_mem {a b : List UInt8} (h : undN a b = true) : (a, b) ∈ [(aL, sL), (sL, aL)] ∧ a.length = 3 ∧ b.length = 3 := by
  rcases undN_iff.1 h with ⟨rfl, rfl⟩ | ⟨rfl, rfl⟩ <;> decide
/-- one pair less is no longer -/
theorem lenJ_pair {A B : List (List UInt8)} {a b : List UInt8} (hp : undN a b = true) (hA : ∀ x ∈ A, x ∈ noteL) (hB : ∀ x ∈ B, x ∈ noteL) (hl : A.length + B.length + 2 ≤ 9) : lenJ 0 0 (A ++ B) ≤ lenJ 0 0 (A ++ a :: b :: B) := by
  obtain ⟨hm, la, lb⟩ := pair_mem hp
  rw [lenJ_append, lenJ_append]
  simp only [lenJ, la, lb, Nat.zero_add]
  have h1 := dN_bd (nsN (sumJ 0 0 A) (A.length + 1) a)
  have h2 := dN_bd (nsN (nsN (sumJ 0 0 A) (A.length + 1) a) (A.length + 1 + 1) b)
  have cr := fun (l : List (List UInt8)) n s n' s' => show lenJ n s l ≤ lenJ n' s' l + 4 * l.length by
    have q1 := (lenJ_bd l n s).2
    have q2 := (lenJ_bd l n' s').1
    omega
  match A, hA, hl, h1, h2 with
  | x :: y :: z :: A, _, hl, h1, h2 =>
    have := cr B ((x :: y :: z :: A).length) (sumJ 0 0 (x :: y :: z :: A)) ((x :: y :: z :: A).length + 1 + 1) (nsN (nsN (sumJ 0 0 (x :: y :: z :: A)) ((x :: y :: z :: A).length + 1) a) ((x :: y :: z :: A).length + 1 + 1) b)
    simp only [List.length_cons] at this hl h1 h2 ⊢
    omega
  | [x, y], hA, hl, h1, h2 =>
    have hd := dec_2 x (hA x (by simp)) y (hA y (by simp)) (a, b) hm
    have := cr B 2 (sumJ 0 0 [x, y]) 4 (nsN (nsN (sumJ 0 0 [x, y]) 3 a) 4 b)
    simp only [sumJ, List.length_cons, List.length_nil, Nat.zero_add, Nat.reduceAdd] at this hl h1 h2 hd ⊢
    omega
  | [x], hA, hl, h1, h2 =>
    match B, hB, hl with
    | [], _, _ => simp only [lenJ]; omega
    | t :: B, hB, hl =>
      have hd := dec_1 x (hA x (by simp)) (a, b) hm t (hB t (by simp))
      have := cr B 2 (nsN (nsN 0 1 x) 2 t) 4 (nsN (nsN (nsN (nsN 0 1 x) 2 a) 3 b) 4 t)
      simp only [sumJ, lenJ, List.length_cons, List.length_nil, Nat.zero_add, Nat.reduceAdd] at this hl h1 h2 hd ⊢
      omega
  | [], _, hl, h1, h2 =>
    match B, hB, hl with
    | [], _, _ => simp only [lenJ]; omega
    | [t], hB, hl =>
      have q1 := dN_bd (nsN 0 1 t)
      have q2 := dN_bd (nsN (nsN (nsN 0 1 a) 2 b) 3 t)
      simp only [sumJ, lenJ, List.length_cons, List.length_nil, Nat.zero_add, Nat.reduceAdd] at hl h1 h2 q1 q2 ⊢
      omega
    | t :: u :: B, hB, hl =>
      have hd := dec_0 (a, b) hm t (hB t (by simp)) u (hB u (by simp))
      have := cr B 2 (nsN (nsN 0 1 t) 2 u) 4 (nsN (nsN (nsN (nsN 0 1 a) 2 b) 3 t) 4 u)
      simp only [sumJ, lenJ, List.length_cons, List.length_nil, Nat.zero_add, Nat.reduceAdd] at this hl h1 h2 hd ⊢
      omega
/-! without the turns that undo each other -/
def compS (out : List (List UInt8)) (x : List UInt8) : List (List UInt8) :=
  match out.getLast? with
  | some a => if undN a x then out.dropLast else out ++ [x]
  | none => out ++ [x]
def comp (l : List (List UInt8)) : List (List UInt8) := l.foldl compS []
theorem compS_app (o : List (List UInt8)) (a x : List UInt8) : compS (o ++ [a]) x = if undN a x then o else o ++ [a] ++ [x] := by
  unfold compS
  rw [List.getLast?_concat]
  dsimp only
  rw [List.dropLast_concat]
theorem totL_app (a b : List (List UInt8)) : totL (a ++ b) = totL a + totL b := by simp [totL]
theorem rjFold_app (t : Tri) (a b : List (List UInt8)) : rjFold t (a ++ b) = rjFold (rjFold t a) b := by unfold rjFold; rw [List.foldl_append]
theorem rjCount_app (a b : List (List UInt8)) : rjCount (a ++ b) = rjCount a + rjCount b := by unfold rjCount; rw [List.filter_append, List.length_append]
theorem kind_aL : kindOf aL = 1 := by decide
theorem kind_sL : kindOf sL = 2 := by decide
theorem rj_cnt {a b : List UInt8} (hp : undN a b = true) : rjCount [a] = 1 ∧ rjCount [b] = 1 := by
  rcases undN_iff.1 hp with ⟨rfl, rfl⟩ | ⟨rfl, rfl⟩ <;> decide
theorem rj_pair {t : Tri} (h : vmach t = true) {a b : List UInt8} (hp : undN a b = true) : rjStep (rjStep t a) b = t := by
  rcases undN_iff.1 hp with ⟨rfl, rfl⟩ | ⟨rfl, rfl⟩
  · have := stroke_back h (k := 1) (by decide)
    rw [if_neg (by simp)] at this
    unfold rjStep
    rw [kind_aL, kind_sL]
    exact this
  · have := stroke_back h (k := 2) (by decide)
    rw [if_neg (by simp)] at this
    unfold rjStep
    rw [kind_aL, kind_sL]
    exact this
structure CInv (N out : List (List UInt8)) (p : Nat) : Prop where
  len : N.length = out.length + 2 * p
  tot : totL N = totL out + 6 * p
  cnt : rjCount N = rjCount out + 2 * p
  sub : ∀ x ∈ out, x ∈ N
  fold : ∀ t, vmach t = true → rjFold t out = rjFold t N
  none : p = 0 → out = N
  one : p = 1 → ∃ A a b B, N = A ++ a :: b :: B ∧ out = A ++ B ∧ undN a b = true
theorem CInv.push {N out : List (List UInt8)} {p : Nat} (h : CInv N out p) (x : List UInt8) : CInv (N ++ [x]) (out ++ [x]) p where
  len := by have := h.len; simp; omega
  tot := by have := h.tot; rw [totL_app, totL_app]; omega
  cnt := by have := h.cnt; rw [rjCount_app, rjCount_app]; omega
  sub y hy := by
    rcases List.mem_append.1 hy with hy | hy
    · exact List.mem_append_left _ (h.sub y hy)
    · exact List.mem_append_right _ hy
  fold t ht := by rw [rjFold_app, rjFold_app, h.fold t ht]
  none hp := by rw [h.none hp]
  one hp := by
    obtain ⟨A, a, b, B, e1, e2, e3⟩ := h.one hp
    exact ⟨A, a, b, B ++ [x], by rw [e1]; simp, by rw [e2]; simp, e3⟩
theorem CInv.pop {N o : List (List UInt8)} {a x : List UInt8} {p : Nat} (h : CInv N (o ++ [a]) p) (hu : undN a x = true) : CInv (N ++ [x]) o (p + 1) where
  len := by have := h.len; simp at this ⊢; omega
  tot := by
    have h1 := h.tot
    have h2 := pair_mem hu
    rw [totL_app] at h1 ⊢
    have e1 : totL [a] = 3 := by simp [totL, h2.2.1]
    have e2 : totL [x] = 3 := by simp [totL, h2.2.2]
    omega
  cnt := by
    have h1 := h.cnt
    have h2 := rj_cnt hu
    rw [rjCount_app] at h1 ⊢
    omega
  sub y hy := List.mem_append_left _ (h.sub y (List.mem_append_left _ hy))
  fold t ht := by
    rw [rjFold_app, ← h.fold t ht, rjFold_app]
    exact (rj_pair (rjFold_ok ht o) hu).symm
  none hp := by omega
  one hp := by
    have h1 := h.none (by omega)
    exact ⟨o, a, x, [], by rw [← h1]; simp, by simp, hu⟩
theorem comp_inv (l : List (List UInt8)) : ∃ p, CInv l (comp l) p := by
  have H : ∀ (r N out : List (List UInt8)) (p : Nat), CInv N out p → ∃ p, CInv (N ++ r) (r.foldl compS out) p := by
    intro r
    induction r with
    | nil => intro N out p h; exact ⟨p, by rw [List.append_nil]; exact h⟩
    | cons x r ih =>
      intro N out p h
      rw [List.foldl_cons, show N ++ x :: r = N ++ [x] ++ r by simp]
      rcases List.eq_nil_or_concat out with rfl | ⟨o, a, rfl⟩
      · exact ih _ _ p (h.push x)
      · rw [List.concat_eq_append] at h ⊢
        rw [compS_app]
        cases hu : undN a x with
        | true => exact ih _ _ (p + 1) (h.pop hu)
        | false => exact ih _ _ p (h.push x)
  have := H l [] [] 0 ⟨rfl, rfl, rfl, fun x h => (by cases h), fun t _ => rfl, fun _ => rfl, fun h => (by cases h)⟩
  unfold comp
  simpa using this
theorem comp_len {l : List (List UInt8)} (h9 : l.length ≤ 9) (hm : ∀ x ∈ l, x ∈ noteL) : (jof (comp l)).length ≤ (jof l).length := by
  obtain ⟨p, h⟩ := comp_inv l
  have h1 := h.len
  show (jmk 0 ((0 : Nat) : Int) (comp l)).length ≤ (jmk 0 ((0 : Nat) : Int) l).length
  rw [jmk_len _ 0 0 (by omega) (by omega), jmk_len _ 0 0 (by omega) (by omega)]
  by_cases p0 : p = 0
  · rw [h.none p0]; exact Nat.le_refl _
  by_cases p1 : p = 1
  · obtain ⟨A, a, b, B, e1, e2, e3⟩ := h.one p1
    rw [e2]
    rw [e1] at h9 hm ⊢
    refine lenJ_pair e3 (fun x hx => hm x ?_) (fun x hx => hm x ?_) ?_
    · exact List.mem_append_left _ hx
    · exact List.mem_append_right _ (List.mem_cons_of_mem _ (List.mem_cons_of_mem _ hx))
    · simp at h9; omega
  have h2 := h.tot
  have h3 := (lenJ_bd (comp l) 0 0).2
  have h4 := (lenJ_bd l 0 0).1
  omega
theorem noteL_ok : ∀ x ∈ noteL, noteOk x = true ∧ x.length ≤ 9 := by decide
end Go.Proofs.YtmmiahgmdllgdaaDoor

namespace Go.Proofs.YtmmiahgmdllgdaaDoor
open Go.RowKit Go.Sort
theorem gtrans {w a b : World} {o : Option Nat} (h1 : w.grownBy a o) (h2 : a.grownBy b o) : w.grownBy b o :=
  ⟨h2.os.trans h1.os, h2.tape.trans h1.tape, h2.output.trans h1.output, Nat.le_trans h1.size h2.size, fun k hk hne => (h2.block k (Nat.lt_of_lt_of_le hk h1.size) hne).trans (h1.block k hk hne)⟩
/-- a source of draws at block b, from which at most N draws were taken -/
def Src (w : World) (b N : Nat) : Prop := ∃ (A : Option Addr) (n c k : Nat) (seed : Int) (bs : List UInt8), w.cell? ⟨b, 0, none⟩ = some (.slice A n c) ∧ w.cell? ⟨b, 1, none⟩ = some (.int .i64 (k : Int)) ∧ w.cell? ⟨b, 2, none⟩ = some (.int .u64 seed) ∧
  w.frozen? ⟨b, 1, none⟩ = false ∧ w.frozen? ⟨b, 2, none⟩ = false ∧ RB w A n bs ∧ k ≤ N ∧ n ≤ 9223372036854775807 ∧ (0 < n → ∀ ad, A = some ad → ad.block < b) ∧ b < w.heap.size
theorem low_byte (x : Int) : 0 ≤ wrap64 (bits .and .u64 (IntKind.u64.wrap x / 1099511627776) 255) ∧ wrap64 (bits .and .u64 (IntKind.u64.wrap x / 1099511627776) 255) ≤ 255 := by
  obtain ⟨a, ha, ha2⟩ : ∃ a : Nat, IntKind.u64.wrap x / 1099511627776 = (a : Int) ∧ a < 18446744073709551616 := by
    rw [IntKind.wrap_u64]
    exact ⟨(x % 18446744073709551616 / 1099511627776).toNat, by omega, by omega⟩
  rw [ha]
  have h := bits_and_u64_nat a 255 ha2 (by omega)
  have h2 : a &&& 255 ≤ 255 := Nat.and_le_right
  have h3 : bits .and .u64 (a : Int) 255 = ((a &&& 255 : Nat) : Int) := h
  rw [h3]
  unfold wrap64
  omega
theorem src_step {w : World} {b N k n c : Nat} {A : Option Addr} {seed : Int} {bs : List UInt8} (c0 : w.cell? ⟨b, 0, none⟩ = some (.slice A n c)) (c1 : w.cell? ⟨b, 1, none⟩ = some (.int .i64 (k : Int))) (c2 : w.cell? ⟨b, 2, none⟩ = some (.int .u64 seed))
    (f1 : w.frozen? ⟨b, 1, none⟩ = false) (f2 : w.frozen? ⟨b, 2, none⟩ = false) (hb : RB w A n bs) (hk : k ≤ N) (hn : n ≤ 9223372036854775807) (hne : 0 < n → ∀ ad, A = some ad → ad.block < b) (hlt : b < w.heap.size) (s : Int) :
    Src ((w.setCell ⟨b, 1, none⟩ (.int .i64 ((k : Int) + 1))).setCell ⟨b, 2, none⟩ (.int .u64 s)) b (N + 1) ∧ w.grownBy ((w.setCell ⟨b, 1, none⟩ (.int .i64 ((k : Int) + 1))).setCell ⟨b, 2, none⟩ (.int .u64 s)) (some b) := by
  refine ⟨⟨A, n, c, k + 1, s, bs, by go_simp, by go_simp, by go_simp, by go_simp, by go_simp, ⟨hb.1, fun h0 => ?_⟩, by omega, hn, hne, by simp [World.setCell]; exact hlt⟩, ⟨rfl, rfl, rfl, by simp [World.setCell], fun g _ hg => ?_⟩⟩
  · obtain ⟨ad, e, hl, hc⟩ := hb.2 h0
    refine ⟨ad, e, by simp [World.setCell]; exact hl, fun j u hu => ?_⟩
    have h1 : ad.block ≠ b := Nat.ne_of_lt (hne h0 ad e)
    rw [World.cell?_setCell_far _ _ _ _ (by rw [block_of_add]; exact Ne.symm h1), World.cell?_setCell_far _ _ _ _ (by rw [block_of_add]; exact Ne.symm h1)]
    exact hc j u hu
  · rw [heap_setCell_other _ _ _ _ (fun e => hg (by rw [e])), heap_setCell_other _ _ _ _ (fun e => hg (by rw [e]))]
theorem Src.drewN {w : World} {b N : Nat} (h : Src w b N) (q : Nat) : Src (w.drewN q) b N := h
theorem gDrew {w w' : World} {o : Option Nat} (h : w.grownBy w' o) (q : Nat) : w.grownBy (w'.drewN q) o := ⟨h.os, h.tape, h.output, h.size, h.block⟩
theorem gDrewL {w w' : World} {o : Option Nat} {q : Nat} (h : (w.drewN q).grownBy w' o) : w.grownBy w' o := ⟨h.os, h.tape, h.output, h.size, h.block⟩
set_option maxHeartbeats 1600000 in
theorem srcNext_any (b N : Nat) (w : World) (h : Src w b N) (hN : N ≤ 1000000) :
    Calls Tryd.prog 64 #[.pointer (some ⟨b, 0, none⟩)] w fun e w' => ∃ x : Int, e = .returned (.int .i64 x) ∧ 0 ≤ x ∧ x ≤ 255 ∧ Src w' b (N + 1) ∧ w.grownBy w' (some b) := by
  obtain ⟨A, n, c, k, seed, bs, c0, c1, c2, f1, f2, hb, hk, hn, hne, hlt⟩ := h
  have HB := Lib.hid hb
  by_cases hkn : k < n
  · obtain ⟨ad, hA, hl, hc⟩ := hb.2 (by omega)
    have hbl : k < bs.length := by have := hb.1; omega
    have hcb := hc k _ (List.getElem?_eq_getElem hbl)
    have hi0 : (0 : Int) ≤ (k : Int) := by omega
    have hi1 : (k : Int) < (n : Int) := by omega
    have hi2 : (k : Int) + 1 ≤ (n : Int) := by omega
    unfold byteV at hcb
    obtain ⟨u, hu⟩ : ∃ u : Nat, u = bs[k].toNat := ⟨_, rfl⟩
    have hu2 : u < 256 := by rw [hu]; exact UInt8.toNat_lt _
    rw [← hu] at hcb
    subst hA
    clear hu hb hc
    go_enter Tryd.func64, Tryd.ntmps64
    go_wp2
    go_quiet (fail)
    go_wp2
    go_quiet (fail)
    go_wp2
    go_quiet (fail)
    go_wp2
    go_ret
    refine ⟨_, rfl, by omega, by omega, ?_⟩
    have z := fun q => src_step (w := w.drewN q) c0 c1 c2 f1 f2 HB.out hk hn hne hlt
    exact ⟨(z _ _).1.drewN _, gDrew (gDrewL (z _ _).2) _⟩
  · have hi1 : ¬ (k : Int) < (n : Int) := by omega
    have hi2 : ¬ (k : Int) + 1 ≤ (n : Int) := by omega
    clear hb
    go_enter Tryd.func64, Tryd.ntmps64
    go_wp2
    go_quiet (fail)
    go_wp2
    go_quiet (fail)
    go_wp2
    go_ret
    obtain ⟨q1, q2⟩ := low_byte (IntKind.u64.wrap (IntKind.u64.wrap (seed * 6364136223846793005)) + 1442695040888963407)
    refine ⟨_, rfl, q1, q2, ?_⟩
    have z := fun q => src_step (w := w.drewN q) c0 c1 c2 f1 f2 HB.out hk hn hne hlt
    exact ⟨(z _ _).1.drewN _, gDrew (gDrewL (z _ _).2) _⟩
theorem Src.keep {w w' : World} {b N : Nat} (h : Src w b N) (hs : w.heap.size ≤ w'.heap.size) (hk : ∀ k, k ≤ b → w'.heap[k]? = w.heap[k]?) : Src w' b N := by
  obtain ⟨A, n, c, k, seed, bs, c0, c1, c2, f1, f2, hb, hkN, hn, hne, hlt⟩ := h
  have hcell : ∀ o, w'.cell? ⟨b, o, none⟩ = w.cell? ⟨b, o, none⟩ := fun o => World.cell?_of_block (hk b (Nat.le_refl _))
  have hfz : ∀ o, w'.frozen? ⟨b, o, none⟩ = w.frozen? ⟨b, o, none⟩ := fun o => World.frozen?_of_block (hk b (Nat.le_refl _))
  refine ⟨A, n, c, k, seed, bs, by rw [hcell]; exact c0, by rw [hcell]; exact c1, by rw [hcell]; exact c2, by rw [hfz]; exact f1, by rw [hfz]; exact f2, ⟨hb.1, fun h0 => ?_⟩, hkN, hn, hne, Nat.lt_of_lt_of_le hlt hs⟩
  obtain ⟨ad, e, hl, hc⟩ := hb.2 h0
  refine ⟨ad, e, Nat.lt_of_lt_of_le hl hs, fun j u hu => ?_⟩
  rw [World.cell?_of_block (w := w) (by rw [block_of_add]; exact hk _ (Nat.le_of_lt (hne h0 ad e)))]
  exact hc j u hu
theorem Src.mono {w : World} {b N M : Nat} (h : Src w b N) (hm : N ≤ M) : Src w b M := by
  obtain ⟨A, n, c, k, seed, bs, c0, c1, c2, f1, f2, hb, hkN, hr⟩ := h
  exact ⟨A, n, c, k, seed, bs, c0, c1, c2, f1, f2, hb, by omega, hr⟩
theorem Src.lt {w : World} {b N : Nat} (h : Src w b N) : b < w.heap.size := by
  obtain ⟨A, n, c, k, seed, bs, c0, c1, c2, f1, f2, hb, hkN, hn, hne, hlt⟩ := h
  exact hlt
theorem gRefl (w : World) (o : Option Nat) : w.grownBy w o := ⟨rfl, rfl, rfl, Nat.le_refl _, fun _ _ _ => rfl⟩
theorem gMore {w a c : World} {o o2 : Option Nat} (h1 : w.grownBy a o) (h2 : a.grownBy c o2) (ho : ∀ k, o2 = some k → w.heap.size ≤ k) : w.grownBy c o :=
  ⟨h2.os.trans h1.os, h2.tape.trans h1.tape, h2.output.trans h1.output, Nat.le_trans h1.size h2.size, fun k hk hne => (h2.block k (Nat.lt_of_lt_of_le hk h1.size) (fun e => by have := ho k e.symm; omega)).trans (h1.block k hk hne)⟩
theorem gBelow {w a c : World} {o : Option Nat} (h1 : w.grownBy a o) (h2 : Below a.heap.size a c) : w.grownBy c o :=
  ⟨h2.os.trans h1.os, h2.tape.trans h1.tape, h2.output.trans h1.output, Nat.le_trans h1.size h2.size, fun k hk hne => (h2.block k (Nat.lt_of_lt_of_le hk h1.size)).trans (h1.block k hk hne)⟩
theorem ofBelow {w c : World} (h2 : Below w.heap.size w c) (o : Option Nat) : w.grownBy c o := gBelow (gRefl w o) h2
/-- from a source's own block on, everything is new -/
theorem belowG {B b : Nat} {a w c : World} (h : Below B a w) (h2 : w.grownBy c (some b)) (hb : B ≤ b) (hs : B ≤ w.heap.size) : Below B a c :=
  h.grown h2 hs (fun k hk => by injection hk with hk; omega)
theorem Src.below {w w' : World} {b N : Nat} (h : Src w b N) (hb : Below w.heap.size w w') : Src w' b N := h.keep hb.size (fun k hk => hb.block k (Nat.lt_of_le_of_lt hk h.lt))
theorem OwnI.grown {w w' : World} {base b : Nat} {v : Value} {ds : List Int} (h : OwnI w base v ds) (hg : w.grownBy w' (some b)) (hb : b < base) : OwnI w' base v ds := by
  refine ⟨h.1, ?_⟩
  rcases h.2 with hn | ⟨g, cap, cur, rfl, hbg, hc, rest⟩
  · exact .inl hn
  · exact .inr ⟨g, cap, cur, rfl, hbg, by rw [hg.block g (Array.getElem?_eq_some_iff.1 hc).1 (fun e => by injection e with e; omega)]; exact hc, rest⟩
theorem ownI_lo {w : World} {base : Nat} {v : Value} {ds : List Int} (h : OwnI w base v ds) : ∀ k, v.ownBlock = some k → base ≤ k := by
  intro k hk
  rcases h.2 with ⟨rfl, -⟩ | ⟨g, cap, cur, rfl, hb, -⟩
  · simp [Value.ownBlock] at hk
  · simp only [Value.ownBlock, Option.some.injEq] at hk; omega
set_option maxHeartbeats 1600000 in
theorem pick_any (b N : Nat) (n : Int) (w : World) (h : Src w b N) (hN : N ≤ 999999) :
    Calls Tryd.prog 35 #[.pointer (some ⟨b, 0, none⟩), .int .i64 n] w fun e w' => ∃ x : Int, e = .returned (.int .i64 x) ∧ 0 ≤ x ∧ (x < n ∨ (n ≤ 1 ∧ x = 0)) ∧ Src w' b (N + 2) ∧ w.grownBy w' (some b) := by
  have H := Lib.hid h; clear h
  by_cases h1 : n ≤ 1
  · go_enter Tryd.func35, Tryd.ntmps35
    go_wp2
    go_ret
    exact ⟨0, rfl, by omega, .inr ⟨h1, rfl⟩, H.out.mono (by omega), gRefl _ _⟩
  · by_cases h2 : 200 < n
    · go_enter Tryd.func35, Tryd.ntmps35
      go_wp2_with fail
      refine (srcNext_any b N w H.out (by omega)).mono ?_; rintro e w1 ⟨x, rfl, x0, x1, hs1, hg1⟩
      have HS1 := Lib.hid hs1; clear hs1
      have HG1 := Lib.hid hg1; clear hg1
      go_wp2_with fail
      refine (srcNext_any b (N + 1) w1 HS1.out (by omega)).mono ?_; rintro e w2 ⟨y, rfl, y0, y1, hs2, hg2⟩
      have HS2 := Lib.hid hs2; clear hs2
      have HG2 := Lib.hid (gtrans HG1.out hg2); clear hg2
      go_wp2
      go_ret
      exact ⟨_, rfl, Int.emod_nonneg _ (by omega), .inl (Int.emod_lt_of_pos _ (by omega)), HS2.out, HG2.out⟩
    · go_enter Tryd.func35, Tryd.ntmps35
      go_wp2_with fail
      refine (srcNext_any b N w H.out (by omega)).mono ?_; rintro e w1 ⟨x, rfl, x0, x1, hs1, hg1⟩
      have HS1 := Lib.hid hs1; clear hs1
      have HG1 := Lib.hid hg1; clear hg1
      go_wp2
      go_ret
      exact ⟨_, rfl, Int.emod_nonneg _ (by omega), .inl (Int.emod_lt_of_pos _ (by omega)), HS1.out.mono (by omega), HG1.out⟩
set_option maxHeartbeats 800000 in
theorem one_any (b N : Nat) (n : Int) (w : World) (h : Src w b N) (hN : N ≤ 999999) :
    Calls Tryd.prog 38 #[.pointer (some ⟨b, 0, none⟩), .int .i64 n] w fun e w' => ∃ x : Bool, e = .returned (.bool x) ∧ Src w' b (N + 2) ∧ w.grownBy w' (some b) := by
  have H := Lib.hid h; clear h
  go_enter Tryd.func38, Tryd.ntmps38
  go_wp2_with fail
  refine (pick_any b N n w H.out hN).mono ?_; rintro e w1 ⟨x, rfl, x0, -, hs1, hg1⟩
  have HS1 := Lib.hid hs1; clear hs1
  have HG1 := Lib.hid hg1; clear hg1
  go_wp2
  go_ret
  exact ⟨_, rfl, HS1.out, HG1.out⟩
set_option maxHeartbeats 800000 in
theorem among_any (b N : Nat) (A : Option Addr) (n c : Nat) (ds : List Int) (w : World) (h : Src w b N) (hN : N ≤ 999999) (hr : RI w A n ds) (hA : ∀ ad, A = some ad → ad.block ≠ b) (hn0 : 0 < n) (hn : n ≤ 1000000) :
    Calls Tryd.prog 34 #[.pointer (some ⟨b, 0, none⟩), .slice A n c] w fun e w' => ∃ x : Int, e = .returned (.int .i64 x) ∧ x ∈ ds ∧ Src w' b (N + 2) ∧ w.grownBy w' (some b) := by
  have H := Lib.hid h; clear h
  go_enter Tryd.func34, Tryd.ntmps34
  go_wp2_with fail
  refine (pick_any b N n w H.out hN).mono ?_; rintro e w1 ⟨x, rfl, x0, xn, hs1, hg1⟩
  have HS1 := Lib.hid hs1; clear hs1
  have HG1 := Lib.hid hg1; clear hg1
  obtain ⟨j, rfl⟩ : ∃ j : Nat, x = j := ⟨x.toNat, by omega⟩
  have hjn : j < n := by omega
  obtain ⟨ad, hAd, hlt, hjl, hc⟩ := hr.at_ hjn
  have hc2 : w1.cell? (ad.add j) = some (.int .i64 ds[j]) := by
    rw [World.cell?_of_block (w := w) (by rw [block_of_add]; exact HG1.out.block _ hlt (fun e => by injection e with e; exact hA ad hAd e))]; exact hc
  have hi1 : (j : Int) < (n : Int) := by omega
  have HM := Lib.hid (List.getElem_mem hjl)
  subst hAd
  clear hc xn
  go_wp2
  go_ret
  exact ⟨_, rfl, HM.out, HS1.out, HG1.out⟩
set_option maxHeartbeats 800000 in
theorem l00From_any (A : Option Addr) (n c : Nat) (bs : List UInt8) (w : World) (hb : RB w A n bs) (hn : n ≤ 9223372036854775807) :
    Calls Tryd.prog 15 #[.slice A n c] w fun e w' => e = .returned (.pointer (some ⟨w.heap.size, 0, none⟩)) ∧ Src w' w.heap.size 0 ∧ Below w.heap.size w w' := by
  have HB := Lib.hid hb; clear hb
  go_enter Tryd.func15, Tryd.ntmps15
  go_wp2
  go_ret
  have hba : Below w.heap.size w (w.alloc (.cells #[.slice A n c, .int .i64 0, .int .u64 0] 76)) := (Below.refl _ _).alloc (Nat.le_refl _) _
  exact ⟨rfl, ⟨A, n, c, 0, 0, bs, by go_simp, by go_simp, by go_simp, by go_simp, by go_simp, HB.out.below hba, Nat.le_refl _, hn, (fun h0 ad e => by obtain ⟨ad', e', hl, -⟩ := HB.out.2 h0; rw [e] at e'; injection e' with e'; rw [e']; exact hl), by simp⟩, hba⟩
set_option maxRecDepth 100000 in
set_option maxHeartbeats 1600000 in
theorem l02DrawDigits_any (b N : Nat) (base : Int) (width : Nat) (w : World) (h : Src w b N) (hN : N + width * 4 ≤ 900000) (hb2 : 2 ≤ base) (hb16 : base ≤ 1000) (hw : width ≤ 1000) :
    Calls Tryd.prog 37 #[.pointer (some ⟨b, 0, none⟩), .int .i64 base, .int .i64 width] w fun e w' => ∃ A c ds, e = .returned (.slice A width c) ∧ OwnI w' w.heap.size (.slice A width c) ds ∧ ds.length = width ∧ (∀ d ∈ ds, 0 ≤ d ∧ d < base) ∧ Src w' b (N + width * 4) ∧ w.grownBy w' (some b) := by
  have H := Lib.hid h
  have hlt := h.lt
  clear h
  go_enter Tryd.func37, Tryd.ntmps37
  go_wp2_with fail
  go_loopw [8, 7] (fun kk out wr => ∃ (k : Nat) (ds : List Int), k ≤ width ∧ kk = .int .i64 k ∧ OwnI wr w.heap.size out ds ∧ ds.length = k ∧ (∀ d ∈ ds, 0 ≤ d ∧ d < base) ∧ Src wr b (N + k * 4) ∧ w.grownBy wr (some b)) (fun kk _ _ => width - (intOf kk).toNat)
  case atStart =>
    have hba : Below w.heap.size w (w.alloc (.cells #[] 2)) := (Below.refl _ _).alloc (Nat.le_refl _) _
    exact ⟨0, [], Nat.zero_le _, rfl, ⟨rfl, .inr ⟨w.heap.size, 0, #[], rfl, Nat.le_refl _, heap_alloc_new _ _, Nat.le_refl _, by decide, rfl, rfl⟩⟩, rfl, (fun d hd => by cases hd), by simpa using H.out.below hba, ofBelow hba _⟩
  case round =>
    obtain ⟨k, ds, hk, rfl, hown, hlen, hds, hsr, hg⟩ := hrel
    have HO := Lib.hid hown
    have HD := Lib.hid hds
    have HS := Lib.hid hsr
    have HG := Lib.hid hg
    have HL := Lib.hid hlen
    have hwz := hg.size
    clear hown hds hsr hg hlen
    by_cases hkn : k < width
    · have hi1 : (k : Int) < (width : Int) := by omega
      go_wp2_with fail
      refine (pick_any b _ base wr HS.out (by omega)).mono ?_; rintro e w1 ⟨x, rfl, x0, xn, hs1, hg1⟩
      have HS1 := Lib.hid hs1
      have HG1 := Lib.hid (gtrans HG.out hg1)
      have HO1 := Lib.hid (HO.out.grown hg1 hlt)
      have hz1 := hg1.size
      have hxb : x < base := by omega
      clear hs1 hg1 xn
      go_wp2_with fail
      refine (one_any b _ 3 w1 HS1.out (by omega)).mono ?_; rintro e w2 ⟨y, rfl, hs2, hg2⟩
      have HS2 := Lib.hid hs2
      have HG2 := Lib.hid (gtrans HG1.out hg2)
      have HO2 := Lib.hid (HO1.out.grown hg2 hlt)
      have hz2 := hg2.size
      have hlen := HL.out
      clear hs2 hg2
      cases y
      · have HOB := Lib.hid (HO2.out.below ((Below.refl _ _).alloc (Nat.le_refl _) (.cells #[.int .i64 x] 2)))
        have hgb := gBelow HG2.out ((Below.refl _ _).alloc (Nat.le_refl _) (.cells #[.int .i64 x] 2))
        have hsb := HS2.out.below ((Below.refl _ _).alloc (Nat.le_refl _) (.cells #[.int .i64 x] 2))
        have HGB := Lib.hid hgb; clear hgb
        have HSB := Lib.hid hsb; clear hsb
        go_wp2_with (at_builtin; refine app1I rfl _ _ rfl w.heap.size _ ds rfl HOB.out w2.heap.size x rfl (heap_alloc_new _ _) (by omega) (by simp; omega) ?_; intro v5 w6 hown5 hg5 hv5)
        have hlo := ownI_lo HOB.out
        have HGF := Lib.hid (gMore HGB.out hg5 hlo)
        have HSF := Lib.hid ((HSB.out.keep hg5.size (fun k hk => hg5.block k (by simp; omega) (fun e => by have := hlo k e.symm; omega))).mono (show N + k * 4 + 2 + 2 ≤ N + (k + 1) * 4 by omega))
        have HOF := Lib.hid hown5; clear hown5
        go_roundw
        case rel => exact ⟨k + 1, ds ++ [x], by omega, by go_num, HOF.out, by rw [List.length_append, HL.out]; rfl, fun d hd => by
          rcases List.mem_append.1 hd with hd | hd
          · exact HD.out d hd
          · rw [List.mem_singleton.1 hd]; omega, HSF.out, HGF.out⟩
        case measure => simp [intOf]; omega
      · have HOB := Lib.hid (HO2.out.below ((Below.refl _ _).alloc (Nat.le_refl _) (.cells #[.int .i64 (base - 1)] 2)))
        have hgb := gBelow HG2.out ((Below.refl _ _).alloc (Nat.le_refl _) (.cells #[.int .i64 (base - 1)] 2))
        have hsb := HS2.out.below ((Below.refl _ _).alloc (Nat.le_refl _) (.cells #[.int .i64 (base - 1)] 2))
        have HGB := Lib.hid hgb; clear hgb
        have HSB := Lib.hid hsb; clear hsb
        go_wp2_with (at_builtin; refine app1I rfl _ _ rfl w.heap.size _ ds rfl HOB.out w2.heap.size (base - 1) rfl (heap_alloc_new _ _) (by omega) (by simp; omega) ?_; intro v5 w6 hown5 hg5 hv5)
        have hlo := ownI_lo HOB.out
        have HGF := Lib.hid (gMore HGB.out hg5 hlo)
        have HSF := Lib.hid ((HSB.out.keep hg5.size (fun k hk => hg5.block k (by simp; omega) (fun e => by have := hlo k e.symm; omega))).mono (show N + k * 4 + 2 + 2 ≤ N + (k + 1) * 4 by omega))
        have HOF := Lib.hid hown5; clear hown5
        go_roundw
        case rel => exact ⟨k + 1, ds ++ [(base - 1)], by omega, by go_num, HOF.out, by rw [List.length_append, HL.out]; rfl, fun d hd => by
          rcases List.mem_append.1 hd with hd | hd
          · exact HD.out d hd
          · rw [List.mem_singleton.1 hd]; omega, HSF.out, HGF.out⟩
        case measure => simp [intOf]; omega
    · have HK : Hid (k = width) := by simp only [Hid]; omega
      obtain ⟨AO, cO, rfl, -⟩ := HO.out.reads
      have HE : Hid (ds.length = width) := by simp only [Hid]; have := HL.out; have := HK.out; omega
      have HOW : Hid (OwnI wr w.heap.size (.slice AO width cO) ds) := by have h := HO.out; rw [HE.out] at h; exact h
      have HSF : Hid (Src wr b (N + width * 4)) := HS.out.mono (by have := HK.out; omega)
      rw [HE.out]
      go_wp2
      go_ret
      exact ⟨AO, cO, ds, rfl, HOW.out, HE.out, HD.out, HSF.out, HG.out⟩
end Go.Proofs.YtmmiahgmdllgdaaDoor

namespace Go.Proofs.YtmmiahgmdllgdaaDoor
open Go.RowKit Go.Sort
/-- w with its first n blocks alone -/
def trunc (w : World) (n : Nat) : World := { w with heap := w.heap.extract 0 n }
theorem trunc_size {w : World} {n : Nat} (h : n ≤ w.heap.size) : (trunc w n).heap.size = n := by
  simp only [trunc, Array.size_extract]; omega
theorem trunc_get {w : World} {n k : Nat} (h : n ≤ w.heap.size) (hk : k < n) : (trunc w n).heap[k]? = w.heap[k]? := by
  simp only [trunc, Array.getElem?_extract, Nat.sub_zero, Nat.zero_add]
  rw [if_pos (by omega)]
theorem trunc_below {w : World} {n : Nat} (h : n ≤ w.heap.size) : Below (trunc w n).heap.size (trunc w n) w := by
  rw [trunc_size h]
  exact ⟨rfl, rfl, rfl, by rw [trunc_size h]; exact h, fun k hk => (trunc_get h hk).symm⟩
/-- v is w with block b turned -/
def Tw (b : Nat) (w v : World) : Prop := w.grownBy v (some b) ∧ v.heap.size = w.heap.size
theorem Tw.refl (b : Nat) (w : World) : Tw b w w := ⟨gRefl w _, rfl⟩
theorem Tw.of {b : Nat} {w w' : World} (h : w.grownBy w' (some b)) : Tw b w (trunc w' w.heap.size) :=
  ⟨⟨h.os, h.tape, h.output, by rw [trunc_size h.size]; exact Nat.le_refl _, fun k hk hne => (trunc_get h.size hk).trans (h.block k hk hne)⟩, trunc_size h.size⟩
theorem Src.trunc {b N : Nat} {w : World} {n : Nat} (h : Src w b N) (hb : b < n) (hn : n ≤ w.heap.size) : Src (trunc w n) b N := by
  obtain ⟨A, m, c, k, seed, bs, c0, c1, c2, f1, f2, hB, hkN, hm, hne, hlt⟩ := h
  have hbl : ∀ k, k ≤ b → (Go.Proofs.YtmmiahgmdllgdaaDoor.trunc w n).heap[k]? = w.heap[k]? := fun k hk => trunc_get hn (by omega)
  have hcell : ∀ o, (Go.Proofs.YtmmiahgmdllgdaaDoor.trunc w n).cell? ⟨b, o, none⟩ = w.cell? ⟨b, o, none⟩ := fun o => World.cell?_of_block (hbl b (Nat.le_refl _))
  have hfz : ∀ o, (Go.Proofs.YtmmiahgmdllgdaaDoor.trunc w n).frozen? ⟨b, o, none⟩ = w.frozen? ⟨b, o, none⟩ := fun o => World.frozen?_of_block (hbl b (Nat.le_refl _))
  refine ⟨A, m, c, k, seed, bs, by rw [hcell]; exact c0, by rw [hcell]; exact c1, by rw [hcell]; exact c2, by rw [hfz]; exact f1, by rw [hfz]; exact f2, ⟨hB.1, fun h0 => ?_⟩, hkN, hm, hne, by rw [trunc_size hn]; exact hb⟩
  obtain ⟨ad, e, hl, hc⟩ := hB.2 h0
  have hab := hne h0 ad e
  refine ⟨ad, e, by rw [trunc_size hn]; omega, fun j u hu => ?_⟩
  rw [World.cell?_of_block (w := w) (by rw [block_of_add]; exact hbl _ (by omega))]
  exact hc j u hu
/-- what a draw leaves: the source's block is turned, and the call owns the things of m -/
def DR (b N : Nat) (w : World) (m : List Ent) (w' : World) : Prop := ∃ v, Tw b w v ∧ Src v b N ∧ Kn v m w'
theorem DR.src {b N : Nat} {w : World} {m : List Ent} {w' : World} (h : DR b N w m w') : Src w' b N := by
  obtain ⟨v, -, hS, hK⟩ := h
  exact hS.below hK.below
theorem DR.of {b N : Nat} {w w' : World} (hs : Src w' b N) (hg : w.grownBy w' (some b)) (hb : b < w.heap.size) : DR b N w [] w' :=
  ⟨_, Tw.of hg, hs.trunc hb hg.size, (Kn.nil _).keep (trunc_below hg.size)⟩
theorem DR.nil {b N : Nat} {w : World} (hs : Src w b N) : DR b N w [] w := ⟨w, Tw.refl b w, hs, Kn.nil w⟩
theorem DR.mono {b N M : Nat} {w w' : World} {m : List Ent} (h : DR b N w m w') (hm : N ≤ M) : DR b M w m w' := by
  obtain ⟨v, hT, hS, hK⟩ := h
  exact ⟨v, hT, hS.mono hm, hK⟩
theorem DR.kn {b N : Nat} {w w' : World} {m m' : List Ent} (h : DR b N w m w') {w2 : World} (f : ∀ v, Kn v m w' → Kn v m' w2) : DR b N w m' w2 := by
  obtain ⟨v, hT, hS, hK⟩ := h
  exact ⟨v, hT, hS, f v hK⟩
theorem Kn.tw {b : Nat} {w v : World} {m : List Ent} {wi wi' : World} (hT : Tw b w v) (hK : Kn v m wi) (hb : b < w.heap.size) (hg : wi.grownBy wi' (some b)) : Tw b w (trunc wi' w.heap.size) ∧ Kn (trunc wi' w.heap.size) m wi' := by
  have hs : w.heap.size ≤ wi.heap.size := by have := hK.size; rw [hT.2] at this; exact this
  have hs' : w.heap.size ≤ wi'.heap.size := Nat.le_trans hs hg.size
  have hbw := hK.below
  refine ⟨⟨⟨hg.os.trans (hbw.os.trans hT.1.os), hg.tape.trans (hbw.tape.trans hT.1.tape), hg.output.trans (hbw.output.trans hT.1.output), by rw [trunc_size hs']; exact Nat.le_refl _, fun k hk hne => ?_⟩, trunc_size hs'⟩, trunc_below hs', fun e he => ?_, fun e he k hk => ?_, hK.apart⟩
  · rw [trunc_get hs' hk, hg.block k (by omega) hne, hbw.block k (by rw [hT.2]; exact hk)]
    exact hT.1.block k hk hne
  · refine Ent.stable (hK.ents e he) hg.size (fun k hk => hg.block k (Ent.lt (hK.ents e he) hk) (fun h2 => ?_))
    have h3 := hK.own e he k hk
    rw [hT.2] at h3
    injection h2 with h2
    omega
  · rw [trunc_size hs']
    have h3 := hK.own e he k hk
    rw [hT.2] at h3
    exact h3
theorem Tw.grown {b : Nat} {w v : World} (h : Tw b w v) : w.grownBy v (some b) := h.1
/-- one draw behind another -/
theorem DR.join {b N M : Nat} {w wi w' : World} {m m' : List Ent} (h : DR b N w m wi) (h1 : DR b M wi m' w') (hb : b < w.heap.size) : DR b M w (m' ++ m) w' := by
  obtain ⟨v, hT, hS, hK⟩ := h
  obtain ⟨v1, hT1, hS1, hK1⟩ := h1
  have hs : w.heap.size ≤ wi.heap.size := by have := hK.size; rw [hT.2] at this; exact this
  have hs1 : w.heap.size ≤ v1.heap.size := by rw [hT1.2]; exact hs
  obtain ⟨h2, h3⟩ := hK.tw hT hb hT1.1
  exact ⟨_, h2, hS1.trunc hb hs1, h3.join hK1⟩
/-- a source of the call's own -/
theorem Kn.ofDR {w w1 w2 : World} {b N : Nat} {m : List Ent} (hb : Below w.heap.size w w1) (hlo : w.heap.size ≤ b) (h : DR b N w1 m w2) : Kn w m w2 := by
  obtain ⟨v, hT, -, hK⟩ := h
  exact hK.mono (belowG hb hT.1 hlo hb.size)
theorem pick_dr (b N : Nat) (n : Int) (w : World) (h : Src w b N) (hN : N ≤ 999999) :
    Calls Tryd.prog 35 #[.pointer (some ⟨b, 0, none⟩), .int .i64 n] w fun e w' => ∃ x : Int, e = .returned (.int .i64 x) ∧ (0 ≤ x ∧ (x < n ∨ (n ≤ 1 ∧ x = 0))) ∧ DR b (N + 2) w [] w' := by
  refine (pick_any b N n w h hN).mono ?_
  rintro e w' ⟨x, rfl, h0, h1, hs, hg⟩
  exact ⟨x, rfl, ⟨h0, h1⟩, .of hs hg h.lt⟩
theorem one_dr (b N : Nat) (n : Int) (w : World) (h : Src w b N) (hN : N ≤ 999999) :
    Calls Tryd.prog 38 #[.pointer (some ⟨b, 0, none⟩), .int .i64 n] w fun e w' => ∃ x : Bool, e = .returned (.bool x) ∧ DR b (N + 2) w [] w' := by
  refine (one_any b N n w h hN).mono ?_
  rintro e w' ⟨x, rfl, hs, hg⟩
  exact ⟨x, rfl, .of hs hg h.lt⟩
theorem among_dr (b N : Nat) (A : Option Addr) (n c : Nat) (ds : List Int) (w : World) (h : Src w b N) (hN : N ≤ 999999) (hr : RI w A n ds) (hA : ∀ ad, A = some ad → ad.block ≠ b) (hn0 : 0 < n) (hn : n ≤ 1000000) :
    Calls Tryd.prog 34 #[.pointer (some ⟨b, 0, none⟩), .slice A n c] w fun e w' => ∃ x : Int, e = .returned (.int .i64 x) ∧ x ∈ ds ∧ DR b (N + 2) w [] w' := by
  refine (among_any b N A n c ds w h hN hr hA hn0 hn).mono ?_
  rintro e w' ⟨x, rfl, hx, hs, hg⟩
  exact ⟨x, rfl, hx, .of hs hg h.lt⟩
theorem digits_dr (b N : Nat) (base : Int) (width : Nat) (w : World) (h : Src w b N) (hN : N + width * 4 ≤ 900000) (hb2 : 2 ≤ base) (hb16 : base ≤ 1000) (hw : width ≤ 1000) :
    Calls Tryd.prog 37 #[.pointer (some ⟨b, 0, none⟩), .int .i64 base, .int .i64 width] w fun e w' => ∃ A c ds, e = .returned (.slice A width c) ∧ ds.length = width ∧ (∀ d ∈ ds, 0 ≤ d ∧ d < base) ∧ DR b (N + width * 4) w [rowI A c ds] w' := by
  refine (l02DrawDigits_any b N base width w h hN hb2 hb16 hw).mono ?_
  rintro e w' ⟨A, c, ds, rfl, ho, hl, hd, hs, hg⟩
  refine ⟨A, c, ds, rfl, hl, hd, _, Tw.of hg, hs.trunc h.lt hg.size, ?_⟩
  have hk := (Kn.nil (trunc w' w.heap.size)).addI (trunc_below hg.size) (by rw [trunc_size hg.size]; exact ho)
  rw [← hl] at hk
  exact hk
end Go.Proofs.YtmmiahgmdllgdaaDoor

namespace Go.Proofs.YtmmiahgmdllgdaaDoor
open Go.RowKit Go.Sort
section
variable {b N : Nat} {w wi : World} {m : List Ent}
theorem DR.al (h : DR b N w m wi) (l : List Value) (T : TypeId) : DR b N w (.blk wi.heap.size l T :: m) (wi.alloc (.cells l.toArray T)) := h.kn (fun _ hK => hK.al l T)
theorem DR.al_ (h : DR b N w m wi) (o : Obj) : DR b N w m (wi.alloc o) := h.kn (fun _ hK => hK.al_ o)
theorem DR.st {g : Nat} {l : List Value} {T : TypeId} (h : DR b N w (.blk g l T :: m) wi) (j : Nat) (v : Value) : DR b N w (.blk g (l.set j v) T :: m) (wi.setCell ⟨g, j, none⟩ v) := h.kn (fun _ hK => hK.st j v)
theorem DR.drew (h : DR b N w m wi) : DR b N w m wi.drew := h.kn (fun _ hK => hK.drew)
theorem DR.front (h : DR b N w m wi) (i : Nat) {e : Ent} (hi : m[i]? = some e) : DR b N w (e :: m.eraseIdx i) wi := h.kn (fun _ hK => hK.front i hi)
theorem DR.sel (h : DR b N w m wi) (is : List Nat) (n : Nat) (h1 : is.Nodup) (h2 : ∀ i ∈ is, i < n) : DR b N w (is.filterMap (fun i => m[i]?) ++ m.drop n) wi := h.kn (fun _ hK => hK.sel is n h1 h2)
theorem DR.cells (h : DR b N w m wi) : Cells m wi := by
  obtain ⟨v, -, -, hK⟩ := h
  exact hK.cells
theorem DR.lt (h : DR b N w m wi) : b < w.heap.size := by
  obtain ⟨v, hT, hS, -⟩ := h
  have := hS.lt
  rw [hT.2] at this
  exact this
theorem DR.add (h : DR b N w m wi) {M : Nat} {w' : World} {m' : List Ent} (h1 : DR b M wi m' w') : DR b M w (m' ++ m) w' := h.join h1 h.lt
theorem DR.keep (h : DR b N w m wi) {w' : World} (hb : Below wi.heap.size wi w') : DR b N w m w' := h.kn (fun _ hK => hK.keep hb)
theorem DR.box2 {g : Nat} {v0 v1 : Value} {T : TypeId} (h : DR b N w (.blk g [v0, v1] T :: m) wi) : wi.cell? ⟨g, 0, none⟩ = some v0 ∧ wi.cell? ⟨g, 1, none⟩ = some v1 := by
  obtain ⟨v, -, -, hK⟩ := h
  exact Go.Proofs.YtmmiahgmdllgdaaDoor.box2 hK
theorem Calls.dr {P : Program} {f : FuncId} {args : Array Value} {R : Ending → World → Prop} (h : DR b N w m wi) (k : ∀ W, DR b N w m W → Calls P f args W R) : Calls P f args wi R := k wi h
theorem Code.wp.dr {P : Program} {c : Code} {Q : Exit → Act → World → Prop} {a : Act} (h : DR b N w m wi) (k : ∀ W, DR b N w m W → c.wp P Q a W) : c.wp P Q a wi := k wi h
theorem bodyPost.dr {P : Program} {f : Func} {R : Ending → World → Prop} {x : Exit} {a : Act} (h : DR b N w m wi) (k : ∀ W, DR b N w m W → bodyPost P f R x a W) : bodyPost P f R x a wi := k wi h
end
theorem DR.lit {b N : Nat} {w wi : World} {m : List Ent} {g : Nat} {ds : List Int} (h : DR b N w (.blk g (ds.map (Value.int .i64)) 2 :: m) wi) (hd : ds.length ≤ 1000) :
    RI wi (some ⟨g, 0, none⟩) ds.length ds ∧ (∀ ad, some (⟨g, 0, none⟩ : Addr) = some ad → ad.block ≠ b) := by
  obtain ⟨v, -, hS, hK⟩ := h
  have hb := hS.lt
  have ho := hK.own _ (List.mem_cons_self ..) g rfl
  have hr : Kn v (rowI (some ⟨g, 0, none⟩) ds.length ds :: m) wi := hK.litRow (size := 1) (n := ds.length) (by simp) (by unfold maxLen; omega)
  refine ⟨Kn.riv hr, fun ad he => ?_⟩
  injection he with he
  subst he
  show g ≠ b
  omega
end Go.Proofs.YtmmiahgmdllgdaaDoor

namespace Go.Proofs.YtmmiahgmdllgdaaDoor
open Go.RowKit Go.Sort
instance : Inhabited RS := ⟨⟨default, [], 0, 0⟩⟩
/-- where a run ends -/
noncomputable def endR (L : List Ins) (t : Tri) : RS := Classical.epsilon (fun s' => ∃ b', Ev L (.run 0 L.length) (startR t) s' b')
theorem endR_eq {L : List Ins} {t : Tri} {s' : RS} {b' : Bool} (h : Ev L (.run 0 L.length) (startR t) s' b') : endR L t = s' := by
  obtain ⟨b2, h2⟩ := Classical.epsilon_spec (p := fun s' => ∃ b', Ev L (.run 0 L.length) (startR t) s' b') ⟨s', b', h⟩
  exact (h2.one h).1
noncomputable def rpC (L : List Ins) (t : Tri) : Int := if vmach t && vprog L then (endR L t).code else 1
noncomputable def rpM (L : List Ins) (t : Tri) : Tri := if rpC L t = 0 ∧ vmach (endR L t).m = true then (endR L t).m else zTri
noncomputable def rpT (L : List Ins) (t : Tri) : List Int := if rpC L t = 0 ∧ (endR L t).tr.length ≤ 3001 then (endR L t).tr else []
theorem rp_bad {L : List Ins} {t : Tri} (h : (vmach t && vprog L) = false) : rpC L t = 1 ∧ rpM L t = zTri ∧ rpT L t = [] := by
  have h1 : rpC L t = 1 := by unfold rpC; rw [h]; rfl
  refine ⟨h1, ?_, ?_⟩
  · unfold rpM; rw [h1, if_neg (fun h => absurd h.1 (by decide))]
  · unfold rpT; rw [h1, if_neg (fun h => absurd h.1 (by decide))]
theorem rp_code {L : List Ins} {t : Tri} (h1 : vmach t = true) (h2 : vprog L = true) {s' : RS} {b' : Bool} (h : Ev L (.run 0 L.length) (startR t) s' b') (hc : ¬ s'.code = 0) : rpC L t = s'.code ∧ rpM L t = zTri ∧ rpT L t = [] := by
  have h3 : rpC L t = s'.code := by unfold rpC; rw [h1, h2, endR_eq h]; rfl
  refine ⟨h3, ?_, ?_⟩
  · unfold rpM; rw [h3, if_neg (fun h => hc h.1)]
  · unfold rpT; rw [h3, if_neg (fun h => hc h.1)]
theorem rp_fine {L : List Ins} {t : Tri} (h1 : vmach t = true) (h2 : vprog L = true) {s' : RS} {b' : Bool} (h : Ev L (.run 0 L.length) (startR t) s' b') (hg : s'.Good) (hc : s'.code = 0) : rpC L t = 0 ∧ rpM L t = s'.m ∧ rpT L t = s'.tr := by
  have h3 : rpC L t = 0 := by unfold rpC; rw [h1, h2, endR_eq h]; exact hc
  refine ⟨h3, ?_, ?_⟩
  · unfold rpM; rw [h3, endR_eq h, if_pos ⟨rfl, hg.m⟩]
  · unfold rpT; rw [h3, endR_eq h, if_pos ⟨rfl, by have := hg.tr; have := hg.top; omega⟩]
theorem rpM_len (L : List Ins) (t : Tri) : (rpM L t).a.digits.length ≤ 16 ∧ (rpM L t).b.digits.length ≤ 16 ∧ (rpM L t).s.digits.length ≤ 16 := by
  unfold rpM
  split
  · rename_i h
    have := sized_of h.2
    exact ⟨this.a, this.b, this.s⟩
  · simp [zTri]
theorem rpT_len (L : List Ins) (t : Tri) : (rpT L t).length ≤ 3001 := by
  unfold rpT
  split
  · rename_i h; exact h.2
  · simp
/-- what RunProgram returns -/
def RPRet (L : List Ins) (t : Tri) (w : World) (e : Ending) (w' : World) : Prop := ∃ A1 c1 A2 c2 A3 c3, e = .returned (.tuple #[.agg #[.int .i64 (rpM L t).a.base, .slice A1 (rpM L t).a.digits.length c1, .int .i64 (rpM L t).b.base, .slice A2 (rpM L t).b.digits.length c2, .int .i64 (rpM L t).s.base, .slice A3 (rpM L t).s.digits.length c3, .int .i64 (rpM L t).carry], .int .i64 ((rpT L t).length : Int), .int .i64 (rpC L t)]) ∧
  Kn w [rowI A3 c3 (rpM L t).s.digits, rowI A2 c2 (rpM L t).b.digits, rowI A1 c1 (rpM L t).a.digits] w'
/-- what TraceProgram returns -/
def TPRet (L : List Ins) (t : Tri) (w : World) (e : Ending) (w' : World) : Prop := ∃ A c, e = .returned (.tuple #[.slice A (rpT L t).length c, .int .i64 (rpC L t)]) ∧ Kn w [rowI A c (rpT L t)] w'
end Go.Proofs.YtmmiahgmdllgdaaDoor

/- rows of instructions -/
namespace Go.Proofs.YtmmiahgmdllgdaaDoor
open Go.RowKit Go.Sort
def cellsIns (xs : List Ins) : List Value := xs.flatMap fun x => [.int .i64 x.op, .int .i64 x.arg]
theorem cellsIns_len (xs : List Ins) : (cellsIns xs).length = xs.length * 2 := by
  induction xs with
  | nil => rfl
  | cons x xs ih => unfold cellsIns at *; rw [List.flatMap_cons, List.length_append, ih]; simp; omega
theorem cellsIns_snoc (xs : List Ins) (x : Ins) : cellsIns (xs ++ [x]) = cellsIns xs ++ [.int .i64 x.op, .int .i64 x.arg] := by simp [cellsIns]
theorem cellsIns_get : ∀ (xs : List Ins) (k : Nat) (h : k < xs.length), (cellsIns xs)[k * 2]? = some (.int .i64 xs[k].op) ∧ (cellsIns xs)[k * 2 + 1]? = some (.int .i64 xs[k].arg)
  | [], k, h => by simp at h
  | x :: xs, 0, h => by simp [cellsIns]
  | x :: xs, k + 1, h => by
    have h1 := cellsIns_get xs k (by simpa using h)
    have h2 : cellsIns (x :: xs) = .int .i64 x.op :: .int .i64 x.arg :: cellsIns xs := by simp [cellsIns]
    rw [h2, show (k + 1) * 2 = k * 2 + 1 + 1 by omega]
    simp only [List.getElem?_cons_succ, List.getElem_cons_succ]
    exact h1
theorem cellsIns_one (xs : List Ins) : ∀ u ∈ cellsIns xs, u.oneCell' = true := by
  intro u hu
  obtain ⟨x, -, h⟩ := List.mem_flatMap.1 hu
  simp at h
  rcases h with rfl | rfl <;> rfl
end Go.Proofs.YtmmiahgmdllgdaaDoor

namespace Go.Proofs.YtmmiahgmdllgdaaDoor
open Go.RowKit Go.Sort
theorem cellsIns_app (xs ys : List Ins) : cellsIns (xs ++ ys) = cellsIns xs ++ cellsIns ys := by simp [cellsIns]
/-- the program that divides -/
def divHead (p : Nat) : List Ins := if 1 < p then [⟨4, (p : Int) - 1⟩] else []
def divPart (p j : Nat) : List Ins := [⟨9, 0⟩, ⟨3, 1⟩, ⟨10, 0⟩, ⟨2, 1⟩] ++ (if j + 1 < p then [⟨5, 1⟩] else [])
def divUpto (p : Nat) : Nat → List Ins
  | 0 => divHead p
  | j + 1 => divUpto p j ++ divPart p j
def divProg (p : Nat) : List Ins := divUpto p p
theorem divUpto_len (p j : Nat) : (divUpto p j).length ≤ 1 + 5 * j := by
  induction j with
  | zero => simp only [divUpto, divHead]; split <;> simp
  | succ j ih => simp only [divUpto, divPart, List.length_append]; split <;> simp <;> omega
theorem divProg_ok {p : Nat} (h1 : 1 ≤ p) (h2 : p ≤ 16) : vprog (divProg p) = true := by
  have H : ∀ p : Fin 17, 1 ≤ p.val → vprog (divProg p.val) = true := by decide +kernel
  exact H ⟨p, by omega⟩ h1
end Go.Proofs.YtmmiahgmdllgdaaDoor

namespace Go.Proofs.YtmmiahgmdllgdaaDoor
open Go.RowKit Go.Sort
/-- a fresh machine of a base and widths -/
def newT (b : Int) (n1 n2 n3 : Nat) : Tri := ⟨⟨b, digD b n1 0⟩, ⟨b, digD b n2 0⟩, ⟨b, digD b n3 0⟩, 0⟩
set_option maxRecDepth 100000 in
set_option maxHeartbeats 1600000 in
theorem l10New_any (b : Int) (n1 n2 n3 : Nat) (w : World) (b1 : 2 ≤ b) (b2 : b ≤ 16) (h1 : n1 ≤ 1000000) (h2 : n2 ≤ 1000000) (h3 : n3 ≤ 1000000) :
    Calls Tryd.prog 36 #[.int .i64 b, .int .i64 n1, .int .i64 n2, .int .i64 n3] w fun e w' => ∃ E1 g1 E2 g2 E3 g3, e = .returned (.agg #[.int .i64 b, .slice E1 (digD b n1 0).length g1, .int .i64 b, .slice E2 (digD b n2 0).length g2, .int .i64 b, .slice E3 (digD b n3 0).length g3, .int .i64 0]) ∧
      Kn w [rowI E3 g3 (digD b n3 0), rowI E2 g2 (digD b n2 0), rowI E1 g1 (digD b n1 0)] w' := by
  have K1 := (fun W => l02NewV_any b n1 0 W b1 b2 h1 (by decide) (by decide))
  have K2 := (fun W => l02NewV_any b n2 0 W b1 b2 h2 (by decide) (by decide))
  have K3 := (fun W => l02NewV_any b n3 0 W b1 b2 h3 (by decide) (by decide))
  obtain ⟨x1, hx1⟩ : ∃ x, digD b n1 0 = x := ⟨_, rfl⟩
  obtain ⟨x2, hx2⟩ : ∃ x, digD b n2 0 = x := ⟨_, rfl⟩
  obtain ⟨x3, hx3⟩ : ∃ x, digD b n3 0 = x := ⟨_, rfl⟩
  rw [hx1] at K1 ⊢
  rw [hx2] at K2 ⊢
  rw [hx3] at K3 ⊢
  have K1 := Lib.hid K1
  have K2 := Lib.hid K2
  have K3 := Lib.hid K3
  clear hx1 hx2 hx3
  go_enter Tryd.func36, Tryd.ntmps36
  go_wp2_with fail
  refine Calls.kn ((Kn.nil w).al [.int .i64 0, .slice none 0 0, .int .i64 0, .slice none 0 0, .int .i64 0, .slice none 0 0, .int .i64 0] 28) ?_; intro w1 hK1
  (with_reducible refine (K1.out _).mono ?_); rintro e w2 ⟨E1, g1, rfl, hKn⟩
  have hK2 := hK1.join hKn
  go_wp2_with fail
  refine Calls.kn (hK2.al [.int .i64 b, .slice E1 x1.length g1] 26) ?_; intro w3 hK3
  (with_reducible refine (K2.out _).mono ?_); rintro e w4 ⟨E2, g2, rfl, hKm⟩
  have hK4 := hK3.join hKm
  go_wp2_with fail
  refine Calls.kn (hK4.al [.int .i64 b, .slice E2 x2.length g2] 26) ?_; intro w5 hK5
  (with_reducible refine (K3.out _).mono ?_); rintro e w6 ⟨E3, g3, rfl, hKo⟩
  have hK6 := hK5.join hKo
  clear hK1 hK2 hK3 hK4 hK5 hKn hKm hKo
  obtain ⟨a1, a2, a3, d1, d2, d3, c1, c2, c3, -⟩ := hK6.cells
  go_wp2_with fail
  refine bodyPost.kn ((((((((hK6.front 5 rfl).st 0 (.int .i64 b)).st 1 (.slice E1 x1.length g1)).st 2 (.int .i64 b)).st 3 (.slice E2 x2.length g2)).st 4 (.int .i64 b)).st 5 (.slice E3 x3.length g3)).st 6 (.int .i64 0) |>.al_ _) ?_; intro w7 hK7
  clear a1 a2 a3 d1 d2 d3 c1 c2 c3
  obtain ⟨a1, a2, a3, -⟩ := hK7.cells
  refine bodyPost_ret (v := .agg #[.int .i64 b, .slice E1 x1.length g1, .int .i64 b, .slice E2 x2.length g2, .int .i64 b, .slice E3 x3.length g3, .int .i64 0]) (by simp [results, Tryd.results36, go_sem, a1]) rfl ⟨E1, g1, E2, g2, E3, g3, rfl, ?_⟩
  exact hK7.sel [1, 3, 5] 99 (by decide) (by decide)
end Go.Proofs.YtmmiahgmdllgdaaDoor
