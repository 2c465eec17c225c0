import Derived.Test.YtcngeifkddhkmaaKn
import Derived.Test.YtcngeifkddhkmaaR7
namespace Go.Proofs.Ytcngeifkddhkmaa
open Go.RowKit Go.Sort
structure Ins where
  op : Int
  arg : Int
deriving DecidableEq
def InsM (w : World) (p : Addr) (x : Ins) : Prop := w.cell? p = some (.int .i64 x.op) ∧ w.cell? ⟨p.block, p.off + 1, none⟩ = some (.int .i64 x.arg)
theorem steady_InsM : Steady InsM := by
  rintro w w' p f hp hb ⟨h1, h2⟩
  exact ⟨by rw [hb.cell hp]; exact h1, by rw [hb.cell (by exact hp)]; exact h2⟩
def instrOk (op arg : Int) : Bool := if op = 1 then betB arg 0 1000000000000 else if op = 2 ∨ op = 3 ∨ op = 4 ∨ op = 5 ∨ op = 8 then betB arg 1 100 else if op = 6 ∨ op = 7 ∨ op = 9 ∨ op = 10 then arg == 0 else false
def opens (op : Int) : Bool := op == 8 || op == 9
/-- how many loops are open behind an instruction; none where it does not fit -/
def depthStep (op d : Int) : Option Int := if op = 10 then (if d = 0 then none else some (d - 1)) else if opens op then (if d = 4 then none else some (d + 1)) else some d
def stepI (d : Option Int) (x : Ins) : Option Int := d.bind fun d => if instrOk x.op x.arg then depthStep x.op d else none
def progD (xs : List Ins) : Option Int := xs.foldl stepI (some 0)
def vprog (xs : List Ins) : Bool := decide (progD xs = some 0) && decide (xs.length ≤ 120)
theorem progD_succ {xs : List Ins} {k : Nat} (h : k < xs.length) : progD (xs.take (k + 1)) = stepI (progD (xs.take k)) xs[k] := by
  unfold progD; rw [List.take_succ_eq_append_getElem h, List.foldl_append]; rfl
theorem stepI_none (xs : List Ins) : xs.foldl stepI none = none := by
  induction xs with
  | nil => rfl
  | cons x xs ih => exact ih
theorem progD_none {xs : List Ins} {k : Nat} (h : progD (xs.take k) = none) : progD xs = none := by
  unfold progD at *
  rw [← List.take_append_drop k xs, List.foldl_append, h, stepI_none]
theorem depthStep_bd {op d e : Int} (h : depthStep op d = some e) (h0 : 0 ≤ d) (h4 : d ≤ 4) : 0 ≤ e ∧ e ≤ 4 := by
  unfold depthStep at h
  split at h
  · split at h
    · cases h
    · injection h with h; omega
  · split at h
    · split at h
      · cases h
      · injection h with h; omega
    · injection h with h; omega
theorem op_cases (op : Int) : op = 1 ∨ op = 2 ∨ op = 3 ∨ op = 4 ∨ op = 5 ∨ op = 6 ∨ op = 7 ∨ op = 8 ∨ op = 9 ∨ op = 10 ∨ (op < 1 ∨ 10 < op) := by omega
theorem op_else {op : Int} (h : op < 1 ∨ 10 < op) : (op == 1) = false ∧ (op == 2) = false ∧ (op == 3) = false ∧ (op == 4) = false ∧ (op == 5) = false ∧ (op == 6) = false ∧ (op == 7) = false ∧ (op == 8) = false ∧ (op == 9) = false ∧ (op == 10) = false := by
  simp only [beq_eq_false_iff_ne]; omega
theorem instrOk_else {op arg : Int} (h : op < 1 ∨ 10 < op) : instrOk op arg = false := by
  unfold instrOk; rw [if_neg (by omega), if_neg (by omega), if_neg (by omega)]
theorem betB_0 (arg : Int) : betB arg 0 0 = (arg == 0) := by rw [Bool.eq_iff_iff, betB_iff, beq_iff_eq]; omega
set_option maxHeartbeats 1600000 in
theorem isInstr_any (op arg : Int) (w : World) : Calls Try.prog 163 #[.agg #[.int .i64 op, .int .i64 arg]] w fun e w' => e = .returned (.bool (instrOk op arg)) ∧ Below w.heap.size w w' := by
  have hb : Below w.heap.size w (w.alloc (.cells #[.int .i64 op, .int .i64 arg] 151)) := (Below.refl _ _).alloc (Nat.le_refl _) _
  rcases op_cases op with rfl | rfl | rfl | rfl | rfl | rfl | rfl | rfl | rfl | rfl | h
  rotate_right 1
  · have HI := Lib.hid (instrOk_else (arg := arg) h)
    obtain ⟨h1, h2, h3, h4, h5, h6, h7, h8, h9, h10⟩ := op_else h
    clear h
    go_enter Try.func163, Try.ntmps163
    go_wp2_with fail
    go_ret
    exact ⟨ret_bool HI.out.symm, hb⟩
  all_goals
    go_enter Try.func163, Try.ntmps163
    go_wp2_with (go_at_call 46; refine (between_any _ _ _ _).mono ?_; rintro e w' ⟨rfl, rfl⟩)
    go_ret
    exact ⟨rfl, hb⟩
set_option maxHeartbeats 1600000 in
theorem l11Arg_any (op arg : Int) (h : betB op 1 10 = true) (w : World) : Calls Try.prog 147 #[.int .i64 op, .int .i64 arg] w fun e w' => e = .returned (.bool (instrOk op arg)) ∧ w = w' := by
  have hbd := betB_iff.1 h
  clear h
  rcases op_cases op with rfl | rfl | rfl | rfl | rfl | rfl | rfl | rfl | rfl | rfl | h
  rotate_right 1
  · omega
  all_goals
    clear hbd
    go_enter Try.func147, Try.ntmps147
    go_wp2_with (go_at_call 78; refine (l00In_any _ _ _ _).mono ?_; rintro e w' ⟨rfl, rfl⟩)
    go_ret
    exact ⟨rfl, rfl⟩
theorem begins_any (op arg : Int) (w : World) : Calls Try.prog 168 #[.agg #[.int .i64 op, .int .i64 arg]] w fun e w' => e = .returned (.bool (opens op)) ∧ Below w.heap.size w w' := by
  have hb : Below w.heap.size w (w.alloc (.cells #[.int .i64 op, .int .i64 arg] 151)) := (Below.refl _ _).alloc (Nat.le_refl _) _
  rcases h8 : (op == 8) with _ | _
  all_goals
    have H8 := Lib.hid h8
    go_enter Try.func168, Try.ntmps168
    go_wp2
    go_ret
    exact ⟨ret_bool (by unfold opens; rw [H8.out]; rfl), hb⟩
theorem l11Opens_any (op : Int) (w : World) : Calls Try.prog 148 #[.int .i64 op] w fun e w' => e = .returned (.bool (opens op)) ∧ w = w' := by
  rcases h8 : (op == 8) with _ | _
  all_goals
    have H8 := Lib.hid h8
    go_enter Try.func148, Try.ntmps148
    go_wp2
    go_ret
    exact ⟨ret_bool (by unfold opens; rw [H8.out]; rfl), rfl⟩
set_option maxHeartbeats 1600000 in
theorem depthBehind_any (op arg d : Int) (h0 : 0 ≤ d) (h4 : d ≤ 4) (w : World) : Calls Try.prog 164 #[.agg #[.int .i64 op, .int .i64 arg], .int .i64 d] w fun e w' => ∃ n f : Int, e = .returned (.tuple #[.int .i64 n, .int .i64 f]) ∧ ((depthStep op d = none ∧ f ≠ 0) ∨ (depthStep op d = some n ∧ f = 0)) ∧ Below w.heap.size w w' := by
  rcases h10 : (op == 10) with _ | _
  · have n10 : ¬ op = 10 := by simpa using h10
    rcases ho : opens op with _ | _
    · have HO := Lib.hid ho
      have HD : Hid (depthStep op d = some d) := by simp [Hid, depthStep, n10, ho]
      clear ho n10
      go_enter Try.func164, Try.ntmps164
      have hK0 := (Kn.nil w).al [.int .i64 op, .int .i64 arg] 151
      go_wp2_with (first | (refine wpList.kn hK0 ?_; clear hK0; intro w1 hK; obtain ⟨a1, a2, a3, -⟩ := hK.cells) | (go_at_call 168; refine (begins_any op arg _).mono ?_; rintro e w' ⟨rfl, hw⟩; rw [HO.out]; replace hK := hK.keep hw; clear a1 a2 a3; obtain ⟨a1, a2, a3, -⟩ := hK.cells))
      go_ret2
      exact ⟨_, _, rfl, .inr ⟨HD.out, rfl⟩, hK.below⟩
    · rcases hd : (d == 4) with _ | _
      · have nd : ¬ d = 4 := by simpa using hd
        have HO := Lib.hid ho
        have HD : Hid (depthStep op d = some (d + 1)) := by simp [Hid, depthStep, n10, ho, nd]
        clear ho n10 nd
        go_enter Try.func164, Try.ntmps164
        have hK0 := (Kn.nil w).al [.int .i64 op, .int .i64 arg] 151
        go_wp2_with (first | (refine wpList.kn hK0 ?_; clear hK0; intro w1 hK; obtain ⟨a1, a2, a3, -⟩ := hK.cells) | (go_at_call 168; refine (begins_any op arg _).mono ?_; rintro e w' ⟨rfl, hw⟩; rw [HO.out]; replace hK := hK.keep hw; clear a1 a2 a3; obtain ⟨a1, a2, a3, -⟩ := hK.cells))
        go_ret2
        exact ⟨_, _, rfl, .inr ⟨HD.out, rfl⟩, hK.below⟩
      · have nd : d = 4 := by simpa using hd
        have HO := Lib.hid ho
        have HD : Hid (depthStep op d = none) := by simp [Hid, depthStep, n10, ho, nd]
        clear ho n10 nd
        go_enter Try.func164, Try.ntmps164
        have hK0 := (Kn.nil w).al [.int .i64 op, .int .i64 arg] 151
        go_wp2_with (first | (refine wpList.kn hK0 ?_; clear hK0; intro w1 hK; obtain ⟨a1, a2, a3, -⟩ := hK.cells) | (go_at_call 168; refine (begins_any op arg _).mono ?_; rintro e w' ⟨rfl, hw⟩; rw [HO.out]; replace hK := hK.keep hw; clear a1 a2 a3; obtain ⟨a1, a2, a3, -⟩ := hK.cells))
        go_ret2
        exact ⟨_, _, rfl, .inl ⟨HD.out, by decide⟩, hK.below⟩
  · have n10 : op = 10 := by simpa using h10
    have HO : Hid (opens op = false) := by simp [Hid, opens, n10]
    rcases hd : (d == 0) with _ | _
    · have nd : ¬ d = 0 := by simpa using hd
      have HD : Hid (depthStep op d = some (d - 1)) := by simp [Hid, depthStep, n10, nd]
      clear n10 nd
      go_enter Try.func164, Try.ntmps164
      have hK0 := (Kn.nil w).al [.int .i64 op, .int .i64 arg] 151
      go_wp2_with (first | (refine wpList.kn hK0 ?_; clear hK0; intro w1 hK; obtain ⟨a1, a2, a3, -⟩ := hK.cells) | (go_at_call 168; refine (begins_any op arg _).mono ?_; rintro e w' ⟨rfl, hw⟩; rw [HO.out]; replace hK := hK.keep hw; clear a1 a2 a3; obtain ⟨a1, a2, a3, -⟩ := hK.cells))
      go_ret2
      exact ⟨_, _, rfl, .inr ⟨HD.out, rfl⟩, hK.below⟩
    · have nd : d = 0 := by simpa using hd
      have HD : Hid (depthStep op d = none) := by simp [Hid, depthStep, n10, nd]
      clear n10 nd
      go_enter Try.func164, Try.ntmps164
      have hK0 := (Kn.nil w).al [.int .i64 op, .int .i64 arg] 151
      go_wp2_with (first | (refine wpList.kn hK0 ?_; clear hK0; intro w1 hK; obtain ⟨a1, a2, a3, -⟩ := hK.cells) | (go_at_call 168; refine (begins_any op arg _).mono ?_; rintro e w' ⟨rfl, hw⟩; rw [HO.out]; replace hK := hK.keep hw; clear a1 a2 a3; obtain ⟨a1, a2, a3, -⟩ := hK.cells))
      go_ret2
      exact ⟨_, _, rfl, .inl ⟨HD.out, by decide⟩, hK.below⟩
end Go.Proofs.Ytcngeifkddhkmaa
