import Derived.Test.YtmnegfhigfipbaaG4
namespace Go.Proofs.Ytmnegfhigfipbaa
open Go.RowKit Go.Sort
def TOK (t : Tri) : Prop := t.a.digits.length = t.b.digits.length ∧ t.a.digits.length ≤ 16 ∧ 2 ≤ t.a.base ∧ t.a.base ≤ 16 ∧ (∀ d ∈ t.a.digits, 0 ≤ d ∧ d < t.a.base) ∧ (∀ d ∈ t.b.digits, 0 ≤ d ∧ d < t.a.base) ∧ SmallTri t
theorem tok_of {r0 : Reg} {t : Tri} (h : triGood r0 t = true) (hs : SmallTri t) : TOK t := by
  simp only [triGood, vlike, Bool.and_eq_true, decide_eq_true_eq, beq_iff_eq] at h
  obtain ⟨⟨⟨⟨⟨h1, h2⟩, h3⟩, ⟨h4, h5⟩, h6⟩, -⟩, -⟩ := h
  obtain ⟨⟨p1, p2⟩, ⟨-, p4⟩, p5, -⟩ := vreg_iff.1 h1
  obtain ⟨-, -, q5, -⟩ := vreg_iff.1 h4
  refine ⟨by omega, by omega, p1, p2, p5, ?_, hs⟩
  rw [h2, ← h5]; exact q5
def sumReg (t : Tri) (fs : List Flt) : Reg := ⟨t.a.base, sumL t.a.base t.a.digits t.b.digits fs t.a.digits.length⟩
def expl (t : Tri) (fs : List Flt) : Bool := sameR (sumReg t fs) t.s && (carryAt t.a.base t.a.digits t.b.digits fs t.a.digits.length == t.carry)
set_option maxHeartbeats 1600000 in
theorem explained_any (t : Tri) (A1 A2 A3 : Option Addr) (c1 c2 c3 : Nat) (A : Option Addr) (m c : Nat) (fs : List Flt) (w : World) (r1 : RI w A1 t.a.digits.length t.a.digits) (r2 : RI w A2 t.b.digits.length t.b.digits) (r3 : RI w A3 t.s.digits.length t.s.digits)
    (hr : RL FltM 2 w A m fs) (ht : TOK t) (hg : GoodF t.a.digits.length fs) (hm : m ≤ 1000000) :
    Calls Try.prog 45 #[.agg #[.int .i64 t.a.base, .slice A1 t.a.digits.length c1, .int .i64 t.b.base, .slice A2 t.b.digits.length c2, .int .i64 t.s.base, .slice A3 t.s.digits.length c3, .int .i64 t.carry], .slice A m c] w fun e w' => e = .returned (.bool (expl t fs)) ∧ Below w.heap.size w w' := by
  obtain ⟨t1, t2, t3, t4, t5, t6, -, -, s3⟩ := ht
  unfold SmallReg at s3
  have hb0 : Below w.heap.size w (w.alloc (.cells #[.int .i64 t.a.base, .slice A1 t.a.digits.length c1, .int .i64 t.b.base, .slice A2 t.b.digits.length c2, .int .i64 t.s.base, .slice A3 t.s.digits.length c3, .int .i64 t.carry] 62)) := (Below.refl _ _).alloc (Nat.le_refl _) _
  have T1 := Lib.hid t1; clear t1
  go_enter Try.func45, Try.ntmps45
  go_wp2_with fail
  refine (addedWith_any t.a t.b A1 A2 c1 c2 A m c fs _ (r1.below hb0) (r2.below hb0) (hr.below steady_FltM hb0) T1.out t2 t3 t4 t5 t6 hg hm).mono ?_; rintro e w1 ⟨X, x, rfl, ox, hw1⟩
  have hb1 : Below w.heap.size w w1 := hb0.trans (hw1.mono (by simp))
  obtain ⟨hc, hf⟩ := bcellB (B := w.heap.size + 1) (hw1.mono (by simp))
  have z1 : w.heap.size + 1 ≤ w1.heap.size := by have := hw1.size; simpa using this
  have rX := ox.ri
  have hl := sumL_len t.a.base t.a.digits t.b.digits fs t.a.digits.length
  have x0 : w1.cell? ⟨w.heap.size, 4, none⟩ = some (.int .i64 t.s.base) := by go_simp
  have x1 : w1.cell? ⟨w.heap.size, 5, none⟩ = some (.slice A3 t.s.digits.length c3) := by go_simp
  have x2 : w1.cell? ⟨w.heap.size, 6, none⟩ = some (.int .i64 t.carry) := by go_simp
  have hbA : Below w1.heap.size w1 (w1.alloc (.cells #[.int .i64 t.a.base, .slice X t.a.digits.length x] 60)) := (Below.refl _ _).alloc (Nat.le_refl _) _
  have y0 : (w1.alloc (.cells #[.int .i64 t.a.base, .slice X t.a.digits.length x] 60)).cell? ⟨w.heap.size, 4, none⟩ = some (.int .i64 t.s.base) := by rw [hbA.cell (by exact z1)]; exact x0
  have y1 : (w1.alloc (.cells #[.int .i64 t.a.base, .slice X t.a.digits.length x] 60)).cell? ⟨w.heap.size, 5, none⟩ = some (.slice A3 t.s.digits.length c3) := by rw [hbA.cell (by exact z1)]; exact x1
  have y2 : (w1.alloc (.cells #[.int .i64 t.a.base, .slice X t.a.digits.length x] 60)).cell? ⟨w.heap.size, 6, none⟩ = some (.int .i64 t.carry) := by rw [hbA.cell (by exact z1)]; exact x2
  have K := SameRegister_any (sumReg t fs) t.s X A3 x c3 (w1.alloc (.cells #[.int .i64 t.a.base, .slice X t.a.digits.length x] 60)) (by show RI _ X (sumL t.a.base t.a.digits t.b.digits fs t.a.digits.length).length _; rw [hl]; exact rX.below hbA) ((r3.below hb1).below hbA) (by unfold SmallReg sumReg; simp only; omega) s3
  rw [show (sumReg t fs).digits.length = t.a.digits.length from hl] at K
  have KK := Lib.hid K
  clear K hc hf ox hl
  rcases k : sameR (sumReg t fs) t.s with _ | _
  all_goals
    have HF := Lib.hid (show expl t fs = (sameR (sumReg t fs) t.s && (carryAt t.a.base t.a.digits t.b.digits fs t.a.digits.length == t.carry)) from rfl)
    have K1 := Lib.hid k; clear k
    obtain ⟨cy, hcy⟩ : ∃ cy, cy = carryAt t.a.base t.a.digits t.b.digits fs t.a.digits.length := ⟨_, rfl⟩
    rw [← hcy] at HF
    rw [← hcy]
    clear hcy
    go_wp2_with fail
    refine (calls_val KK.out (congrArg Value.bool K1.out)).mono ?_; rintro e w2 ⟨rfl, hw2⟩
    have hb2 := hb1.trans ((hbA.mono (by omega)).trans (hw2.mono (by simp; omega)))
    have u2 : w2.cell? ⟨w.heap.size, 6, none⟩ = some (.int .i64 t.carry) := by rw [hw2.cell (by simp; omega)]; exact y2
    go_wp2
    go_ret
    exact ⟨ret_bool (by rw [HF.out, K1.out]; rfl), hb2⟩
end Go.Proofs.Ytmnegfhigfipbaa
