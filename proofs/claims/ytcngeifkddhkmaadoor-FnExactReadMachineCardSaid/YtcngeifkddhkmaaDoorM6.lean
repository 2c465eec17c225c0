import Derived.Test.YtcngeifkddhkmaaDoorD2
import Derived.Test.YtcngeifkddhkmaaDoorM3
import Derived.Test.YtcngeifkddhkmaaDoorM5
namespace Go.Proofs.YtcngeifkddhkmaaDoor
open Go.RowKit Go.Sort
def mtextL (t : Tri) : ByteArray := (((((((⟨(rtext t.a).toArray⟩ : ByteArray) ++ (⟨#[32]⟩ : ByteArray)) ++ (⟨(rtext t.b).toArray⟩ : ByteArray)) ++ (⟨#[32]⟩ : ByteArray)) ++ (⟨(rtext t.s).toArray⟩ : ByteArray)) ++ (⟨#[32]⟩ : ByteArray)) ++ (⟨(dec t.carry).toArray⟩ : ByteArray))
def mtext (t : Tri) : ByteArray := if vmach t then mtextL t else ⟨#[]⟩
theorem vmach_parts {t : Tri} (h : vmach t = true) : t.a.ok = true ∧ t.b.ok = true ∧ t.s.ok = true ∧ 0 ≤ t.carry ∧ t.carry ≤ 16 := by
  simp only [vmach, Bool.and_eq_true] at h
  obtain ⟨⟨⟨⟨h1, h2⟩, h3⟩, -⟩, -, h4⟩ := h
  obtain ⟨h5, h6⟩ := betB_iff.1 h4
  obtain ⟨-, -, p1⟩ := ok_bd h3
  exact ⟨h1, h2, h3, h5, by unfold vplaces at h6; omega⟩
set_option maxRecDepth 100000 in
set_option maxHeartbeats 1600000 in
theorem MachineText_any (t : Tri) (A1 A2 A3 : Option Addr) (c1 c2 c3 : Nat) (w : World) (r1 : RI w A1 t.a.digits.length t.a.digits) (r2 : RI w A2 t.b.digits.length t.b.digits) (r3 : RI w A3 t.s.digits.length t.s.digits) (hs : SmallTri t) (ht : TB w) :
    Calls Tryd.prog 86 #[.agg #[.int .i64 t.a.base, .slice A1 t.a.digits.length c1, .int .i64 t.b.base, .slice A2 t.b.digits.length c2, .int .i64 t.s.base, .slice A3 t.s.digits.length c3, .int .i64 t.carry]] w
      fun e w' => e = .returned (.string (mtext t)) ∧ Below w.heap.size w w' := by
  have hb0 : Below w.heap.size w (w.alloc (.cells #[.int .i64 t.a.base, .slice A1 t.a.digits.length c1, .int .i64 t.b.base, .slice A2 t.b.digits.length c2, .int .i64 t.s.base, .slice A3 t.s.digits.length c3, .int .i64 t.carry] 91)) := (Below.refl _ _).alloc (Nat.le_refl _) _
  rcases hv : vmach t with _ | _
  · have HF : Hid (mtext t = ⟨#[]⟩) := by simp [Hid, mtext, hv]
    go_enter Tryd.func86, Tryd.ntmps86
    go_wp2_with fail
    refine (ValidMachine_any t A1 A2 A3 c1 c2 c3 _ (r1.below hb0) (r2.below hb0) (r3.below hb0) hs).mono ?_; rintro e w1 ⟨rfl, hw1⟩
    rw [hv]
    go_wp2_with fail
    go_ret
    exact ⟨ret_str HF.out.symm, hb0.trans (hw1.mono (by simp <;> omega))⟩
  · have HF : Hid (mtext t = mtextL t) := by simp [Hid, mtext, hv]
    obtain ⟨o1, o2, o3, y0, y1⟩ := vmach_parts hv
    have l1 := rtext_len t.a
    have l2 := rtext_len t.b
    have l3 := rtext_len t.s
    have l4 := dec_len t.carry (by omega) (by omega)
    have hT0 : TriC (w.alloc (.cells #[.int .i64 t.a.base, .slice A1 t.a.digits.length c1, .int .i64 t.b.base, .slice A2 t.b.digits.length c2, .int .i64 t.s.base, .slice A3 t.s.digits.length c3, .int .i64 t.carry] 91)) ⟨w.heap.size, 0, none⟩ t A1 c1 A2 c2 A3 c3 := TriC.of_block (g := w.heap.size) (heap_alloc_new _ _) (r1.below hb0) (r2.below hb0) (r3.below hb0)
    go_enter Tryd.func86, Tryd.ntmps86
    go_wp2_with fail
    refine (ValidMachine_any t A1 A2 A3 c1 c2 c3 _ (r1.below hb0) (r2.below hb0) (r3.below hb0) hs).mono ?_; rintro e w1 ⟨rfl, hw1⟩
    rw [hv]
    have hbw := hb0.trans (hw1.mono (by simp <;> omega))
    have hT := hT0.below (by simp) hw1
    clear hT0
    obtain ⟨⟨g1, g2, g3, g4, g5, g6, g7⟩, q1, q2, q3⟩ := hT
    simp only [Nat.zero_add] at g1 g2 g3 g4 g5 g6 g7
    have x0 := cell_regrown g1
    have x1 := cell_regrown g2
    have x2 := cell_regrown g3
    have x3 := cell_regrown g4
    have x4 := cell_regrown g5
    have x5 := cell_regrown g6
    have x6 := cell_regrown g7
    have K1 := Lib.hid (fun (W : World) (hW : Below w1.heap.size w1 W) => RegisterText_reg t.a A1 c1 W (q1.below hW) hs.1 ((ht.below hbw).below hW))
    have K2 := Lib.hid (fun (W : World) (hW : Below w1.heap.size w1 W) => RegisterText_reg t.b A2 c2 W (q2.below hW) hs.2.1 ((ht.below hbw).below hW))
    have K3 := Lib.hid (fun (W : World) (hW : Below w1.heap.size w1 W) => RegisterText_reg t.s A3 c3 W (q3.below hW) hs.2.2 ((ht.below hbw).below hW))
    have K4 := Lib.hid (fun (W : World) (hW : Below w1.heap.size w1 W) => Decimal_any t.carry W (by omega) (by omega) ((ht.below hbw).below hW))
    go_wp2_with fail
    refine wp_region_quiet_below (by kernel_rfl) (by kernel_rfl) ?_
    repeat (go_big_quiet_step ((first | (go_at_call 17; first | (with_reducible exact quietB K1.out) | (with_reducible exact quietB K2.out) | (with_reducible exact quietB K3.out)) | (go_at_call 101; exact quietB K4.out))))
    refine wpQuiet_nil ?_
    intro _ hw'
    obtain ⟨⟨dq, osq⟩, hw''⟩ := hw'
    subst hw''
    go_wp2
    go_ret
    exact ⟨ret_str (by rw [HF.out]; rfl), hbw.trans ((below_regrown w1 dq osq).mono hbw.size)⟩
end Go.Proofs.YtcngeifkddhkmaaDoor
