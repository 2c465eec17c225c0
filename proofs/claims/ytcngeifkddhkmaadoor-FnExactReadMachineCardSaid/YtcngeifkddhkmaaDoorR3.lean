import Derived.Test.YtcngeifkddhkmaaDoorR2
namespace Go.Proofs.YtcngeifkddhkmaaDoor
open Go.RowKit
/-- a register in memory at address p -/
def RegAt (w : World) (p : Addr) (b : Int) (A : Option Addr) (n c : Nat) : Prop := w.cell? p = some (.int .i64 b) ∧ w.cell? ⟨p.block, p.off + 1, none⟩ = some (.slice A n c)
set_option maxHeartbeats 400000 in
theorem l02Ok_any (p : Addr) (b : Int) (A : Option Addr) (n c : Nat) (ds : List Int) (w : World) (hp : RegAt w p b A n c) (hr : RI w A n ds) (hm : n ≤ 9223372036854775807) :
    Calls Tryd.prog 107 #[.pointer (some p)] w fun e w' => e = .returned (.bool (vreg b ds)) ∧ ∃ m, w' = w.drewN m := by
  obtain ⟨hc0, hc1⟩ := hp
  have HL := Lib.hid hr.1
  rcases hb : betB b 2 16 with _ | _
  · have HF : Hid (vreg b ds = false) := by simp [Hid, vreg, hb]
    have k0 := Lib.hid (fun W => calls_val (l02Base_any b W) (congrArg Value.bool hb)); clear hb
    go_enter Tryd.func107, Tryd.ntmps107
    go_wp2_with fail
    go_quiet ((go_at_call 183; exact quiet_left (k0.out _)))
    go_wp2
    go_ret
    exact ⟨ret_bool HF.out.symm, _, rfl⟩
  have hbb := betB_iff.1 hb
  rcases hd : (digB b ds && betB ds.length 1 16) with _ | _
  · have HF : Hid (vreg b ds = false) := by simp only [Hid, vreg]; rw [Bool.and_assoc (betB b 2 16), Bool.and_comm (betB _ 1 16), hd]; simp
    have k0 := Lib.hid (fun W => calls_val (l02Base_any b W) (congrArg Value.bool hb)); clear hb
    have k1 := Lib.hid (fun m => calls_val (l02Digits_any b A n c ds (w.drewN m) hr hm hbb.1 hbb.2) (congrArg Value.bool hd)); clear hd
    go_enter Tryd.func107, Tryd.ntmps107
    go_wp2_with fail
    go_quiet ((first | (go_at_call 183; exact quiet_left (k0.out _)) | (go_at_call 184; exact quiet_left (k1.out _))))
    go_wp2
    go_ret
    exact ⟨ret_bool HF.out.symm, _, rfl⟩
  · have HF : Hid (vreg b ds = decide (valL b ds ≤ 1000000000000)) := by simp only [Hid, vreg]; rw [Bool.and_assoc (betB b 2 16), Bool.and_comm (betB _ 1 16), hd, hb]; simp
    have k0 := Lib.hid (fun W => calls_val (l02Base_any b W) (congrArg Value.bool hb)); clear hb
    have k1 := Lib.hid (fun m => calls_val (l02Digits_any b A n c ds (w.drewN m) hr hm hbb.1 hbb.2) (congrArg Value.bool hd))
    have hdd := Bool.and_eq_true _ _ ▸ hd
    have hd1 := digB_iff.1 hdd.1
    have hd2 := betB_iff.1 hdd.2
    rw [hr.1] at hd2
    clear hd hdd
    have k2 := Lib.hid (fun m => l02Value_any b A n c ds (w.drewN m) hbb.1 hbb.2 hd1 hr (by omega)); clear hd1
    go_enter Tryd.func107, Tryd.ntmps107
    go_wp2_with fail
    go_quiet ((first | (go_at_call 183; exact quiet_left (k0.out _)) | (go_at_call 184; exact quiet_left (k1.out _)) | (go_at_call 108; exact quiet_left (k2.out _))))
    go_wp2
    go_ret
    exact ⟨ret_bool HF.out.symm, _, rfl⟩
end Go.Proofs.YtcngeifkddhkmaaDoor
