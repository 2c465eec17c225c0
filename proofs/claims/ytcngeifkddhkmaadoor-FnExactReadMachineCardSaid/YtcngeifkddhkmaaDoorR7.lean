import Derived.Test.YtcngeifkddhkmaaDoorR6
namespace Go.Proofs.YtcngeifkddhkmaaDoor
open Go.RowKit Go.Sort
theorem quietB {P : Program} {f : FuncId} {args : Array Value} {w : World} {d : Nat} {os : Array Obj} {v : Value}
    (h : ∀ W, Below w.heap.size w W → Calls P f args W fun e w' => e = .returned v ∧ Below W.heap.size W w') :
    Calls P f args (grow (redrawn w d) os) fun e w'' => e = .returned v ∧ ∃ p : Regrown, w'' = grow (redrawn w p.d) p.os := Calls.regrown_of (h _ (below_regrown w d os))
theorem quiet_add_ex {P : Program} {f : FuncId} {args : Array Value} {w : World} {a n : Nat} {v : Value}
    (h : Calls P f args (w.drewN (a + n)) fun e w' => e = .returned v ∧ ∃ m, w' = (w.drewN (a + n)).drewN m) :
    Calls P f args (w.drewN (a + n)) fun e w'' => e = .returned v ∧ ∃ m, w'' = w.drewN (a + m) :=
  h.mono fun _ _ ⟨he, m, hm⟩ => ⟨he, n + m, by rw [hm, World.drewN_drewN, Nat.add_assoc]⟩
def SmallTri (t : Tri) : Prop := SmallReg t.a ∧ SmallReg t.b ∧ SmallReg t.s
def triGood (r0 : Reg) (t : Tri) : Bool := vlike t.a r0 && vlike t.b r0 && vlike t.s r0 && betB t.carry 0 1
def vtrials (ts : List Tri) : Bool := ts.all (triGood (ts.headD default).a) && betB ts.length 1 60
theorem all_take_succ {α : Type} {p : α → Bool} {ds : List α} {k : Nat} (h : k < ds.length) : (ds.take (k + 1)).all p = ((ds.take k).all p && p ds[k]) := by
  rw [List.take_succ_eq_append_getElem h, List.all_append]; simp only [List.all_cons, List.all_nil, Bool.and_true]
theorem all_not {α : Type} {p : α → Bool} {ds : List α} {k : Nat} (h : k < ds.length) (h1 : p ds[k] = false) : ds.all p = false := by
  simp only [List.all_eq_false]; exact ⟨ds[k], List.getElem_mem _, by simp [h1]⟩
theorem addr_add_zero (a : Addr) : a.add 0 = a := by simp [Addr.add]
theorem headD_get {ts : List Tri} (h : 0 < ts.length) : ts.headD default = ts[0] := by cases ts with
  | nil => simp at h
  | cons t ts => rfl
set_option maxHeartbeats 1600000 in
theorem l20Ok_any (A : Option Addr) (n c : Nat) (ts : List Tri) (w : World) (hr : RL TriM 7 w A n ts) (hs : ∀ t ∈ ts, SmallTri t) (hm : n ≤ 9223372036854775807) :
    Calls Tryd.prog 114 #[.slice A n c] w fun e w' => e = .returned (.bool (vtrials ts)) ∧ ∃ q, w' = w.drewN q := by
  have HL := Lib.hid hr.1
  go_enter Tryd.func114, Tryd.ntmps114
  go_wp2
  go_loopw [3] (fun i wr => ∃ k : Nat, k ≤ n ∧ i = .int .i64 k ∧ (ts.take k).all (triGood (ts.headD default).a) = true ∧ ∃ q, wr = w.drewN q) (fun i _ => n - (intOf i).toNat)
  case atStart => exact ⟨0, Nat.zero_le _, rfl, by simp, 0, rfl⟩
  case round =>
    obtain ⟨k, hk, rfl, hdg, q, rfl⟩ := hrel
    have HD := Lib.hid hdg; clear hdg
    by_cases hkn : k < n
    · obtain ⟨ad, hA, hlt, hk0, ht0⟩ := hr.at_ (show 0 < n by omega)
      obtain ⟨ad', hA', -, hkl, ht⟩ := hr.at_ hkn
      obtain rfl : ad = ad' := by rw [hA] at hA'; injection hA'
      rw [Nat.zero_mul, addr_add_zero] at ht0
      obtain ⟨ha, hb, hs3, hcy⟩ := ht
      obtain ⟨s1, s2, s3⟩ := hs ts[k] (List.getElem_mem _)
      have s0 := (hs ts[0] (List.getElem_mem _)).1
      have HH := Lib.hid (headD_get (by omega : 0 < ts.length))
      have hi0 : (0 : Int) ≤ (k : Int) := by omega
      have hi1 : (k : Int) < (n : Int) := by omega
      have hi2 : (0 : Int) < (n : Int) := by omega
      have K1 := Lib.hid (fun (m : Nat) => l20Like_any (ad.add (k * 7)) ad ts[k].a ts[0].a (w.drewN m) ha ht0.1 s1 s0)
      have K2 := Lib.hid (fun (m : Nat) => l20Like_any ⟨(ad.add (k * 7)).block, (ad.add (k * 7)).off + 2, none⟩ ad ts[k].b ts[0].a (w.drewN m) hb ht0.1 s2 s0)
      have K3 := Lib.hid (fun (m : Nat) => l20Like_any ⟨(ad.add (k * 7)).block, (ad.add (k * 7)).off + 4, none⟩ ad ts[k].s ts[0].a (w.drewN m) hs3 ht0.1 s3 s0)
      have HT := Lib.hid (show triGood ts[0].a ts[k] = (vlike ts[k].a ts[0].a && vlike ts[k].b ts[0].a && vlike ts[k].s ts[0].a && betB ts[k].carry 0 1) from rfl)
      clear ha hb hs3 ht0 s0 s1 s2 s3
      subst hA
      rcases chain4 (vlike ts[k].a ts[0].a) (vlike ts[k].b ts[0].a) (vlike ts[k].s ts[0].a) (betB ts[k].carry 0 1) with k1 | ⟨k1, k2⟩ | ⟨k1, k2, k3⟩ | ⟨k1, k2, k3, k4⟩ | ⟨k1, k2, k3, k4⟩
      rotate_right 1
      · have H1 := Lib.hid k1; have H2 := Lib.hid k2; have H3 := Lib.hid k3; have H4 := Lib.hid k4
        clear k1 k2 k3 k4
        go_wp2
        go_quiet ((first | (go_at_call 185; first | (with_reducible exact quiet_of_ex (K1.out _ _ H1.out)) | (with_reducible exact quiet_of_ex (K2.out _ _ H2.out)) | (with_reducible exact quiet_of_ex (K3.out _ _ H3.out)) | (with_reducible exact quiet_add_ex (K1.out _ _ H1.out)) | (with_reducible exact quiet_add_ex (K2.out _ _ H2.out)) | (with_reducible exact quiet_add_ex (K3.out _ _ H3.out))) | (go_at_call 169; first | exact quiet_left (calls_val (l00In_any _ _ _ _) (congrArg Value.bool H4.out)) | exact quiet_add_left (calls_val (l00In_any _ _ _ _) (congrArg Value.bool H4.out)))))
        go_wp2
        go_roundw
        case rel => exact ⟨k + 1, by omega, by go_num, by rw [all_take_succ hkl, HD.out, HH.out, HT.out, H1.out, H2.out, H3.out, H4.out]; rfl, by first | exact ⟨_, rfl⟩ | exact ⟨_, World.drewN_drewN _ _ _⟩⟩
        case measure => simp [intOf]; omega
      all_goals
        have HF : Hid (vtrials ts = false) := by
          simp only [Hid, vtrials]; rw [all_not hkl]; rfl
          rw [HH.out, HT.out]; simp_all
        have H1 := Lib.hid k1; clear k1
        try (have H2 := Lib.hid k2; clear k2)
        try (have H3 := Lib.hid k3; clear k3)
        try (have H4 := Lib.hid k4; clear k4)
        go_wp2
        go_quiet ((first | (go_at_call 185; first | (with_reducible exact quiet_of_ex (K1.out _ _ H1.out)) | (with_reducible exact quiet_of_ex (K2.out _ _ H2.out)) | (with_reducible exact quiet_of_ex (K3.out _ _ H3.out)) | (with_reducible exact quiet_add_ex (K1.out _ _ H1.out)) | (with_reducible exact quiet_add_ex (K2.out _ _ H2.out)) | (with_reducible exact quiet_add_ex (K3.out _ _ H3.out))) | (go_at_call 169; first | exact quiet_left (calls_val (l00In_any _ _ _ _) (congrArg Value.bool H4.out)) | exact quiet_add_left (calls_val (l00In_any _ _ _ _) (congrArg Value.bool H4.out)))))
        go_wp2
        go_ret
        exact ⟨ret_bool HF.out.symm, by first | exact ⟨_, rfl⟩ | exact ⟨_, World.drewN_drewN _ _ _⟩⟩
    · have HK : Hid (ts.all (triGood (ts.headD default).a) = true) := by have h1 := HD.out; rwa [List.take_of_length_le (by have := HL.out; omega)] at h1
      go_wp2_with (go_at_call 169; refine (l00In_any _ _ _ _).mono ?_; rintro e w' ⟨rfl, rfl⟩)
      go_ret
      exact ⟨ret_bool (by unfold vtrials; rw [HK.out, HL.out]; rfl), q, rfl⟩
end Go.Proofs.YtcngeifkddhkmaaDoor
