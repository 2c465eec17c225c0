import Derived.Test.YtcngeifkddhkmaaDoorR7
namespace Go.Proofs.YtcngeifkddhkmaaDoor
open Go.RowKit Go.Sort
theorem TriM.cells {w : World} {p : Addr} {t : Tri} (h : TriM w p t) : ∃ A1 c1 A2 c2 A3 c3, (w.cell? p = some (.int .i64 t.a.base) ∧ w.cell? ⟨p.block, p.off + 1, none⟩ = some (.slice A1 t.a.digits.length c1) ∧ w.cell? ⟨p.block, p.off + 2, none⟩ = some (.int .i64 t.b.base) ∧ w.cell? ⟨p.block, p.off + 3, none⟩ = some (.slice A2 t.b.digits.length c2) ∧
    w.cell? ⟨p.block, p.off + 4, none⟩ = some (.int .i64 t.s.base) ∧ w.cell? ⟨p.block, p.off + 5, none⟩ = some (.slice A3 t.s.digits.length c3) ∧ w.cell? ⟨p.block, p.off + 6, none⟩ = some (.int .i64 t.carry)) ∧
    RI w A1 t.a.digits.length t.a.digits ∧ RI w A2 t.b.digits.length t.b.digits ∧ RI w A3 t.s.digits.length t.s.digits := by
  obtain ⟨⟨A1, c1, ⟨h1, h2⟩, r1⟩, ⟨A2, c2, ⟨h3, h4⟩, r2⟩, ⟨A3, c3, ⟨h5, h6⟩, r3⟩, h7⟩ := h
  exact ⟨A1, c1, A2, c2, A3, c3, ⟨h1, h2, h3, h4, h5, h6, h7⟩, r1, r2, r3⟩
theorem width_any (b : Int) (A : Option Addr) (n c : Nat) (w : World) :
    Calls Tryd.prog 106 #[.agg #[.int .i64 b, .slice A n c]] w fun e w' => e = .returned (.int .i64 n) ∧ Below w.heap.size w w' := by
  go_enter Tryd.func106, Tryd.ntmps106
  go_wp2
  go_ret
  exact ⟨rfl, (Below.refl _ _).alloc (Nat.le_refl _) _⟩
set_option maxHeartbeats 1600000 in
theorem ValidTrials_any (A : Option Addr) (n c : Nat) (ts : List Tri) (w : World) (hr : RL TriM 7 w A n ts) (hs : ∀ t ∈ ts, SmallTri t) (hm : n ≤ 9223372036854775807) :
    Calls Tryd.prog 113 #[.slice A n c] w fun e w' => e = .returned (.bool (vtrials ts)) ∧ Below w.heap.size w w' := by
  have HL := Lib.hid hr.1
  go_enter Tryd.func113, Tryd.ntmps113
  go_wp2
  go_loopw [9] (fun i wr => ∃ k : Nat, k ≤ n ∧ i = .int .i64 k ∧ (ts.take k).all (triGood (ts.headD default).a) = true ∧ Below w.heap.size w wr) (fun i _ => n - (intOf i).toNat)
  case atStart => exact ⟨0, Nat.zero_le _, rfl, by simp, Below.refl _ _⟩
  case round =>
    obtain ⟨k, hk, rfl, hdg, hbr⟩ := hrel
    have HD := Lib.hid hdg; clear hdg
    by_cases hkn : k < n
    · obtain ⟨ad, hA, hlt, hk0, ht0⟩ := (hr.below steady_TriM hbr).at_ (show 0 < n by omega)
      obtain ⟨ad', hA', -, hkl, ht⟩ := (hr.below steady_TriM hbr).at_ hkn
      obtain rfl : ad = ad' := by rw [hA] at hA'; injection hA'
      rw [Nat.zero_mul, addr_add_zero] at ht0
      obtain ⟨A0, c0, -, -, -, -, ⟨z1, z2, -⟩, -⟩ := ht0.cells
      obtain ⟨A1, c1, A2, c2, A3, c3, ⟨g1, g2, g3, g4, g5, g6, g7⟩, r1, r2, r3⟩ := ht.cells
      obtain ⟨s1, s2, s3⟩ := hs ts[k] (List.getElem_mem _)
      have s0 := (hs ts[0] (List.getElem_mem _)).1
      have HH := Lib.hid (headD_get (by omega : 0 < ts.length))
      have HT := Lib.hid (show triGood ts[0].a ts[k] = (vlike ts[k].a ts[0].a && vlike ts[k].b ts[0].a && vlike ts[k].s ts[0].a && betB ts[k].carry 0 1) from rfl)
      have hi0 : (0 : Int) ≤ (k : Int) := by omega
      have hi1 : (k : Int) < (n : Int) := by omega
      have hi2 : (0 : Int) < (n : Int) := by omega
      clear ht0 ht hA'
      subst hA
      obtain ⟨wo, rfl⟩ : ∃ wo : World, wo = wr := ⟨_, rfl⟩
      have HC1 : Hid True := trivial
      go_wp2
      have hb0 : Below w.heap.size w ((wo.alloc (.cells #[.int .i64 ts[k].a.base, .slice A1 ts[k].a.digits.length c1, .int .i64 ts[k].b.base, .slice A2 ts[k].b.digits.length c2, .int .i64 ts[k].s.base, .slice A3 ts[k].s.digits.length c3, .int .i64 ts[k].carry] 59)).alloc (.cells #[.int .i64 ts[k].a.base, .slice A1 ts[k].a.digits.length c1, .int .i64 ts[k].b.base, .slice A2 ts[k].b.digits.length c2, .int .i64 ts[k].s.base, .slice A3 ts[k].s.digits.length c3] 26)) := (hbr.alloc hbr.size _).alloc (by have := hbr.size; simp; omega) _
      go_loopw [21] (fun j wi => (j = .int .i64 0 ∨ (j = .int .i64 1 ∧ vlike ts[k].a ts[0].a = true) ∨ (j = .int .i64 2 ∧ vlike ts[k].a ts[0].a = true ∧ vlike ts[k].b ts[0].a = true) ∨ (j = .int .i64 3 ∧ vlike ts[k].a ts[0].a = true ∧ vlike ts[k].b ts[0].a = true ∧ vlike ts[k].s ts[0].a = true)) ∧ Below (wo.heap.size + 2) ((wo.alloc (.cells #[.int .i64 ts[k].a.base, .slice A1 ts[k].a.digits.length c1, .int .i64 ts[k].b.base, .slice A2 ts[k].b.digits.length c2, .int .i64 ts[k].s.base, .slice A3 ts[k].s.digits.length c3, .int .i64 ts[k].carry] 59)).alloc (.cells #[.int .i64 ts[k].a.base, .slice A1 ts[k].a.digits.length c1, .int .i64 ts[k].b.base, .slice A2 ts[k].b.digits.length c2, .int .i64 ts[k].s.base, .slice A3 ts[k].s.digits.length c3] 26)) wi) (fun j _ => (3 - intOf j).toNat)
      case atStart => exact ⟨.inl rfl, Below.refl _ _⟩
      case round =>
        obtain ⟨hj, hbi⟩ := hrel
        obtain ⟨hci, hfi⟩ := bcellB hbi
        have hsz : wo.heap.size + 2 ≤ wr.heap.size := by have := hbi.size; simpa using this
        have hbw : Below w.heap.size w wr := hb0.trans (hbi.mono (by have := hbr.size; omega))
        have q1 := r1.below ((((Below.refl _ wo).alloc (Nat.le_refl _) _).alloc (by simp) _).trans (hbi.mono (by omega)))
        have q2 := r2.below ((((Below.refl _ wo).alloc (Nat.le_refl _) _).alloc (by simp) _).trans (hbi.mono (by omega)))
        have q3 := r3.below ((((Below.refl _ wo).alloc (Nat.le_refl _) _).alloc (by simp) _).trans (hbi.mono (by omega)))
        have y1 : wr.cell? ad = some (.int .i64 ts[0].a.base) := by rw [((((Below.refl _ wo).alloc (Nat.le_refl _) _).alloc (by simp) _).trans (hbi.mono (by omega))).cell hlt]; exact z1
        have y2 : wr.cell? ⟨ad.block, ad.off + 1, none⟩ = some (.slice A0 ts[0].a.digits.length c0) := by rw [((((Below.refl _ wo).alloc (Nat.le_refl _) _).alloc (by simp) _).trans (hbi.mono (by omega))).cell (by exact hlt)]; exact z2
        clear r1 r2 r3
        rcases hj with rfl | ⟨rfl, k1⟩ | ⟨rfl, k1, k2⟩ | ⟨rfl, k1, k2, k3⟩
        · have k1 : True := trivial
          have k2 : True := trivial
          have k1 := Lib.hid k1
          have k2 := Lib.hid k2
          have HL0 := Lib.hid (show vlike ts[k].a ts[0].a = (ts[k].a.ok && ts[k].a.base == ts[0].a.base && decide ((ts[k].a.digits.length : Int) = ts[0].a.digits.length)) from rfl)
          go_wp2_with fail
          obtain ⟨WW, hWW⟩ : ∃ W, W = wr.alloc (.cells #[.int .i64 ts[k].a.base, .slice A1 ts[k].a.digits.length c1] 26) := ⟨_, rfl⟩
          rw [← hWW]
          have hWb : Below wr.heap.size wr WW := by rw [hWW]; exact (Below.refl _ _).alloc (Nat.le_refl _) _
          have x1 := cell_regrown (show WW.cell? ⟨wr.heap.size, 0, none⟩ = some (.int .i64 ts[k].a.base) by rw [hWW]; go_simp)
          have x2 := cell_regrown (show WW.cell? ⟨wr.heap.size, 1, none⟩ = some (.slice A1 ts[k].a.digits.length c1) by rw [hWW]; go_simp)
          have x3 := cell_regrown (show WW.cell? ad = some (.int .i64 ts[0].a.base) by rw [hWb.cell (by omega)]; exact y1)
          have x4 := cell_regrown (show WW.cell? ⟨ad.block, ad.off + 1, none⟩ = some (.slice A0 ts[0].a.digits.length c0) by rw [hWb.cell (by exact (by omega : ad.block < wr.heap.size))]; exact y2)
          have KV := Lib.hid (fun (v : Bool) (hv : ts[k].a.ok = v) (W : World) (hW : Below WW.heap.size WW W) => calls_val (ValidRegister_any ts[k].a.base A1 ts[k].a.digits.length c1 ts[k].a.digits W ((q1.below hWb).below hW) (by have := s1; unfold SmallReg at this; omega)) (congrArg Value.bool hv))
          have hnew : Below (wo.heap.size + 2) ((wo.alloc (.cells #[.int .i64 ts[k].a.base, .slice A1 ts[k].a.digits.length c1, .int .i64 ts[k].b.base, .slice A2 ts[k].b.digits.length c2, .int .i64 ts[k].s.base, .slice A3 ts[k].s.digits.length c3, .int .i64 ts[k].carry] 59)).alloc (.cells #[.int .i64 ts[k].a.base, .slice A1 ts[k].a.digits.length c1, .int .i64 ts[k].b.base, .slice A2 ts[k].b.digits.length c2, .int .i64 ts[k].s.base, .slice A3 ts[k].s.digits.length c3] 26)) WW := hbi.trans (hWb.mono hsz)
          have hbw' : Below w.heap.size w WW := hbw.trans (hWb.mono hbw.size)
          clear hWW hbw hci hfi y1 y2
          rcases chain3 ts[k].a.ok (ts[k].a.base == ts[0].a.base) ((ts[k].a.digits.length : Int) == ts[0].a.digits.length) with j1 | ⟨j1, j2⟩ | ⟨j1, j2, j3⟩ | ⟨j1, j2, j3⟩
          rotate_right 1
          · have HV : Hid (vlike ts[k].a ts[0].a = true) := by rw [Hid, HL0.out, j1, j2]; simpa using j3
            have i2 : (ts[k].a.base != ts[0].a.base) = false := by simpa using j2
            have i3 : ((ts[k].a.digits.length : Int) != ts[0].a.digits.length) = false := by simpa using j3
            have J1 := Lib.hid j1
            clear j1 j2 j3
            refine wp_region_quiet_below (by kernel_rfl) (by kernel_rfl) ?_
            repeat (go_big_quiet_step ((first | (go_at_call 19; exact quietB (KV.out _ J1.out)) | (go_at_call 106; exact quietB (fun W _ => width_any _ _ _ _ W)))))
            refine wpQuiet_nil ?_
            intro _ hw'
            obtain ⟨⟨dq, osq⟩, hw''⟩ := hw'
            subst hw''
            have hnew := hnew.trans ((below_regrown WW dq osq).mono (by have := hWb.size; omega))
            go_wp2
            go_roundw
            case rel => exact ⟨.inr (.inl ⟨rfl, HV.out⟩), hnew⟩
            case measure => simp [intOf]
          all_goals
            have HF : Hid (vtrials ts = false) := by
              simp only [Hid, vtrials]; rw [all_not hkl]; rfl
              have HL1 := HL0.out
              simp only [Hid] at *
              rw [HH, HT]; simp_all
            have J1 := Lib.hid j1; clear j1
            try (have i2 : (ts[k].a.base != ts[0].a.base) = !(ts[k].a.base == ts[0].a.base) := rfl)
            try (rw [j2] at i2; simp only [Bool.not_true, Bool.not_false] at i2)
            try clear j2
            try (have i3 : ((ts[k].a.digits.length : Int) != ts[0].a.digits.length) = !((ts[k].a.digits.length : Int) == ts[0].a.digits.length) := rfl)
            try (rw [j3] at i3; simp only [Bool.not_true, Bool.not_false] at i3)
            try clear j3
            refine wp_region_quiet_below (by kernel_rfl) (by kernel_rfl) ?_
            repeat (go_big_quiet_step ((first | (go_at_call 19; exact quietB (KV.out _ J1.out)) | (go_at_call 106; exact quietB (fun W _ => width_any _ _ _ _ W)))))
            refine wpQuiet_nil ?_
            intro _ hw'
            obtain ⟨⟨dq, osq⟩, hw''⟩ := hw'
            subst hw''
            go_wp2
            go_ret
            exact ⟨ret_bool HF.out.symm, hbw'.trans ((below_regrown WW dq osq).mono hbw'.size)⟩
        · have k2 : True := trivial
          have k1 := Lib.hid k1
          have k2 := Lib.hid k2
          have HL0 := Lib.hid (show vlike ts[k].b ts[0].a = (ts[k].b.ok && ts[k].b.base == ts[0].a.base && decide ((ts[k].b.digits.length : Int) = ts[0].a.digits.length)) from rfl)
          go_wp2_with fail
          obtain ⟨WW, hWW⟩ : ∃ W, W = wr.alloc (.cells #[.int .i64 ts[k].b.base, .slice A2 ts[k].b.digits.length c2] 26) := ⟨_, rfl⟩
          rw [← hWW]
          have hWb : Below wr.heap.size wr WW := by rw [hWW]; exact (Below.refl _ _).alloc (Nat.le_refl _) _
          have x1 := cell_regrown (show WW.cell? ⟨wr.heap.size, 0, none⟩ = some (.int .i64 ts[k].b.base) by rw [hWW]; go_simp)
          have x2 := cell_regrown (show WW.cell? ⟨wr.heap.size, 1, none⟩ = some (.slice A2 ts[k].b.digits.length c2) by rw [hWW]; go_simp)
          have x3 := cell_regrown (show WW.cell? ad = some (.int .i64 ts[0].a.base) by rw [hWb.cell (by omega)]; exact y1)
          have x4 := cell_regrown (show WW.cell? ⟨ad.block, ad.off + 1, none⟩ = some (.slice A0 ts[0].a.digits.length c0) by rw [hWb.cell (by exact (by omega : ad.block < wr.heap.size))]; exact y2)
          have KV := Lib.hid (fun (v : Bool) (hv : ts[k].b.ok = v) (W : World) (hW : Below WW.heap.size WW W) => calls_val (ValidRegister_any ts[k].b.base A2 ts[k].b.digits.length c2 ts[k].b.digits W ((q2.below hWb).below hW) (by have := s2; unfold SmallReg at this; omega)) (congrArg Value.bool hv))
          have hnew : Below (wo.heap.size + 2) ((wo.alloc (.cells #[.int .i64 ts[k].a.base, .slice A1 ts[k].a.digits.length c1, .int .i64 ts[k].b.base, .slice A2 ts[k].b.digits.length c2, .int .i64 ts[k].s.base, .slice A3 ts[k].s.digits.length c3, .int .i64 ts[k].carry] 59)).alloc (.cells #[.int .i64 ts[k].a.base, .slice A1 ts[k].a.digits.length c1, .int .i64 ts[k].b.base, .slice A2 ts[k].b.digits.length c2, .int .i64 ts[k].s.base, .slice A3 ts[k].s.digits.length c3] 26)) WW := hbi.trans (hWb.mono hsz)
          have hbw' : Below w.heap.size w WW := hbw.trans (hWb.mono hbw.size)
          clear hWW hbw hci hfi y1 y2
          rcases chain3 ts[k].b.ok (ts[k].b.base == ts[0].a.base) ((ts[k].b.digits.length : Int) == ts[0].a.digits.length) with j1 | ⟨j1, j2⟩ | ⟨j1, j2, j3⟩ | ⟨j1, j2, j3⟩
          rotate_right 1
          · have HV : Hid (vlike ts[k].b ts[0].a = true) := by rw [Hid, HL0.out, j1, j2]; simpa using j3
            have i2 : (ts[k].b.base != ts[0].a.base) = false := by simpa using j2
            have i3 : ((ts[k].b.digits.length : Int) != ts[0].a.digits.length) = false := by simpa using j3
            have J1 := Lib.hid j1
            clear j1 j2 j3
            refine wp_region_quiet_below (by kernel_rfl) (by kernel_rfl) ?_
            repeat (go_big_quiet_step ((first | (go_at_call 19; exact quietB (KV.out _ J1.out)) | (go_at_call 106; exact quietB (fun W _ => width_any _ _ _ _ W)))))
            refine wpQuiet_nil ?_
            intro _ hw'
            obtain ⟨⟨dq, osq⟩, hw''⟩ := hw'
            subst hw''
            have hnew := hnew.trans ((below_regrown WW dq osq).mono (by have := hWb.size; omega))
            go_wp2
            go_roundw
            case rel => exact ⟨.inr (.inr (.inl ⟨rfl, k1.out, HV.out⟩)), hnew⟩
            case measure => simp [intOf]
          all_goals
            have HF : Hid (vtrials ts = false) := by
              simp only [Hid, vtrials]; rw [all_not hkl]; rfl
              have HL1 := HL0.out
              simp only [Hid] at *
              rw [HH, HT]; simp_all
            have J1 := Lib.hid j1; clear j1
            try (have i2 : (ts[k].b.base != ts[0].a.base) = !(ts[k].b.base == ts[0].a.base) := rfl)
            try (rw [j2] at i2; simp only [Bool.not_true, Bool.not_false] at i2)
            try clear j2
            try (have i3 : ((ts[k].b.digits.length : Int) != ts[0].a.digits.length) = !((ts[k].b.digits.length : Int) == ts[0].a.digits.length) := rfl)
            try (rw [j3] at i3; simp only [Bool.not_true, Bool.not_false] at i3)
            try clear j3
            refine wp_region_quiet_below (by kernel_rfl) (by kernel_rfl) ?_
            repeat (go_big_quiet_step ((first | (go_at_call 19; exact quietB (KV.out _ J1.out)) | (go_at_call 106; exact quietB (fun W _ => width_any _ _ _ _ W)))))
            refine wpQuiet_nil ?_
            intro _ hw'
            obtain ⟨⟨dq, osq⟩, hw''⟩ := hw'
            subst hw''
            go_wp2
            go_ret
            exact ⟨ret_bool HF.out.symm, hbw'.trans ((below_regrown WW dq osq).mono hbw'.size)⟩
        · have k1 := Lib.hid k1
          have k2 := Lib.hid k2
          have HL0 := Lib.hid (show vlike ts[k].s ts[0].a = (ts[k].s.ok && ts[k].s.base == ts[0].a.base && decide ((ts[k].s.digits.length : Int) = ts[0].a.digits.length)) from rfl)
          go_wp2_with fail
          obtain ⟨WW, hWW⟩ : ∃ W, W = wr.alloc (.cells #[.int .i64 ts[k].s.base, .slice A3 ts[k].s.digits.length c3] 26) := ⟨_, rfl⟩
          rw [← hWW]
          have hWb : Below wr.heap.size wr WW := by rw [hWW]; exact (Below.refl _ _).alloc (Nat.le_refl _) _
          have x1 := cell_regrown (show WW.cell? ⟨wr.heap.size, 0, none⟩ = some (.int .i64 ts[k].s.base) by rw [hWW]; go_simp)
          have x2 := cell_regrown (show WW.cell? ⟨wr.heap.size, 1, none⟩ = some (.slice A3 ts[k].s.digits.length c3) by rw [hWW]; go_simp)
          have x3 := cell_regrown (show WW.cell? ad = some (.int .i64 ts[0].a.base) by rw [hWb.cell (by omega)]; exact y1)
          have x4 := cell_regrown (show WW.cell? ⟨ad.block, ad.off + 1, none⟩ = some (.slice A0 ts[0].a.digits.length c0) by rw [hWb.cell (by exact (by omega : ad.block < wr.heap.size))]; exact y2)
          have KV := Lib.hid (fun (v : Bool) (hv : ts[k].s.ok = v) (W : World) (hW : Below WW.heap.size WW W) => calls_val (ValidRegister_any ts[k].s.base A3 ts[k].s.digits.length c3 ts[k].s.digits W ((q3.below hWb).below hW) (by have := s3; unfold SmallReg at this; omega)) (congrArg Value.bool hv))
          have hnew : Below (wo.heap.size + 2) ((wo.alloc (.cells #[.int .i64 ts[k].a.base, .slice A1 ts[k].a.digits.length c1, .int .i64 ts[k].b.base, .slice A2 ts[k].b.digits.length c2, .int .i64 ts[k].s.base, .slice A3 ts[k].s.digits.length c3, .int .i64 ts[k].carry] 59)).alloc (.cells #[.int .i64 ts[k].a.base, .slice A1 ts[k].a.digits.length c1, .int .i64 ts[k].b.base, .slice A2 ts[k].b.digits.length c2, .int .i64 ts[k].s.base, .slice A3 ts[k].s.digits.length c3] 26)) WW := hbi.trans (hWb.mono hsz)
          have hbw' : Below w.heap.size w WW := hbw.trans (hWb.mono hbw.size)
          clear hWW hbw hci hfi y1 y2
          rcases chain3 ts[k].s.ok (ts[k].s.base == ts[0].a.base) ((ts[k].s.digits.length : Int) == ts[0].a.digits.length) with j1 | ⟨j1, j2⟩ | ⟨j1, j2, j3⟩ | ⟨j1, j2, j3⟩
          rotate_right 1
          · have HV : Hid (vlike ts[k].s ts[0].a = true) := by rw [Hid, HL0.out, j1, j2]; simpa using j3
            have i2 : (ts[k].s.base != ts[0].a.base) = false := by simpa using j2
            have i3 : ((ts[k].s.digits.length : Int) != ts[0].a.digits.length) = false := by simpa using j3
            have J1 := Lib.hid j1
            clear j1 j2 j3
            refine wp_region_quiet_below (by kernel_rfl) (by kernel_rfl) ?_
            repeat (go_big_quiet_step ((first | (go_at_call 19; exact quietB (KV.out _ J1.out)) | (go_at_call 106; exact quietB (fun W _ => width_any _ _ _ _ W)))))
            refine wpQuiet_nil ?_
            intro _ hw'
            obtain ⟨⟨dq, osq⟩, hw''⟩ := hw'
            subst hw''
            have hnew := hnew.trans ((below_regrown WW dq osq).mono (by have := hWb.size; omega))
            go_wp2
            go_roundw
            case rel => exact ⟨.inr (.inr (.inr ⟨rfl, k1.out, k2.out, HV.out⟩)), hnew⟩
            case measure => simp [intOf]
          all_goals
            have HF : Hid (vtrials ts = false) := by
              simp only [Hid, vtrials]; rw [all_not hkl]; rfl
              have HL1 := HL0.out
              simp only [Hid] at *
              rw [HH, HT]; simp_all
            have J1 := Lib.hid j1; clear j1
            try (have i2 : (ts[k].s.base != ts[0].a.base) = !(ts[k].s.base == ts[0].a.base) := rfl)
            try (rw [j2] at i2; simp only [Bool.not_true, Bool.not_false] at i2)
            try clear j2
            try (have i3 : ((ts[k].s.digits.length : Int) != ts[0].a.digits.length) = !((ts[k].s.digits.length : Int) == ts[0].a.digits.length) := rfl)
            try (rw [j3] at i3; simp only [Bool.not_true, Bool.not_false] at i3)
            try clear j3
            refine wp_region_quiet_below (by kernel_rfl) (by kernel_rfl) ?_
            repeat (go_big_quiet_step ((first | (go_at_call 19; exact quietB (KV.out _ J1.out)) | (go_at_call 106; exact quietB (fun W _ => width_any _ _ _ _ W)))))
            refine wpQuiet_nil ?_
            intro _ hw'
            obtain ⟨⟨dq, osq⟩, hw''⟩ := hw'
            subst hw''
            go_wp2
            go_ret
            exact ⟨ret_bool HF.out.symm, hbw'.trans ((below_regrown WW dq osq).mono hbw'.size)⟩
        · have k1 := Lib.hid k1; have k2 := Lib.hid k2; have k3 := Lib.hid k3
          have hcy := Lib.hid (show ∀ (v : Bool), betB ts[k].carry 0 1 = v → (ts.take (k + 1)).all (triGood (ts.headD default).a) = v from fun v hv => by rw [all_take_succ hkl, HD.out, HH.out, HT.out, k1.out, k2.out, k3.out, hv]; rfl)
          rcases h4 : betB ts[k].carry 0 1 with _ | _
          · have HF : Hid (vtrials ts = false) := by
              simp only [Hid, vtrials]; rw [all_not hkl]; rfl
              rw [HH.out, HT.out, k1.out, k2.out, k3.out, h4]; rfl
            have H4 := Lib.hid h4; clear h4
            go_wp2_with (go_at_call 97; refine (between_any _ _ _ _).mono ?_; rintro e w' ⟨rfl, rfl⟩; rw [H4.out])
            go_ret
            exact ⟨ret_bool HF.out.symm, hbw⟩
          · have H4 := Lib.hid h4; clear h4
            go_wp2_with (go_at_call 97; refine (between_any _ _ _ _).mono ?_; rintro e w' ⟨rfl, rfl⟩; rw [H4.out])
            go_roundw
            case rel => exact ⟨k + 1, by omega, by go_num, hcy.out _ H4.out, hbw⟩
            case measure => simp [intOf]; omega
    · have HK : Hid (ts.all (triGood (ts.headD default).a) = true) := by have h1 := HD.out; rwa [List.take_of_length_le (by have := HL.out; omega)] at h1
      go_wp2_with (go_at_call 97; refine (between_any _ _ _ _).mono ?_; rintro e w' ⟨rfl, rfl⟩)
      go_ret
      exact ⟨ret_bool (by unfold vtrials; rw [HK.out, HL.out]; rfl), hbr⟩
end Go.Proofs.YtcngeifkddhkmaaDoor
