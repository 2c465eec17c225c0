/- Part 6: lemmas and contracts of the claim's functions. -/
import Derived.Test.YtkfbfainhmkkdaaGreatZC1
import Derived.Test.YtkfbfainhmkkdaaGreatZC2
import Derived.Test.YtkfbfainhmkkdaaGreatZC3
import Derived.Test.YtkfbfainhmkkdaaGreatZC4
import Derived.Test.YtkfbfainhmkkdaaGreatZC5
import Derived.Deep.RegionHeld3
namespace Go.Proofs.YtkfbfainhmkkdaaGreat
open Go.RowKit Go.Sort
/-- a machine, a number, a code -/
def MSRet (M : Tri) (n c : Int) (w : World) (e : Ending) (w' : World) : Prop := ∃ A1 c1 A2 c2 A3 c3, e = .returned (.tuple #[.agg #[.int .i64 M.a.base, .slice A1 M.a.digits.length c1, .int .i64 M.b.base, .slice A2 M.b.digits.length c2, .int .i64 M.s.base, .slice A3 M.s.digits.length c3, .int .i64 M.carry], .int .i64 n, .int .i64 c]) ∧
  Kn w [rowI A3 c3 M.s.digits, rowI A2 c2 M.b.digits, rowI A1 c1 M.a.digits] w'
theorem MSRet.bad {w w' : World} {c : Int} (h : Kn w [] w') : MSRet zTri 0 c w (.returned (.tuple #[.agg #[.int .i64 0, .slice none 0 0, .int .i64 0, .slice none 0 0, .int .i64 0, .slice none 0 0, .int .i64 0], .int .i64 0, .int .i64 c])) w' :=
  ⟨none, 0, none, 0, none, 0, rfl, ((h.nilRow _ _).nilRow _ _).nilRow _ _⟩
noncomputable def soC (t : Tri) (vs : List Int) : Int := if vmach t = false then 1 else if spC vs = 0 then rpC (sumL vs) (clrT t) else spC vs
noncomputable def soM (t : Tri) (vs : List Int) : Tri := if vmach t = true ∧ spC vs = 0 then rpM (sumL vs) (clrT t) else zTri
noncomputable def soN (t : Tri) (vs : List Int) : Int := if vmach t = true ∧ spC vs = 0 then ((rpT (sumL vs) (clrT t)).length : Int) else 0
def SORet (t : Tri) (vs : List Int) (w : World) (e : Ending) (w' : World) : Prop := MSRet (soM t vs) (soN t vs) (soC t vs) w e w'
theorem so_bad {t : Tri} {vs : List Int} (h : vmach t = false) : soM t vs = zTri ∧ soN t vs = 0 ∧ soC t vs = 1 := by
  refine ⟨?_, ?_, ?_⟩
  · unfold soM; rw [if_neg (fun hh => by rw [h] at hh; exact absurd hh.1 (by decide))]
  · unfold soN; rw [if_neg (fun hh => by rw [h] at hh; exact absurd hh.1 (by decide))]
  · unfold soC; rw [if_pos h]
theorem so_bad2 {t : Tri} {vs : List Int} (h : vmach t = true) (h2 : ¬ spC vs = 0) : soM t vs = zTri ∧ soN t vs = 0 ∧ soC t vs = spC vs := by
  refine ⟨?_, ?_, ?_⟩
  · unfold soM; rw [if_neg (fun hh => h2 hh.2)]
  · unfold soN; rw [if_neg (fun hh => h2 hh.2)]
  · unfold soC; rw [if_neg (by rw [h]; decide), if_neg h2]
theorem so_fine {t : Tri} {vs : List Int} (h : vmach t = true) (h2 : spC vs = 0) : soM t vs = rpM (sumL vs) (clrT t) ∧ soN t vs = ((rpT (sumL vs) (clrT t)).length : Int) ∧ soC t vs = rpC (sumL vs) (clrT t) := by
  refine ⟨?_, ?_, ?_⟩
  · unfold soM; rw [if_pos ⟨h, h2⟩]
  · unfold soN; rw [if_pos ⟨h, h2⟩]
  · unfold soC; rw [if_neg (by rw [h]; decide), if_pos h2]
theorem soM_len (t : Tri) (vs : List Int) : (soM t vs).a.digits.length ≤ 16 ∧ (soM t vs).b.digits.length ≤ 16 ∧ (soM t vs).s.digits.length ≤ 16 := by
  unfold soM
  split
  · exact rpM_len _ _
  · exact ⟨by decide, by decide, by decide⟩
end Go.Proofs.YtkfbfainhmkkdaaGreat

namespace Go.Proofs.YtkfbfainhmkkdaaGreat
open Go.RowKit Go.Sort
theorem info_ins : (Tryz.prog.info? 80).map (fun i => (i.zero, i.size, i.bytes)) = some (some (.agg #[.int .i64 0, .int .i64 0]), 2, 16) := by kernel_rfl
theorem cellsIns_ext {xs : List Ins} {cs : List Value} (hl : cs.length = xs.length * 2) (h : ∀ (i : Nat) (h : i < xs.length), cs[i * 2]? = some (.int .i64 xs[i].op) ∧ cs[i * 2 + 1]? = some (.int .i64 xs[i].arg)) : cs = cellsIns xs := by
  apply List.ext_getElem?
  intro j
  by_cases hj : j < xs.length * 2
  · obtain ⟨h1, h2⟩ := h (j / 2) (by omega)
    obtain ⟨h3, h4⟩ := cellsIns_get xs (j / 2) (by omega)
    rcases Nat.mod_two_eq_zero_or_one j with he | he
    · have e : j / 2 * 2 = j := by omega
      rw [e] at h1 h3; rw [h1, h3]
    · have e : j / 2 * 2 + 1 = j := by omega
      rw [e] at h2 h4; rw [h2, h4]
  · rw [List.getElem?_eq_none (by omega), List.getElem?_eq_none (by rw [cellsIns_len]; omega)]
def rowInsN (A : Option Addr) (n c : Nat) (xs : List Ins) : Ent := .row (.slice A n c) 80 2 n (cellsIns xs)
theorem Kn.rlInsN {w0 w : World} {m : List Ent} {A : Option Addr} {n c : Nat} {xs : List Ins} (h : Kn w0 (rowInsN A n c xs :: m) w) (hl : xs.length = n) : RL InsM 2 w A n xs := by
  subst hl
  exact (Kn.rlIns (m := m) h).2
/-- the first j cells are marked -/
def markedV (k : Int) (cs : List Value) (j : Nat) : List Value := (upto k j).map (Value.int .i64) ++ cs.drop j
theorem markedV_set (k : Int) (cs : List Value) {j : Nat} (h : j < cs.length) : (markedV k cs j).set j (.int .i64 (k + j)) = markedV k cs (j + 1) := by
  unfold markedV
  rw [List.set_append_right _ _ (by rw [List.length_map, upto_len]; exact Nat.le_refl _), List.length_map, upto_len, Nat.sub_self, List.drop_eq_getElem_cons h, List.set_cons_zero]
  simp [upto, List.range_succ]
theorem markedV_len (k : Int) (cs : List Value) {j : Nat} (h : j ≤ cs.length) : (markedV k cs j).length = cs.length := by simp [markedV, upto_len]; omega
end Go.Proofs.YtkfbfainhmkkdaaGreat

namespace Go.Proofs.YtkfbfainhmkkdaaGreat
open Go.RowKit Go.Sort
set_option maxHeartbeats 400000 in
theorem sameNumbers_any (A B : Option Addr) (n c m d : Nat) (ds es : List Int) (w : World) (hr : RI w A n ds) (hs : RI w B m es) (hm : n ≤ 9223372036854775807) (hm2 : m ≤ 9223372036854775807) :
    Calls Tryz.prog 151 #[.slice A n c, .slice B m d] w fun e w' => e = .returned (.bool (decide (ds = es))) ∧ ∃ q, w' = w.drewN q := by
  have HL := Lib.hid hr.1
  have HM := Lib.hid hs.1
  by_cases hnm : n = m
  · subst hnm
    go_enter Tryz.func151, Tryz.ntmps151
    go_wp2
    go_loopw [13] (fun i wr => ∃ k : Nat, k ≤ n ∧ i = .int .i64 k ∧ ds.take k = es.take k ∧ ∃ q, wr = w.drewN q) (fun i _ => n - (intOf i).toNat)
    case atStart => exact ⟨0, Nat.zero_le _, rfl, by simp, 0, rfl⟩
    case round =>
      obtain ⟨k, hk, rfl, hdg, q, rfl⟩ := hrel
      have HD := Lib.hid hdg; clear hdg
      by_cases hkn : k < n
      · obtain ⟨ad, hA, hlt, hkl, hc⟩ := hr.at_ hkn
        obtain ⟨ad2, hB, hlt2, hkl2, hc2⟩ := hs.at_ hkn
        subst hA; subst hB
        have hi0 : (0 : Int) ≤ (k : Int) := by omega
        have hi1 : (k : Int) < (n : Int) := by omega
        rcases hd : (ds[k] != es[k]) with _ | _
        · go_wp2
          go_quiet (fail)
          go_wp2
          have he : ds[k] = es[k] := by simpa using hd
          have HE := Lib.hid he; clear he
          go_roundw
          case rel => exact ⟨k + 1, by omega, by go_num, take_eq_of_succ HD.out hkl hkl2 HE.out, by first | exact ⟨_, rfl⟩ | exact ⟨_, World.drewN_drewN _ _ _⟩⟩
          case measure => simp [intOf]; omega
        · go_wp2
          go_quiet (fail)
          go_wp2
          go_ret
          refine ⟨ret_bool ?_, by first | exact ⟨_, rfl⟩ | exact ⟨_, World.drewN_drewN _ _ _⟩⟩
          have : ds ≠ es := by rintro rfl; simp at hd
          simp [this]
      · have HF : Hid (ds = es) := by
          have := HD.out
          rwa [List.take_of_length_le (by have := HL.out; omega), List.take_of_length_le (by have := HM.out; omega)] at this
        go_wp2
        go_ret
        exact ⟨ret_bool (by simp [HF.out]), q, rfl⟩
  · have HF : Hid (ds ≠ es) := by rintro rfl; exact hnm (hr.1.symm.trans hs.1)
    go_enter Tryz.func151, Tryz.ntmps151
    go_wp2
    go_ret
    exact ⟨ret_bool (by simp [HF.out]), 0, rfl⟩
set_option maxHeartbeats 400000 in
theorem l00Same_any (A B : Option Addr) (n c m d : Nat) (ds es : List Int) (w : World) (hr : RI w A n ds) (hs : RI w B m es) (hm : n ≤ 9223372036854775807) (hm2 : m ≤ 9223372036854775807) :
    Calls Tryz.prog 147 #[.slice A n c, .slice B m d] w fun e w' => e = .returned (.bool (decide (ds = es))) ∧ ∃ q, w' = w.drewN q := by
  have HL := Lib.hid hr.1
  have HM := Lib.hid hs.1
  by_cases hnm : n = m
  · subst hnm
    go_enter Tryz.func147, Tryz.ntmps147
    go_wp2
    go_loopw [5] (fun i wr => ∃ k : Nat, k ≤ n ∧ i = .int .i64 k ∧ ds.take k = es.take k ∧ ∃ q, wr = w.drewN q) (fun i _ => n - (intOf i).toNat)
    case atStart => exact ⟨0, Nat.zero_le _, rfl, by simp, 0, rfl⟩
    case round =>
      obtain ⟨k, hk, rfl, hdg, q, rfl⟩ := hrel
      have HD := Lib.hid hdg; clear hdg
      by_cases hkn : k < n
      · obtain ⟨ad, hA, hlt, hkl, hc⟩ := hr.at_ hkn
        obtain ⟨ad2, hB, hlt2, hkl2, hc2⟩ := hs.at_ hkn
        subst hA; subst hB
        have hi0 : (0 : Int) ≤ (k : Int) := by omega
        have hi1 : (k : Int) < (n : Int) := by omega
        rcases hd : (ds[k] != es[k]) with _ | _
        · go_wp2
          go_quiet (fail)
          go_wp2
          have he : ds[k] = es[k] := by simpa using hd
          have HE := Lib.hid he; clear he
          go_roundw
          case rel => exact ⟨k + 1, by omega, by go_num, take_eq_of_succ HD.out hkl hkl2 HE.out, by first | exact ⟨_, rfl⟩ | exact ⟨_, World.drewN_drewN _ _ _⟩⟩
          case measure => simp [intOf]; omega
        · go_wp2
          go_quiet (fail)
          go_wp2
          go_ret
          refine ⟨ret_bool ?_, by first | exact ⟨_, rfl⟩ | exact ⟨_, World.drewN_drewN _ _ _⟩⟩
          have : ds ≠ es := by rintro rfl; simp at hd
          simp [this]
      · have HF : Hid (ds = es) := by
          have := HD.out
          rwa [List.take_of_length_le (by have := HL.out; omega), List.take_of_length_le (by have := HM.out; omega)] at this
        go_wp2
        go_ret
        exact ⟨ret_bool (by simp [HF.out]), q, rfl⟩
  · have HF : Hid (ds ≠ es) := by rintro rfl; exact hnm (hr.1.symm.trans hs.1)
    go_enter Tryz.func147, Tryz.ntmps147
    go_wp2
    go_ret
    exact ⟨ret_bool (by simp [HF.out]), 0, rfl⟩
def sameR (r s : Reg) : Bool := r.base == s.base && decide (r.digits = s.digits)
theorem SameRegister_any (r s : Reg) (A B : Option Addr) (c d : Nat) (w : World) (hr : RI w A r.digits.length r.digits) (hs : RI w B s.digits.length s.digits) (hm : SmallReg r) (hm2 : SmallReg s) :
    Calls Tryz.prog 127 #[.agg #[.int .i64 r.base, .slice A r.digits.length c], .agg #[.int .i64 s.base, .slice B s.digits.length d]] w fun e w' => e = .returned (.bool (sameR r s)) ∧ Below w.heap.size w w' := by
  have hb0 : Below w.heap.size w ((w.alloc (.cells #[.int .i64 r.base, .slice A r.digits.length c] 26)).alloc (.cells #[.int .i64 s.base, .slice B s.digits.length d] 26)) := ((Below.refl _ _).alloc (Nat.le_refl _) _).alloc (by simp) _
  unfold SmallReg at hm hm2
  rcases k : (r.base == s.base) with _ | _
  · have HF : Hid (sameR r s = false) := by simp only [Hid, sameR]; rw [k]; rfl
    go_enter Tryz.func127, Tryz.ntmps127
    go_wp2
    go_ret
    exact ⟨ret_bool HF.out.symm, hb0⟩
  · have HF : Hid (sameR r s = decide (r.digits = s.digits)) := by simp only [Hid, sameR]; rw [k]; rfl
    go_enter Tryz.func127, Tryz.ntmps127
    go_wp2_with (go_at_call 151; refine (sameNumbers_any A B _ c _ d r.digits s.digits _ (hr.below hb0) (hs.below hb0) (by omega) (by omega)).mono ?_; rintro e w1 ⟨rfl, q, rfl⟩)
    go_ret
    exact ⟨ret_bool HF.out.symm, below_drewN hb0 _⟩
theorem l02Same_any (p q : Addr) (r s : Reg) (w : World) (hp : RegM w p r) (hq : RegM w q s) (hm : SmallReg r) (hm2 : SmallReg s) :
    Calls Tryz.prog 118 #[.pointer (some p), .pointer (some q)] w fun e w' => e = .returned (.bool (sameR r s)) ∧ ∃ m, w' = w.drewN m := by
  obtain ⟨A, c, ⟨ha, hb⟩, hr⟩ := hp
  obtain ⟨B, d, ⟨ha0, hb0⟩, hs⟩ := hq
  unfold SmallReg at hm hm2
  have K1 := Lib.hid (fun (m : Nat) => l00Same_any A B _ c _ d r.digits s.digits (w.drewN m) hr hs (by omega) (by omega))
  rcases k : (r.base == s.base) with _ | _
  · have HF : Hid (sameR r s = false) := by simp only [Hid, sameR]; rw [k]; rfl
    go_enter Tryz.func118, Tryz.ntmps118
    go_wp2_with fail
    go_quiet ((go_at_call 147; exact quiet_of_ex (K1.out _)))
    go_wp2
    go_ret
    exact ⟨ret_bool HF.out.symm, _, rfl⟩
  · have HF : Hid (sameR r s = decide (r.digits = s.digits)) := by simp only [Hid, sameR]; rw [k]; rfl
    go_enter Tryz.func118, Tryz.ntmps118
    go_wp2_with fail
    go_quiet ((go_at_call 147; exact quiet_of_ex (K1.out _)))
    go_wp2
    go_ret
    exact ⟨ret_bool HF.out.symm, _, rfl⟩
/-- the carry out of a digit with a kind of fault -/
def cstep (base t c kind : Int) : Int := if kind = 1 then 0 else if kind = 2 then 1 else if kind = 3 then (if t < base then 0 else 1) else if t + c < base then 0 else 1
end Go.Proofs.YtkfbfainhmkkdaaGreat

namespace Go.Proofs.YtkfbfainhmkkdaaGreat
open Go.RowKit Go.Sort
def sameM (t u : Tri) : Bool := sameR t.a u.a && sameR t.b u.b && sameR t.s u.s && (t.carry == u.carry)
theorem sameR_refl (r : Reg) : sameR r r = true := by simp [sameR]
theorem sameM_refl (t : Tri) : sameM t t = true := by simp [sameM, sameR_refl]
set_option maxRecDepth 100000 in
set_option maxHeartbeats 1600000 in
theorem l10Same_any (p q : Addr) (t u : Tri) (w : World) (hT : TriM w p t) (hU : TriM w q u) (hs : SmallTri t) (hu : SmallTri u) :
    Calls Tryz.prog 72 #[.pointer (some p), .pointer (some q)] w fun e w' => e = .returned (.bool (sameM t u)) ∧ ∃ m, w' = w.drewN m := by
  have HM := Lib.hid (show sameM t u = (sameR t.a u.a && sameR t.b u.b && sameR t.s u.s && (t.carry == u.carry)) from rfl)
  have K1 := (fun (m : Nat) => l02Same_any p q t.a u.a (w.drewN m) hT.1 hU.1 hs.1 hu.1)
  have K2 := (fun (m : Nat) => l02Same_any ⟨p.block, p.off + 2, none⟩ ⟨q.block, q.off + 2, none⟩ t.b u.b (w.drewN m) hT.2.1 hU.2.1 hs.2.1 hu.2.1)
  have K3 := (fun (m : Nat) => l02Same_any ⟨p.block, p.off + 4, none⟩ ⟨q.block, q.off + 4, none⟩ t.s u.s (w.drewN m) hT.2.2.1 hU.2.2.1 hs.2.2 hu.2.2)
  have hc1 := hT.2.2.2
  have hc2 := hU.2.2.2
  obtain ⟨e1, h1⟩ : ∃ b, sameR t.a u.a = b := ⟨_, rfl⟩
  obtain ⟨e2, h2⟩ : ∃ b, sameR t.b u.b = b := ⟨_, rfl⟩
  obtain ⟨e3, h3⟩ : ∃ b, sameR t.s u.s = b := ⟨_, rfl⟩
  rw [h1] at K1 HM
  rw [h2] at K2 HM
  rw [h3] at K3 HM
  replace K1 := Lib.hid K1
  replace K2 := Lib.hid K2
  replace K3 := Lib.hid K3
  obtain ⟨R, hR⟩ : ∃ R, sameM t u = R := ⟨_, rfl⟩
  rw [hR] at HM ⊢
  clear h1 h2 h3 hT hU hs hu hR
  rcases e1 with _ | _
  · have HQ : Hid (R = false) := by simp only [Hid]; rw [HM.out]; rfl
    go_enter Tryz.func72, Tryz.ntmps72
    go_wp2_with fail
    go_quiet ((go_at_call 118; first | (with_reducible exact quiet_of_ex (K1.out _)) | (with_reducible exact quiet_add_ex (K1.out _)) | (with_reducible exact quiet_of_ex (K2.out _)) | (with_reducible exact quiet_add_ex (K2.out _)) | (with_reducible exact quiet_of_ex (K3.out _)) | (with_reducible exact quiet_add_ex (K3.out _))))
    go_wp2_with fail
    go_ret
    exact ⟨ret_bool HQ.out.symm, by first | exact ⟨_, rfl⟩ | exact ⟨_, World.drewN_drewN _ _ _⟩⟩
  rcases e2 with _ | _
  · have HQ : Hid (R = false) := by simp only [Hid]; rw [HM.out]; rfl
    go_enter Tryz.func72, Tryz.ntmps72
    go_wp2_with fail
    go_quiet ((go_at_call 118; first | (with_reducible exact quiet_of_ex (K1.out _)) | (with_reducible exact quiet_add_ex (K1.out _)) | (with_reducible exact quiet_of_ex (K2.out _)) | (with_reducible exact quiet_add_ex (K2.out _)) | (with_reducible exact quiet_of_ex (K3.out _)) | (with_reducible exact quiet_add_ex (K3.out _))))
    go_wp2_with fail
    go_ret
    exact ⟨ret_bool HQ.out.symm, by first | exact ⟨_, rfl⟩ | exact ⟨_, World.drewN_drewN _ _ _⟩⟩
  rcases e3 with _ | _
  · have HQ : Hid (R = false) := by simp only [Hid]; rw [HM.out]; rfl
    go_enter Tryz.func72, Tryz.ntmps72
    go_wp2_with fail
    go_quiet ((go_at_call 118; first | (with_reducible exact quiet_of_ex (K1.out _)) | (with_reducible exact quiet_add_ex (K1.out _)) | (with_reducible exact quiet_of_ex (K2.out _)) | (with_reducible exact quiet_add_ex (K2.out _)) | (with_reducible exact quiet_of_ex (K3.out _)) | (with_reducible exact quiet_add_ex (K3.out _))))
    go_wp2_with fail
    go_ret
    exact ⟨ret_bool HQ.out.symm, by first | exact ⟨_, rfl⟩ | exact ⟨_, World.drewN_drewN _ _ _⟩⟩
  · have HQ : Hid (R = (t.carry == u.carry)) := by simp only [Hid]; rw [HM.out]; simp
    go_enter Tryz.func72, Tryz.ntmps72
    go_wp2_with fail
    go_quiet ((go_at_call 118; first | (with_reducible exact quiet_of_ex (K1.out _)) | (with_reducible exact quiet_add_ex (K1.out _)) | (with_reducible exact quiet_of_ex (K2.out _)) | (with_reducible exact quiet_add_ex (K2.out _)) | (with_reducible exact quiet_of_ex (K3.out _)) | (with_reducible exact quiet_add_ex (K3.out _))))
    go_wp2_with fail
    go_ret
    exact ⟨ret_bool HQ.out.symm, by first | exact ⟨_, rfl⟩ | exact ⟨_, World.drewN_drewN _ _ _⟩⟩
theorem specSameMachine_any (t u : Tri) (A1 A2 A3 B1 B2 B3 : Option Addr) (c1 c2 c3 d1 d2 d3 : Nat) (w : World) (r1 : RI w A1 t.a.digits.length t.a.digits) (r2 : RI w A2 t.b.digits.length t.b.digits) (r3 : RI w A3 t.s.digits.length t.s.digits)
    (q1 : RI w B1 u.a.digits.length u.a.digits) (q2 : RI w B2 u.b.digits.length u.b.digits) (q3 : RI w B3 u.s.digits.length u.s.digits) (hs : SmallTri t) (hu : SmallTri u) :
    Calls Tryz.prog 16 #[.agg #[.int .i64 t.a.base, .slice A1 t.a.digits.length c1, .int .i64 t.b.base, .slice A2 t.b.digits.length c2, .int .i64 t.s.base, .slice A3 t.s.digits.length c3, .int .i64 t.carry], .agg #[.int .i64 u.a.base, .slice B1 u.a.digits.length d1, .int .i64 u.b.base, .slice B2 u.b.digits.length d2, .int .i64 u.s.base, .slice B3 u.s.digits.length d3, .int .i64 u.carry]] w fun e w' => e = .returned (.bool (sameM t u)) ∧ Below w.heap.size w w' := by
  have KV := Lib.hid (fun W (hW : Kn w ([.blk (w.heap.size + 1) [.int .i64 u.a.base, .slice B1 u.a.digits.length d1, .int .i64 u.b.base, .slice B2 u.b.digits.length d2, .int .i64 u.s.base, .slice B3 u.s.digits.length d3, .int .i64 u.carry] 28, .blk w.heap.size [.int .i64 t.a.base, .slice A1 t.a.digits.length c1, .int .i64 t.b.base, .slice A2 t.b.digits.length c2, .int .i64 t.s.base, .slice A3 t.s.digits.length c3, .int .i64 t.carry] 28]) W) => l10Same_any ⟨w.heap.size, 0, none⟩ ⟨w.heap.size + 1, 0, none⟩ t u W
    (TriC.tri (A1 := A1) (c1 := c1) (A2 := A2) (c2 := c2) (A3 := A3) (c3 := c3) ⟨⟨hW.drop.blkAt.1 0, hW.drop.blkAt.1 1, hW.drop.blkAt.1 2, hW.drop.blkAt.1 3, hW.drop.blkAt.1 4, hW.drop.blkAt.1 5, hW.drop.blkAt.1 6⟩, r1.below hW.below, r2.below hW.below, r3.below hW.below⟩)
    (TriC.tri (A1 := B1) (c1 := d1) (A2 := B2) (c2 := d2) (A3 := B3) (c3 := d3) ⟨⟨hW.blkAt.1 0, hW.blkAt.1 1, hW.blkAt.1 2, hW.blkAt.1 3, hW.blkAt.1 4, hW.blkAt.1 5, hW.blkAt.1 6⟩, q1.below hW.below, q2.below hW.below, q3.below hW.below⟩) hs hu)
  clear r1 r2 r3 q1 q2 q3
  go_enter Tryz.func16, Tryz.ntmps16
  go_wp2_with fail
  refine Calls.kn (((Kn.nil w).al [.int .i64 t.a.base, .slice A1 t.a.digits.length c1, .int .i64 t.b.base, .slice A2 t.b.digits.length c2, .int .i64 t.s.base, .slice A3 t.s.digits.length c3, .int .i64 t.carry] 28).al [.int .i64 u.a.base, .slice B1 u.a.digits.length d1, .int .i64 u.b.base, .slice B2 u.b.digits.length d2, .int .i64 u.s.base, .slice B3 u.s.digits.length d3, .int .i64 u.carry] 28) ?_; intro w1 hK0
  simp only [World.size_alloc] at hK0
  refine (KV.out _ hK0).mono ?_; rintro e w2 ⟨rfl, m, rfl⟩
  go_wp2_with fail
  go_ret
  exact ⟨rfl, (hK0.drewN m).below⟩
end Go.Proofs.YtkfbfainhmkkdaaGreat

namespace Go.Proofs.YtkfbfainhmkkdaaGreat
open Go.RowKit Go.Sort
/-- a base and widths are those of machines -/
def nmOk (b n1 n2 n3 : Int) : Bool := (betB b 2 16 && betB n1 1 16 && betB n2 1 16 && betB n3 1 16) && vmach (newT b n1.toNat n2.toNat n3.toNat)
theorem regWidth_any (n : Int) (w : World) : Calls Tryz.prog 120 #[.int .i64 n] w fun e w' => e = .returned (.bool (betB n 1 16)) ∧ w = w' := by
  go_enter Tryz.func120, Tryz.ntmps120
  go_wp2_with (go_at_call 51; refine (between_any _ _ _ _).mono ?_; rintro e w' ⟨rfl, rfl⟩)
  go_ret
  exact ⟨rfl, rfl⟩
theorem l07Size_any (n : Int) (w : World) : Calls Tryz.prog 132 #[.int .i64 n] w fun e w' => e = .returned (.bool (betB n 1 16)) ∧ w = w' := by
  go_enter Tryz.func132, Tryz.ntmps132
  go_wp2_with (go_at_call 59; refine (l00In_any _ _ _ _).mono ?_; rintro e w' ⟨rfl, rfl⟩)
  go_ret
  exact ⟨rfl, rfl⟩
theorem NewMachine_range (b n1 n2 n3 : Int) (w : World) (h : (betB b 2 16 && betB n1 1 16 && betB n2 1 16 && betB n3 1 16) = false) :
    Calls Tryz.prog 130 #[.int .i64 b, .int .i64 n1, .int .i64 n2, .int .i64 n3] w fun e w' => e = .returned (.tuple #[.agg #[.int .i64 0, .slice none 0 0, .int .i64 0, .slice none 0 0, .int .i64 0, .slice none 0 0, .int .i64 0], .int .i64 2]) ∧ Below w.heap.size w w' := by
  have KB := (fun W => isBase_any b W)
  have K1 := (fun W => regWidth_any n1 W)
  have K2 := (fun W => regWidth_any n2 W)
  have K3 := (fun W => regWidth_any n3 W)
  rcases chain4 (betB b 2 16) (betB n1 1 16) (betB n2 1 16) (betB n3 1 16) with h1 | ⟨h1, h2⟩ | ⟨h1, h2, h3⟩ | ⟨h1, h2, h3, h4⟩ | ⟨h1, h2, h3, h4⟩
  case inr.inr.inr.inr => rw [h1, h2, h3, h4] at h; cases h
  all_goals
    rw [h1] at KB
    try rw [h2] at K1
    try rw [h3] at K2
    try rw [h4] at K3
    clear h h1
    try clear h2
    try clear h3
    try clear h4
    have KB := Lib.hid KB
    have K1 := Lib.hid K1
    have K2 := Lib.hid K2
    have K3 := Lib.hid K3
    go_enter Tryz.func130, Tryz.ntmps130
    go_wp2_with (first | (go_at_call 113; refine (KB.out _).mono ?_; rintro e w' ⟨rfl, rfl⟩) | (go_at_call 120; first | (with_reducible refine (K1.out _).mono ?_; rintro e w' ⟨rfl, rfl⟩) | (with_reducible refine (K2.out _).mono ?_; rintro e w' ⟨rfl, rfl⟩) | (with_reducible refine (K3.out _).mono ?_; rintro e w' ⟨rfl, rfl⟩)))
    refine bodyPost.kn ((Kn.nil w).al [.int .i64 0, .slice none 0 0, .int .i64 0, .slice none 0 0, .int .i64 0, .slice none 0 0, .int .i64 0] 28) ?_; intro w6 hK6
    obtain ⟨a1, a2, a3, -⟩ := hK6.cells
    exact bodyPost_ret (v := .tuple #[.agg #[.int .i64 0, .slice none 0 0, .int .i64 0, .slice none 0 0, .int .i64 0, .slice none 0 0, .int .i64 0], .int .i64 2]) (by simp [results, Tryz.results130, go_sem, a1]) rfl ⟨rfl, hK6.below⟩
theorem specNewMachine_range (b n1 n2 n3 : Int) (w : World) (h : (betB b 2 16 && betB n1 1 16 && betB n2 1 16 && betB n3 1 16) = false) :
    Calls Tryz.prog 95 #[.int .i64 b, .int .i64 n1, .int .i64 n2, .int .i64 n3] w fun e w' => e = .returned (.tuple #[.agg #[.int .i64 0, .slice none 0 0, .int .i64 0, .slice none 0 0, .int .i64 0, .slice none 0 0, .int .i64 0], .int .i64 2]) ∧ Below w.heap.size w w' := by
  have KB := (fun W => l02Base_any b W)
  have K1 := (fun W => l07Size_any n1 W)
  have K2 := (fun W => l07Size_any n2 W)
  have K3 := (fun W => l07Size_any n3 W)
  rcases chain4 (betB b 2 16) (betB n1 1 16) (betB n2 1 16) (betB n3 1 16) with h1 | ⟨h1, h2⟩ | ⟨h1, h2, h3⟩ | ⟨h1, h2, h3, h4⟩ | ⟨h1, h2, h3, h4⟩
  case inr.inr.inr.inr => rw [h1, h2, h3, h4] at h; cases h
  all_goals
    rw [h1] at KB
    try rw [h2] at K1
    try rw [h3] at K2
    try rw [h4] at K3
    clear h h1
    try clear h2
    try clear h3
    try clear h4
    have KB := Lib.hid KB
    have K1 := Lib.hid K1
    have K2 := Lib.hid K2
    have K3 := Lib.hid K3
    go_enter Tryz.func95, Tryz.ntmps95
    go_wp2_with (first | (go_at_call 131; refine (KB.out _).mono ?_; rintro e w' ⟨rfl, rfl⟩) | (go_at_call 132; first | (with_reducible refine (K1.out _).mono ?_; rintro e w' ⟨rfl, rfl⟩) | (with_reducible refine (K2.out _).mono ?_; rintro e w' ⟨rfl, rfl⟩) | (with_reducible refine (K3.out _).mono ?_; rintro e w' ⟨rfl, rfl⟩)))
    refine bodyPost.kn ((Kn.nil w).al [.int .i64 0, .slice none 0 0, .int .i64 0, .slice none 0 0, .int .i64 0, .slice none 0 0, .int .i64 0] 28) ?_; intro w6 hK6
    obtain ⟨a1, a2, a3, -⟩ := hK6.cells
    exact bodyPost_ret (v := .tuple #[.agg #[.int .i64 0, .slice none 0 0, .int .i64 0, .slice none 0 0, .int .i64 0, .slice none 0 0, .int .i64 0], .int .i64 2]) (by simp [results, Tryz.results95, go_sem, a1]) rfl ⟨rfl, hK6.below⟩
/-- what NewMachine returns for widths in range -/
def NMRet (b : Int) (n1 n2 n3 : Nat) (v : Bool) (w : World) (e : Ending) (w' : World) : Prop :=
  (v = true ∧ ∃ E1 g1 E2 g2 E3 g3, e = .returned (.tuple #[.agg #[.int .i64 b, .slice E1 (digD b n1 0).length g1, .int .i64 b, .slice E2 (digD b n2 0).length g2, .int .i64 b, .slice E3 (digD b n3 0).length g3, .int .i64 0], .int .i64 0]) ∧ Kn w [rowI E3 g3 (digD b n3 0), rowI E2 g2 (digD b n2 0), rowI E1 g1 (digD b n1 0)] w') ∨
  (v = false ∧ e = .returned (.tuple #[.agg #[.int .i64 0, .slice none 0 0, .int .i64 0, .slice none 0 0, .int .i64 0, .slice none 0 0, .int .i64 0], .int .i64 2]) ∧ Below w.heap.size w w')
set_option maxRecDepth 100000 in
set_option maxHeartbeats 3200000 in
theorem specNewMachine_any (b : Int) (n1 n2 n3 : Nat) (v : Bool) (w : World) (hb1 : 2 ≤ b) (hb2 : b ≤ 16) (h1 : 1 ≤ n1) (h1' : n1 ≤ 16) (h2 : 1 ≤ n2) (h2' : n2 ≤ 16) (h3 : 1 ≤ n3) (h3' : n3 ≤ 16) (hv : vmach (newT b n1 n2 n3) = v) :
    Calls Tryz.prog 95 #[.int .i64 b, .int .i64 n1, .int .i64 n2, .int .i64 n3] w (NMRet b n1 n2 n3 v w) := by
  have B0 : betB b 2 16 = true := betB_iff.2 (by omega)
  have B1 : betB n1 1 16 = true := betB_iff.2 (by omega)
  have B2 : betB n2 1 16 = true := betB_iff.2 (by omega)
  have B3 : betB n3 1 16 = true := betB_iff.2 (by omega)
  have KB := Lib.hid (fun W => calls_val (l02Base_any b W) (congrArg Value.bool B0))
  have KW1 := Lib.hid (fun W => calls_val (l07Size_any n1 W) (congrArg Value.bool B1))
  have KW2 := Lib.hid (fun W => calls_val (l07Size_any n2 W) (congrArg Value.bool B2))
  have KW3 := Lib.hid (fun W => calls_val (l07Size_any n3 W) (congrArg Value.bool B3))
  unfold newT at hv
  have l1 := digD_len b n1 0
  have l2 := digD_len b n2 0
  have l3 := digD_len b n3 0
  unfold NMRet
  have KN := (fun W => l10New_any b n1 n2 n3 W hb1 hb2 (by omega) (by omega) (by omega))
  obtain ⟨x1, hx1⟩ : ∃ x, digD b n1 0 = x := ⟨_, rfl⟩
  obtain ⟨x2, hx2⟩ : ∃ x, digD b n2 0 = x := ⟨_, rfl⟩
  obtain ⟨x3, hx3⟩ : ∃ x, digD b n3 0 = x := ⟨_, rfl⟩
  rw [hx1] at KN hv l1 ⊢
  rw [hx2] at KN hv l2 ⊢
  rw [hx3] at KN hv l3 ⊢
  have KN := Lib.hid KN
  have KO := Lib.hid (fun (g : Nat) (E1 E2 E3 : Option Addr) (g1 g2 g3 : Nat) (W : World) (m : List Ent) (hK : Kn w (.blk g [.int .i64 b, .slice E1 x1.length g1, .int .i64 b, .slice E2 x2.length g2, .int .i64 b, .slice E3 x3.length g3, .int .i64 0] 28 :: rowI E3 g3 x3 :: rowI E2 g2 x2 :: rowI E1 g1 x1 :: m) W) =>
    calls_val (l10Ok_any ⟨g, 0, none⟩ ⟨⟨b, x1⟩, ⟨b, x2⟩, ⟨b, x3⟩, 0⟩ W (TriC.tri (A1 := E1) (c1 := g1) (A2 := E2) (c2 := g2) (A3 := E3) (c3 := g3) ⟨box7' hK, Kn.riv (hK.sel [3] 99 (by decide) (by decide)), Kn.riv (hK.sel [2] 99 (by decide) (by decide)), Kn.riv (hK.sel [1] 99 (by decide) (by decide))⟩) ⟨by unfold SmallReg; simp only []; omega, by unfold SmallReg; simp only []; omega, by unfold SmallReg; simp only []; omega⟩) (congrArg Value.bool hv))
  clear hx1 hx2 hx3 l1 l2 l3 B0 B1 B2 B3
  rcases v with _ | _
  all_goals
    clear hv
    go_enter Tryz.func95, Tryz.ntmps95
    go_wp2_with (first | (go_at_call 131; refine (KB.out _).mono ?_; rintro e w' ⟨rfl, rfl⟩) | (go_at_call 132; first | (with_reducible refine (KW1.out _).mono ?_; rintro e w' ⟨rfl, rfl⟩) | (with_reducible refine (KW2.out _).mono ?_; rintro e w' ⟨rfl, rfl⟩) | (with_reducible refine (KW3.out _).mono ?_; rintro e w' ⟨rfl, rfl⟩)))
    refine Calls.kn ((Kn.nil w).al [.int .i64 0, .slice none 0 0, .int .i64 0, .slice none 0 0, .int .i64 0, .slice none 0 0, .int .i64 0] 28) ?_; intro w1 hK1
    (with_reducible refine (KN.out _).mono ?_); rintro e w2 ⟨E1, g1, E2, g2, E3, g3, rfl, hKn⟩
    have hK2 := hK1.join hKn
    clear hK1 hKn
    go_wp2_with fail
    refine Calls.kn (hK2.al [.int .i64 b, .slice E1 x1.length g1, .int .i64 b, .slice E2 x2.length g2, .int .i64 b, .slice E3 x3.length g3, .int .i64 0] 28) ?_; intro w3 hK3
    refine (KO.out _ _ _ _ _ _ _ _ _ hK3).mono ?_; rintro e w4 ⟨rfl, q, rfl⟩
    have hK4 := hK3.drewN q
    generalize w3.drewN q = w4 at hK4 ⊢
    clear hK2 hK3
    obtain ⟨a1, a2, a3, d1, d2, d3, -⟩ := hK4.cells
    go_wp2_with fail
  · refine bodyPost.kn (((((((hK4.front 4 rfl).st 0 (.int .i64 0)).st 1 (.slice none 0 0)).st 2 (.int .i64 0)).st 3 (.slice none 0 0)).st 4 (.int .i64 0)).st 5 (.slice none 0 0) |>.st 6 (.int .i64 0)) ?_; intro w6 hK6
    clear a1 a2 a3 d1 d2 d3
    obtain ⟨a1, a2, a3, -⟩ := hK6.cells
    exact bodyPost_ret (v := .tuple #[.agg #[.int .i64 0, .slice none 0 0, .int .i64 0, .slice none 0 0, .int .i64 0, .slice none 0 0, .int .i64 0], .int .i64 2]) (by simp [results, Tryz.results95, go_sem, a1]) rfl (.inr ⟨by simp, by simp, hK6.below⟩)
  · refine bodyPost.kn (((((((hK4.front 4 rfl).st 0 (.int .i64 b)).st 1 (.slice E1 x1.length g1)).st 2 (.int .i64 b)).st 3 (.slice E2 x2.length g2)).st 4 (.int .i64 b)).st 5 (.slice E3 x3.length g3) |>.st 6 (.int .i64 0)) ?_; intro w6 hK6
    clear a1 a2 a3 d1 d2 d3
    obtain ⟨a1, a2, a3, -⟩ := hK6.cells
    exact bodyPost_ret (v := .tuple #[.agg #[.int .i64 b, .slice E1 x1.length g1, .int .i64 b, .slice E2 x2.length g2, .int .i64 b, .slice E3 x3.length g3, .int .i64 0], .int .i64 0]) (by simp [results, Tryz.results95, go_sem, a1]) rfl (.inl ⟨by simp, E1, g1, E2, g2, E3, g3, rfl, hK6.sel [2, 3, 4] 99 (by decide) (by decide)⟩)
set_option maxRecDepth 100000 in
set_option maxHeartbeats 3200000 in
theorem NewMachine_any (b : Int) (n1 n2 n3 : Nat) (v : Bool) (w : World) (hb1 : 2 ≤ b) (hb2 : b ≤ 16) (h1 : 1 ≤ n1) (h1' : n1 ≤ 16) (h2 : 1 ≤ n2) (h2' : n2 ≤ 16) (h3 : 1 ≤ n3) (h3' : n3 ≤ 16) (hv : vmach (newT b n1 n2 n3) = v) :
    Calls Tryz.prog 130 #[.int .i64 b, .int .i64 n1, .int .i64 n2, .int .i64 n3] w (NMRet b n1 n2 n3 v w) := by
  have B0 : betB b 2 16 = true := betB_iff.2 (by omega)
  have B1 : betB n1 1 16 = true := betB_iff.2 (by omega)
  have B2 : betB n2 1 16 = true := betB_iff.2 (by omega)
  have B3 : betB n3 1 16 = true := betB_iff.2 (by omega)
  have KB := Lib.hid (fun W => calls_val (isBase_any b W) (congrArg Value.bool B0))
  have KW1 := Lib.hid (fun W => calls_val (regWidth_any n1 W) (congrArg Value.bool B1))
  have KW2 := Lib.hid (fun W => calls_val (regWidth_any n2 W) (congrArg Value.bool B2))
  have KW3 := Lib.hid (fun W => calls_val (regWidth_any n3 W) (congrArg Value.bool B3))
  unfold newT at hv
  have l1 := digD_len b n1 0
  have l2 := digD_len b n2 0
  have l3 := digD_len b n3 0
  unfold NMRet
  have KR1 := (fun W => registerOf_any b n1 0 W hb1 hb2 (by omega) (by decide) (by decide))
  have KR2 := (fun W => registerOf_any b n2 0 W hb1 hb2 (by omega) (by decide) (by decide))
  have KR3 := (fun W => registerOf_any b n3 0 W hb1 hb2 (by omega) (by decide) (by decide))
  obtain ⟨x1, hx1⟩ : ∃ x, digD b n1 0 = x := ⟨_, rfl⟩
  obtain ⟨x2, hx2⟩ : ∃ x, digD b n2 0 = x := ⟨_, rfl⟩
  obtain ⟨x3, hx3⟩ : ∃ x, digD b n3 0 = x := ⟨_, rfl⟩
  rw [hx1] at KR1 hv l1 ⊢
  rw [hx2] at KR2 hv l2 ⊢
  rw [hx3] at KR3 hv l3 ⊢
  have KR1 := Lib.hid KR1
  have KR2 := Lib.hid KR2
  have KR3 := Lib.hid KR3
  have KO := Lib.hid (fun (E1 E2 E3 : Option Addr) (g1 g2 g3 : Nat) (W : World) (m : List Ent) (hK : Kn w (rowI E3 g3 x3 :: rowI E2 g2 x2 :: rowI E1 g1 x1 :: m) W) =>
    calls_val (ValidMachine_any ⟨⟨b, x1⟩, ⟨b, x2⟩, ⟨b, x3⟩, 0⟩ E1 E2 E3 g1 g2 g3 W (Kn.riv (hK.sel [2] 99 (by decide) (by decide))) (Kn.riv (hK.sel [1] 99 (by decide) (by decide))) (Kn.riv hK) ⟨by unfold SmallReg; simp only []; omega, by unfold SmallReg; simp only []; omega, by unfold SmallReg; simp only []; omega⟩) (congrArg Value.bool hv))
  clear hx1 hx2 hx3 l1 l2 l3 B0 B1 B2 B3
  rcases v with _ | _
  all_goals
    clear hv
    go_enter Tryz.func130, Tryz.ntmps130
    go_wp2_with (first | (go_at_call 113; refine (KB.out _).mono ?_; rintro e w' ⟨rfl, rfl⟩) | (go_at_call 120; first | (with_reducible refine (KW1.out _).mono ?_; rintro e w' ⟨rfl, rfl⟩) | (with_reducible refine (KW2.out _).mono ?_; rintro e w' ⟨rfl, rfl⟩) | (with_reducible refine (KW3.out _).mono ?_; rintro e w' ⟨rfl, rfl⟩)))
    refine Calls.kn (((Kn.nil w).al [.int .i64 0, .slice none 0 0, .int .i64 0, .slice none 0 0, .int .i64 0, .slice none 0 0, .int .i64 0] 28).al [.int .i64 0, .slice none 0 0, .int .i64 0, .slice none 0 0, .int .i64 0, .slice none 0 0, .int .i64 0] 28) ?_; intro w1 hK1
    simp only [World.size_alloc] at hK1
    (with_reducible refine (KR1.out _).mono ?_); rintro e w2 ⟨E1, g1, rfl, hKn⟩
    have hK2 := hK1.join hKn
    clear hK1 hKn
    obtain ⟨a1, a2, a3, d1, d2, d3, -⟩ := hK2.cells
    go_wp2_with fail
    refine Calls.kn (((hK2.front 1 rfl).st 0 (.int .i64 b)).st 1 (.slice E1 x1.length g1)) ?_; intro w3 hK3
    (with_reducible refine (KR2.out _).mono ?_); rintro e w4 ⟨E2, g2, rfl, hKn⟩
    have hK4 := hK3.join hKn
    clear hK2 hK3 hKn a1 a2 a3 d1 d2 d3
    obtain ⟨a1, a2, a3, d1, d2, d3, -⟩ := hK4.cells
    go_wp2_with fail
    refine Calls.kn (((hK4.front 1 rfl).st 2 (.int .i64 b)).st 3 (.slice E2 x2.length g2)) ?_; intro w5 hK5
    (with_reducible refine (KR3.out _).mono ?_); rintro e w6 ⟨E3, g3, rfl, hKn⟩
    have hK6 := hK5.join hKn
    clear hK4 hK5 hKn a1 a2 a3 d1 d2 d3
    obtain ⟨a1, a2, a3, d1, d2, d3, -⟩ := hK6.cells
    go_wp2_with fail
    refine Calls.kn (((hK6.front 1 rfl).st 4 (.int .i64 b)).st 5 (.slice E3 x3.length g3)) ?_; intro w7 hK7
    have hK7 := hK7.sel [1, 2, 3, 0, 4] 5 (by decide) (by decide)
    refine (KO.out _ _ _ _ _ _ _ _ hK7).mono ?_; rintro e w8 ⟨rfl, hw⟩
    have hK8 := hK7.keep hw
    clear hK6 hK7 hw a1 a2 a3 d1 d2 d3
    obtain ⟨a1, a2, a3, d1, d2, d3, -⟩ := hK8.cells
    go_wp2_with fail
  · refine bodyPost.kn (((((((hK8.front 4 rfl).st 0 (.int .i64 0)).st 1 (.slice none 0 0)).st 2 (.int .i64 0)).st 3 (.slice none 0 0)).st 4 (.int .i64 0)).st 5 (.slice none 0 0) |>.st 6 (.int .i64 0)) ?_; intro w9 hK9
    clear a1 a2 a3 d1 d2 d3
    obtain ⟨a1, a2, a3, -⟩ := hK9.cells
    exact bodyPost_ret (v := .tuple #[.agg #[.int .i64 0, .slice none 0 0, .int .i64 0, .slice none 0 0, .int .i64 0, .slice none 0 0, .int .i64 0], .int .i64 2]) (by simp [results, Tryz.results130, go_sem, a1]) rfl (.inr ⟨by simp, by simp, hK9.below⟩)
  · refine bodyPost.kn (((((((hK8.front 4 rfl).st 0 (.int .i64 b)).st 1 (.slice E1 x1.length g1)).st 2 (.int .i64 b)).st 3 (.slice E2 x2.length g2)).st 4 (.int .i64 b)).st 5 (.slice E3 x3.length g3) |>.st 6 (.int .i64 0)) ?_; intro w9 hK9
    clear a1 a2 a3 d1 d2 d3
    obtain ⟨a1, a2, a3, -⟩ := hK9.cells
    exact bodyPost_ret (v := .tuple #[.agg #[.int .i64 b, .slice E1 x1.length g1, .int .i64 b, .slice E2 x2.length g2, .int .i64 b, .slice E3 x3.length g3, .int .i64 0], .int .i64 0]) (by simp [results, Tryz.results130, go_sem, a1]) rfl (.inl ⟨by simp, E1, g1, E2, g2, E3, g3, rfl, hK9.sel [1, 2, 3] 99 (by decide) (by decide)⟩)
end Go.Proofs.YtkfbfainhmkkdaaGreat

namespace Go.Proofs.YtkfbfainhmkkdaaGreat
open Go.RowKit Go.Sort
theorem f6bigP_any (A : Option Addr) (n c : Nat) (w : World) : Calls Tryz.prog 6 #[.slice A n c] w fun e w' => e = .returned (.bool (decide ((n : Int) > 4096))) ∧ w' = w := by
  go_enter Tryz.func6, Tryz.ntmps6
  go_wp2
  go_ret
  exact ⟨rfl, rfl⟩
theorem Kn.rowSmall {w0 w : World} {m : List Ent} {A : Option Addr} {c : Nat} {ds : List Int} (h : Kn w0 (rowI A c ds :: m) w) : ds.length ≤ 9223372036854775807 := by
  have h0 : w.ownsRow 0 2 1 (.slice A ds.length c) ds.length _ := h.at0
  rcases h0.2 with ⟨_, h2⟩ | ⟨g, cap, cur, hv, -, -, h5, h6, -⟩
  · omega
  · unfold maxLen at h6; omega
theorem sumL_fold : ∀ {vs : List Int}, inV vs = true → (vs.flatMap (fun v => [⟨1, v⟩, ⟨2, 1⟩] : Int → List Ins)).foldl stepI (some 0) = some 0
  | [], _ => rfl
  | v :: l, h => by
    simp only [inV, List.all_cons, Bool.and_eq_true] at h
    have h2 : inV l = true := h.2
    have e1 : stepI (some 0) ⟨1, v⟩ = some 0 := by simp [stepI, instrOk, h.1, depthStep, opens]
    have e2 : stepI (some 0) ⟨2, 1⟩ = some 0 := by decide
    simp only [List.flatMap_cons, List.foldl_append, List.foldl_cons, List.foldl_nil, e1, e2]
    exact sumL_fold h2
theorem sumL_ok {vs : List Int} (h : spC vs = 0) : vprog (sumL vs) = true := by
  unfold spC at h
  have hi : inV vs = true := by
    cases hv : inV vs with
    | true => rfl
    | false => rw [if_pos hv] at h; simp at h
  rw [if_neg (by rw [hi]; decide)] at h
  have hl : ¬ 120 < 2 * (vs.length : Int) + 1 := by
    intro h2; rw [if_pos h2] at h; simp at h
  have e1 : stepI (some 0) ⟨6, 0⟩ = some 0 := by decide
  unfold vprog
  simp only [Bool.and_eq_true, decide_eq_true_eq]
  refine ⟨?_, by rw [sumL_len]; omega⟩
  unfold progD sumL
  rw [List.foldl_cons, e1]
  exact sumL_fold hi
/-- the program that divides, and a code -/
def dpC (p : Int) : Int := if betB p 1 16 = true then 0 else 2
def dpL (p : Int) : List Ins := if betB p 1 16 = true then divProg p.toNat else []
def DPRet (p : Int) (w : World) (e : Ending) (w' : World) : Prop := ∃ LA lc, e = .returned (.tuple #[.slice LA (dpL p).length lc, .int .i64 (dpC p)]) ∧ Kn w [rowIns (.slice LA (dpL p).length lc) (dpL p)] w'
theorem dp_ok {p : Int} (h : dpC p = 0) : vprog (dpL p) = true := by
  unfold dpC at h
  unfold dpL
  split at h
  · rename_i hb
    rw [if_pos hb]
    have := betB_iff.1 hb
    exact divProg_ok (by omega) (by omega)
  · simp at h
set_option maxRecDepth 100000 in
set_option maxHeartbeats 1600000 in
theorem f6instrs_same (A B : Option Addr) (n c d : Nat) (xs : List Ins) (w : World) (hr : RL InsM 2 w A n xs) (hs : RL InsM 2 w B n xs) (hm : n ≤ 1048576) :
    Calls Tryz.prog 17 #[.slice A n c, .slice B n d] w fun e w' => e = .returned (.bool true) ∧ Below w.heap.size w w' := by
  have HR := Lib.hid hr
  have HS := Lib.hid hs
  clear hr hs
  go_enter Tryz.func17, Tryz.ntmps17
  go_wp2_with fail
  go_loopw [5] (fun i wr => ∃ (k : Nat), k ≤ n ∧ i = .int .i64 k ∧ Kn w [] wr) (fun i _ => n - (intOf i).toNat)
  case atStart => exact ⟨0, Nat.zero_le _, rfl, Kn.nil w⟩
  case round =>
    obtain ⟨k, hk, rfl, hK⟩ := hrel
    by_cases hkn : k < n
    · obtain ⟨ad, hA, hlt, hkl, hx⟩ := (HR.out.below steady_InsM hK.drew.below).at_ hkn
      obtain ⟨bd, hB, hlt2, hkl2, hy⟩ := (HS.out.below steady_InsM hK.drew.below).at_ hkn
      obtain ⟨x, hxe⟩ : ∃ x, xs[k] = x := ⟨_, rfl⟩
      rw [hxe] at hx hy
      have HG := Lib.hid (show (_ ∧ _) ∧ _ ∧ _ from ⟨hx, hy⟩)
      have hi0 : (0 : Int) ≤ (k : Int) := by omega
      have hi1 : (k : Int) < (n : Int) := by omega
      subst hA
      subst hB
      clear hxe hx hy hlt hlt2
      go_wp2_with fail
      go_region_held3 (fun W => (W.cell? (ad.add (k * 2)) = some (.int .i64 x.op) ∧ W.cell? ⟨(ad.add (k * 2)).block, (ad.add (k * 2)).off + 1, none⟩ = some (.int .i64 x.arg)) ∧ W.cell? (bd.add (k * 2)) = some (.int .i64 x.op) ∧ W.cell? ⟨(bd.add (k * 2)).block, (bd.add (k * 2)).off + 1, none⟩ = some (.int .i64 x.arg)) (first | exact HG.out) (fail)
      all_goals
        go_wp2_with fail
        go_roundw
        case rel => exact ⟨k + 1, by omega, by go_num, hK.drew⟩
        case measure => simp [intOf]; omega
    · have hi1 : ¬ (k : Int) < (n : Int) := by omega
      go_wp2_with fail
      go_ret
      exact ⟨rfl, hK.below⟩
end Go.Proofs.YtkfbfainhmkkdaaGreat

namespace Go.Proofs.YtkfbfainhmkkdaaGreat
open Go.RowKit Go.Sort
/-- the code of the widths of machines whose inputs are counted -/
def inC (b n1 n2 n3 : Int) : Int := if nmOk b n1 n2 n3 = false then 2 else if 256 < pw b n1.toNat * pw b n2.toNat then 5 else 0
structure NmB (b : Int) (n1 n2 n3 : Nat) : Prop where
  b1 : 2 ≤ b
  b2 : b ≤ 16
  h1 : 1 ≤ n1
  h1' : n1 ≤ 16
  h2 : 1 ≤ n2
  h2' : n2 ≤ 16
  h3 : 1 ≤ n3
  h3' : n3 ≤ 16
  hv : vmach (newT b n1 n2 n3) = true
  p1 : pw b n1 ≤ 1000000000001
  p2 : pw b n2 ≤ 1000000000001
  q1 : 1 ≤ pw b n1
  q2 : 1 ≤ pw b n2
theorem nmOk_true {b z1 z2 z3 : Int} (h : nmOk b z1 z2 z3 = true) : ∃ n1 n2 n3 : Nat, z1 = n1 ∧ z2 = n2 ∧ z3 = n3 ∧ NmB b n1 n2 n3 := by
  unfold nmOk at h
  simp only [Bool.and_eq_true, betB_iff] at h
  obtain ⟨⟨⟨⟨hb, h1⟩, h2⟩, h3⟩, hv⟩ := h
  obtain ⟨n1, rfl⟩ := Int.eq_ofNat_of_zero_le (show 0 ≤ z1 by omega)
  obtain ⟨n2, rfl⟩ := Int.eq_ofNat_of_zero_le (show 0 ≤ z2 by omega)
  obtain ⟨n3, rfl⟩ := Int.eq_ofNat_of_zero_le (show 0 ≤ z3 by omega)
  have hv' : vmach (newT b n1 n2 n3) = true := hv
  obtain ⟨k1, k2, k3, e1, e2, f1, f2, l1, p0, p1⟩ := vmach_all hv'
  simp only [newT, digD_len] at f1 l1
  have hm := pw_mono b (by omega) _ _ l1
  exact ⟨n1, n2, n3, rfl, rfl, rfl, by omega, by omega, by omega, by omega, by omega, by omega, by omega, by omega, hv', by omega, f1, pw_pos b (by omega) _, pw_pos b (by omega) _⟩
theorem NewMachine_no (b z1 z2 z3 : Int) (w : World) (h : nmOk b z1 z2 z3 = false) :
    Calls Tryz.prog 130 #[.int .i64 b, .int .i64 z1, .int .i64 z2, .int .i64 z3] w fun e w' => e = .returned (.tuple #[.agg #[.int .i64 0, .slice none 0 0, .int .i64 0, .slice none 0 0, .int .i64 0, .slice none 0 0, .int .i64 0], .int .i64 2]) ∧ Below w.heap.size w w' := by
  rcases hr : (betB b 2 16 && betB z1 1 16 && betB z2 1 16 && betB z3 1 16) with _ | _
  · exact NewMachine_range b z1 z2 z3 w hr
  · unfold nmOk at h
    rw [hr] at h
    simp only [Bool.and_eq_true, betB_iff] at hr
    obtain ⟨⟨⟨hb, h1⟩, h2⟩, h3⟩ := hr
    obtain ⟨n1, rfl⟩ := Int.eq_ofNat_of_zero_le (show 0 ≤ z1 by omega)
    obtain ⟨n2, rfl⟩ := Int.eq_ofNat_of_zero_le (show 0 ≤ z2 by omega)
    obtain ⟨n3, rfl⟩ := Int.eq_ofNat_of_zero_le (show 0 ≤ z3 by omega)
    refine (NewMachine_any b n1 n2 n3 false w (by omega) (by omega) (by omega) (by omega) (by omega) (by omega) (by omega) (by omega) h).mono ?_
    rintro e w' (⟨h, -⟩ | ⟨-, h⟩)
    · cases h
    · exact h
theorem specNewMachine_no (b z1 z2 z3 : Int) (w : World) (h : nmOk b z1 z2 z3 = false) :
    Calls Tryz.prog 95 #[.int .i64 b, .int .i64 z1, .int .i64 z2, .int .i64 z3] w fun e w' => e = .returned (.tuple #[.agg #[.int .i64 0, .slice none 0 0, .int .i64 0, .slice none 0 0, .int .i64 0, .slice none 0 0, .int .i64 0], .int .i64 2]) ∧ Below w.heap.size w w' := by
  rcases hr : (betB b 2 16 && betB z1 1 16 && betB z2 1 16 && betB z3 1 16) with _ | _
  · exact specNewMachine_range b z1 z2 z3 w hr
  · unfold nmOk at h
    rw [hr] at h
    simp only [Bool.and_eq_true, betB_iff] at hr
    obtain ⟨⟨⟨hb, h1⟩, h2⟩, h3⟩ := hr
    obtain ⟨n1, rfl⟩ := Int.eq_ofNat_of_zero_le (show 0 ≤ z1 by omega)
    obtain ⟨n2, rfl⟩ := Int.eq_ofNat_of_zero_le (show 0 ≤ z2 by omega)
    obtain ⟨n3, rfl⟩ := Int.eq_ofNat_of_zero_le (show 0 ≤ z3 by omega)
    refine (specNewMachine_any b n1 n2 n3 false w (by omega) (by omega) (by omega) (by omega) (by omega) (by omega) (by omega) (by omega) h).mono ?_
    rintro e w' (⟨h, -⟩ | ⟨-, h⟩)
    · cases h
    · exact h
/-- where the widths are right -/
theorem NewMachine_yes {b : Int} {n1 n2 n3 : Nat} (w : World) (h : NmB b n1 n2 n3) :
    Calls Tryz.prog 130 #[.int .i64 b, .int .i64 n1, .int .i64 n2, .int .i64 n3] w fun e w' => ∃ E1 g1 E2 g2 E3 g3, e = .returned (.tuple #[.agg #[.int .i64 b, .slice E1 (digD b n1 0).length g1, .int .i64 b, .slice E2 (digD b n2 0).length g2, .int .i64 b, .slice E3 (digD b n3 0).length g3, .int .i64 0], .int .i64 0]) ∧ Kn w [rowI E3 g3 (digD b n3 0), rowI E2 g2 (digD b n2 0), rowI E1 g1 (digD b n1 0)] w' := by
  refine (NewMachine_any b n1 n2 n3 true w h.b1 h.b2 h.h1 h.h1' h.h2 h.h2' h.h3 h.h3' h.hv).mono ?_
  rintro e w' (⟨-, h⟩ | ⟨h, -⟩)
  · exact h
  · cases h
theorem specNewMachine_yes {b : Int} {n1 n2 n3 : Nat} (w : World) (h : NmB b n1 n2 n3) :
    Calls Tryz.prog 95 #[.int .i64 b, .int .i64 n1, .int .i64 n2, .int .i64 n3] w fun e w' => ∃ E1 g1 E2 g2 E3 g3, e = .returned (.tuple #[.agg #[.int .i64 b, .slice E1 (digD b n1 0).length g1, .int .i64 b, .slice E2 (digD b n2 0).length g2, .int .i64 b, .slice E3 (digD b n3 0).length g3, .int .i64 0], .int .i64 0]) ∧ Kn w [rowI E3 g3 (digD b n3 0), rowI E2 g2 (digD b n2 0), rowI E1 g1 (digD b n1 0)] w' := by
  refine (specNewMachine_any b n1 n2 n3 true w h.b1 h.b2 h.h1 h.h1' h.h2 h.h2' h.h3 h.h3' h.hv).mono ?_
  rintro e w' (⟨-, h⟩ | ⟨h, -⟩)
  · exact h
  · cases h
theorem inC_no {b z1 z2 z3 : Int} (h : nmOk b z1 z2 z3 = false) : inC b z1 z2 z3 = 2 := by unfold inC; rw [if_pos h]
theorem inC_full {b : Int} {n1 n2 n3 : Nat} (hn : nmOk b n1 n2 n3 = true) (h : 256 < pw b n1 * pw b n2) : inC b n1 n2 n3 = 5 := by
  unfold inC; rw [if_neg (by rw [hn]; decide)]; exact if_pos h
theorem inC_fine {b : Int} {n1 n2 n3 : Nat} (hn : nmOk b n1 n2 n3 = true) (h : ¬ 256 < pw b n1 * pw b n2) : inC b n1 n2 n3 = 0 := by
  unfold inC; rw [if_neg (by rw [hn]; decide)]; exact if_neg h
theorem mul_big {x y : Int} (hy : 1 ≤ y) (h : 256 < x) : 256 < x * y := by
  have := Int.mul_le_mul_of_nonneg_left hy (show 0 ≤ x by omega)
  omega
/-- where inputs are not counted -/
theorem inputsOf_bad (b z1 z2 z3 : Int) (w : World) (h : inC b z1 z2 z3 ≠ 0) :
    Calls Tryz.prog 92 #[.int .i64 b, .int .i64 z1, .int .i64 z2, .int .i64 z3] w fun e w' => e = .returned (.tuple #[.agg #[.int .i64 0, .slice none 0 0, .int .i64 0, .slice none 0 0, .int .i64 0, .slice none 0 0, .int .i64 0, .int .i64 0], .int .i64 (inC b z1 z2 z3)]) ∧ Below w.heap.size w w' := by
  rcases hn : nmOk b z1 z2 z3 with _ | _
  · have HC := Lib.hid (inC_no hn)
    have KN := Lib.hid (fun W => NewMachine_no b z1 z2 z3 W hn)
    clear h hn
    rw [HC.out]
    go_enter Tryz.func92, Tryz.ntmps92
    go_wp2_with fail
    refine Calls.kn ((Kn.nil w).al [.int .i64 0, .slice none 0 0, .int .i64 0, .slice none 0 0, .int .i64 0, .slice none 0 0, .int .i64 0, .int .i64 0] 115) ?_; intro w1 hK1
    (with_reducible refine (KN.out _).mono ?_); rintro e w2 ⟨rfl, hw⟩
    have hK2 := hK1.keep hw
    clear hK1 hw
    obtain ⟨a1, a2, a3, -⟩ := hK2.cells
    go_wp2_with fail
    refine bodyPost.kn (((((((((hK2.st 0 (.int .i64 0)).st 1 (.slice none 0 0)).st 2 (.int .i64 0)).st 3 (.slice none 0 0)).st 4 (.int .i64 0)).st 5 (.slice none 0 0)).st 6 (.int .i64 0)).st 7 (.int .i64 0)).al_ (.cells #[.int .i64 0, .slice none 0 0, .int .i64 0, .slice none 0 0, .int .i64 0, .slice none 0 0, .int .i64 0] 28)) ?_; intro w6 hK6
    clear a1 a2 a3
    obtain ⟨a1, a2, a3, -⟩ := hK6.cells
    exact bodyPost_ret (v := .tuple #[.agg #[.int .i64 0, .slice none 0 0, .int .i64 0, .slice none 0 0, .int .i64 0, .slice none 0 0, .int .i64 0, .int .i64 0], .int .i64 2]) (by simp [results, Tryz.results92, go_sem, a1]) rfl ⟨rfl, hK6.below⟩
  obtain ⟨n1, n2, n3, rfl, rfl, rfl, hB⟩ := nmOk_true hn
  obtain ⟨b1, b2, h1, h1', h2, h2', h3, h3', hv, p1, p2, q1, q2⟩ := hB
  have hbig : 256 < pw b n1 * pw b n2 := Decidable.byContradiction fun hc => h (inC_fine hn hc)
  have HC := Lib.hid (inC_full hn hbig)
  have KN := (fun W => NewMachine_yes W (show NmB b n1 n2 n3 from ⟨b1, b2, h1, h1', h2, h2', h3, h3', hv, p1, p2, q1, q2⟩))
  have V1 := (fun A c W => values_any b A n1 c W b1 b2 (by omega))
  have V2 := (fun A c W => values_any b A n2 c W b1 b2 (by omega))
  have hp1 : powC b n1 = pw b n1 := by unfold powC; rw [if_pos p1]
  have hp2 : powC b n2 = pw b n2 := by unfold powC; rw [if_pos p2]
  rw [hp1] at V1
  rw [hp2] at V2
  obtain ⟨x1, hx1⟩ : ∃ x, digD b n1 0 = x := ⟨_, rfl⟩
  obtain ⟨x2, hx2⟩ : ∃ x, digD b n2 0 = x := ⟨_, rfl⟩
  obtain ⟨x3, hx3⟩ : ∃ x, digD b n3 0 = x := ⟨_, rfl⟩
  have l1 : x1.length = n1 := by rw [← hx1]; exact digD_len ..
  have l2 : x2.length = n2 := by rw [← hx2]; exact digD_len ..
  rw [hx1, hx2, hx3] at KN
  rw [← l1] at V1
  rw [← l2] at V2
  have KN := Lib.hid KN
  have V1 := Lib.hid V1
  have V2 := Lib.hid V2
  obtain ⟨P1, hP1⟩ : ∃ x, pw b n1 = x := ⟨_, rfl⟩
  obtain ⟨P2, hP2⟩ : ∃ x, pw b n2 = x := ⟨_, rfl⟩
  have V1 := V1.out
  have V2 := V2.out
  rw [l1, hP1] at V1
  rw [l2, hP2] at V2
  rw [← l1] at V1
  rw [← l2] at V2
  rw [hP1, hP2] at hbig
  rw [hP1] at p1 q1
  rw [hP2] at p2 q2
  have V1 := Lib.hid V1
  have V2 := Lib.hid V2
  rw [HC.out]
  clear hP1 hP2 hx1 hx2 hx3 hp1 hp2 l1 l2 hn h hv h1 h1' h2 h2' h3 h3' b1 b2
  have hcs : 256 < P1 ∨ (¬ 256 < P1 ∧ 256 < P2) ∨ (¬ 256 < P1 ∧ ¬ 256 < P2 ∧ IntKind.i64.wrap (P1 * P2) = P1 * P2 ∧ 256 < P1 * P2) := by
    by_cases g1 : 256 < P1
    · exact .inl g1
    by_cases g2 : 256 < P2
    · exact .inr (.inl ⟨g1, g2⟩)
    have hm : P1 * P2 ≤ 256 * 256 := Int.le_trans (Int.mul_le_mul_of_nonneg_left (show P2 ≤ 256 by omega) (by omega)) (Int.mul_le_mul_of_nonneg_right (show P1 ≤ 256 by omega) (by decide))
    exact .inr (.inr ⟨g1, g2, wrapI64 (by omega), hbig⟩)
  clear hbig
  rcases hcs with g1 | ⟨g1, g2⟩ | ⟨g1, g2, hwm, hbig⟩
  all_goals
    go_enter Tryz.func92, Tryz.ntmps92
    go_wp2_with fail
    refine Calls.kn ((Kn.nil w).al [.int .i64 0, .slice none 0 0, .int .i64 0, .slice none 0 0, .int .i64 0, .slice none 0 0, .int .i64 0, .int .i64 0] 115) ?_; intro w1 hK1
    (with_reducible refine (KN.out _).mono ?_); rintro e w2 ⟨E1, g1, E2, g2, E3, g3, rfl, hKn⟩
    have hK2 := hK1.join hKn
    clear hK1 hKn
    go_wp2_with fail
    have hK3 := hK2.al [.int .i64 b, .slice E1 x1.length g1, .int .i64 b, .slice E2 x2.length g2, .int .i64 b, .slice E3 x3.length g3, .int .i64 0] 28
    generalize w2.alloc (.cells #[.int .i64 b, .slice E1 x1.length g1, .int .i64 b, .slice E2 x2.length g2, .int .i64 b, .slice E3 x3.length g3, .int .i64 0] 28) = w3 at hK3 ⊢
    have HG := Lib.hid (box7 hK3.drew)
    go_cut [12, 13] (fun pp oo wx => pp = .int .i64 P1 ∧ oo = .int .i64 P2 ∧ Kn w [.blk w2.heap.size [.int .i64 b, .slice E1 x1.length g1, .int .i64 b, .slice E2 x2.length g2, .int .i64 b, .slice E3 x3.length g3, .int .i64 0] 28, rowI E3 g3 x3, rowI E2 g2 x2, rowI E1 g1 x1, .blk w.heap.size [.int .i64 0, .slice none 0 0, .int .i64 0, .slice none 0 0, .int .i64 0, .slice none 0 0, .int .i64 0, .int .i64 0] 115] wx)
    case first =>
      go_region_held3 (fun W => W.cell? ⟨w2.heap.size, 0, none⟩ = some (.int .i64 b) ∧ W.cell? ⟨w2.heap.size, 1, none⟩ = some (.slice E1 x1.length g1) ∧ W.cell? ⟨w2.heap.size, 2, none⟩ = some (.int .i64 b) ∧ W.cell? ⟨w2.heap.size, 3, none⟩ = some (.slice E2 x2.length g2) ∧ W.cell? ⟨w2.heap.size, 4, none⟩ = some (.int .i64 b) ∧ W.cell? ⟨w2.heap.size, 5, none⟩ = some (.slice E3 x3.length g3) ∧ W.cell? ⟨w2.heap.size, 6, none⟩ = some (.int .i64 0)) (first | with_reducible exact HG.out | exact HG.out) (first
        | (go_at_call 52; (with_reducible refine (V1.out _ _ _).mono ?_); rintro e w4 ⟨rfl, hw4⟩; have hK4 := hK3.drew.keep hw4; clear HG; have HG := Lib.hid (box7 hK4))
        | (go_at_call 52; (with_reducible refine (V2.out _ _ _).mono ?_); rintro e w5 ⟨rfl, hw5⟩; have hK5 := hK4.keep hw5; clear HG; have HG := Lib.hid (box7 hK5)))
      all_goals
        go_wp2_with fail
        go_meet
        exact ⟨rfl, rfl, hK5⟩
    case rest =>
    obtain ⟨rfl, rfl, hK6⟩ := hcut
    clear HG hK3
    obtain ⟨a1, a2, a3, d1, d2, d3, -⟩ := hK6.cells
    go_wp2_with fail
    first
      | (refine bodyPost.kn (((((((((hK6.front 4 rfl).st 0 (.int .i64 0)).st 1 (.slice none 0 0)).st 2 (.int .i64 0)).st 3 (.slice none 0 0)).st 4 (.int .i64 0)).st 5 (.slice none 0 0)).st 6 (.int .i64 0)).st 7 (.int .i64 0)) ?_; intro w7 hK7)
    clear a1 a2 a3 d1 d2 d3
    obtain ⟨a1, a2, a3, -⟩ := hK7.cells
    exact bodyPost_ret (v := .tuple #[.agg #[.int .i64 0, .slice none 0 0, .int .i64 0, .slice none 0 0, .int .i64 0, .slice none 0 0, .int .i64 0, .int .i64 0], .int .i64 5]) (by simp [results, Tryz.results92, go_sem, a1]) rfl ⟨rfl, hK7.below⟩
/-- where inputs are counted -/
theorem inputsOf_fine {b : Int} {n1 n2 n3 : Nat} (w : World) (hB : NmB b n1 n2 n3) (hbig : ¬ 256 < pw b n1 * pw b n2) :
    Calls Tryz.prog 92 #[.int .i64 b, .int .i64 n1, .int .i64 n2, .int .i64 n3] w fun e w' => ∃ E1 g1 E2 g2 E3 g3, e = .returned (.tuple #[.agg #[.int .i64 b, .slice E1 (digD b n1 0).length g1, .int .i64 b, .slice E2 (digD b n2 0).length g2, .int .i64 b, .slice E3 (digD b n3 0).length g3, .int .i64 0, .int .i64 (pw b n1 * pw b n2)], .int .i64 0]) ∧ Kn w [rowI E3 g3 (digD b n3 0), rowI E2 g2 (digD b n2 0), rowI E1 g1 (digD b n1 0)] w' := by
  obtain ⟨b1, b2, h1, h1', h2, h2', h3, h3', hv, p1, p2, q1, q2⟩ := hB
  have KN := (fun W => NewMachine_yes W (show NmB b n1 n2 n3 from ⟨b1, b2, h1, h1', h2, h2', h3, h3', hv, p1, p2, q1, q2⟩))
  have V1 := (fun A c W => values_any b A n1 c W b1 b2 (by omega))
  have V2 := (fun A c W => values_any b A n2 c W b1 b2 (by omega))
  have hp1 : powC b n1 = pw b n1 := by unfold powC; rw [if_pos p1]
  have hp2 : powC b n2 = pw b n2 := by unfold powC; rw [if_pos p2]
  rw [hp1] at V1
  rw [hp2] at V2
  obtain ⟨x1, hx1⟩ : ∃ x, digD b n1 0 = x := ⟨_, rfl⟩
  obtain ⟨x2, hx2⟩ : ∃ x, digD b n2 0 = x := ⟨_, rfl⟩
  obtain ⟨x3, hx3⟩ : ∃ x, digD b n3 0 = x := ⟨_, rfl⟩
  have l1 : x1.length = n1 := by rw [← hx1]; exact digD_len ..
  have l2 : x2.length = n2 := by rw [← hx2]; exact digD_len ..
  rw [hx1, hx2, hx3] at KN
  rw [← l1] at V1
  rw [← l2] at V2
  have KN := Lib.hid KN
  have V1 := Lib.hid V1
  have V2 := Lib.hid V2
  obtain ⟨P1, hP1⟩ : ∃ x, pw b n1 = x := ⟨_, rfl⟩
  obtain ⟨P2, hP2⟩ : ∃ x, pw b n2 = x := ⟨_, rfl⟩
  have V1 := V1.out
  have V2 := V2.out
  rw [l1, hP1] at V1
  rw [l2, hP2] at V2
  rw [← l1] at V1
  rw [← l2] at V2
  rw [hP1, hP2] at hbig
  rw [hP1] at p1 q1
  rw [hP2] at p2 q2
  have V1 := Lib.hid V1
  have V2 := Lib.hid V2
  rw [hP1, hP2, hx1, hx2, hx3]
  clear hP1 hP2 hx1 hx2 hx3 hp1 hp2 l1 l2 hv h1 h1' h2 h2' h3 h3' b1 b2
  have g1 : ¬ 256 < P1 := fun h => hbig (mul_big q2 h)
  have g2 : ¬ 256 < P2 := fun h => hbig (by rw [Int.mul_comm]; exact mul_big q1 h)
  have hm : P1 * P2 ≤ 256 * 256 := Int.le_trans (Int.mul_le_mul_of_nonneg_left (show P2 ≤ 256 by omega) (by omega)) (Int.mul_le_mul_of_nonneg_right (show P1 ≤ 256 by omega) (by decide))
  have hm0 : 0 ≤ P1 * P2 := Int.mul_nonneg (by omega) (by omega)
  have hwm : IntKind.i64.wrap (P1 * P2) = P1 * P2 := wrapI64 (by omega)
  clear hm hm0
  go_enter Tryz.func92, Tryz.ntmps92
  go_wp2_with fail
  refine Calls.kn ((Kn.nil w).al [.int .i64 0, .slice none 0 0, .int .i64 0, .slice none 0 0, .int .i64 0, .slice none 0 0, .int .i64 0, .int .i64 0] 115) ?_; intro w1 hK1
  (with_reducible refine (KN.out _).mono ?_); rintro e w2 ⟨E1, g1, E2, g2, E3, g3, rfl, hKn⟩
  have hK2 := hK1.join hKn
  clear hK1 hKn
  go_wp2_with fail
  have hK3 := hK2.al [.int .i64 b, .slice E1 x1.length g1, .int .i64 b, .slice E2 x2.length g2, .int .i64 b, .slice E3 x3.length g3, .int .i64 0] 28
  generalize w2.alloc (.cells #[.int .i64 b, .slice E1 x1.length g1, .int .i64 b, .slice E2 x2.length g2, .int .i64 b, .slice E3 x3.length g3, .int .i64 0] 28) = w3 at hK3 ⊢
  have HG := Lib.hid (box7 hK3.drew)
  go_cut [12, 13] (fun pp oo wx => pp = .int .i64 P1 ∧ oo = .int .i64 P2 ∧ Kn w [.blk w2.heap.size [.int .i64 b, .slice E1 x1.length g1, .int .i64 b, .slice E2 x2.length g2, .int .i64 b, .slice E3 x3.length g3, .int .i64 0] 28, rowI E3 g3 x3, rowI E2 g2 x2, rowI E1 g1 x1, .blk w.heap.size [.int .i64 0, .slice none 0 0, .int .i64 0, .slice none 0 0, .int .i64 0, .slice none 0 0, .int .i64 0, .int .i64 0] 115] wx)
  case first =>
    go_region_held3 (fun W => W.cell? ⟨w2.heap.size, 0, none⟩ = some (.int .i64 b) ∧ W.cell? ⟨w2.heap.size, 1, none⟩ = some (.slice E1 x1.length g1) ∧ W.cell? ⟨w2.heap.size, 2, none⟩ = some (.int .i64 b) ∧ W.cell? ⟨w2.heap.size, 3, none⟩ = some (.slice E2 x2.length g2) ∧ W.cell? ⟨w2.heap.size, 4, none⟩ = some (.int .i64 b) ∧ W.cell? ⟨w2.heap.size, 5, none⟩ = some (.slice E3 x3.length g3) ∧ W.cell? ⟨w2.heap.size, 6, none⟩ = some (.int .i64 0)) (first | with_reducible exact HG.out | exact HG.out) (first
      | (go_at_call 52; (with_reducible refine (V1.out _ _ _).mono ?_); rintro e w4 ⟨rfl, hw4⟩; have hK4 := hK3.drew.keep hw4; clear HG; have HG := Lib.hid (box7 hK4))
      | (go_at_call 52; (with_reducible refine (V2.out _ _ _).mono ?_); rintro e w5 ⟨rfl, hw5⟩; have hK5 := hK4.keep hw5; clear HG; have HG := Lib.hid (box7 hK5)))
    all_goals
      go_wp2_with fail
      go_meet
      exact ⟨rfl, rfl, hK5⟩
  case rest =>
  obtain ⟨rfl, rfl, hK6⟩ := hcut
  clear HG hK3
  obtain ⟨a1, a2, a3, d1, d2, d3, -⟩ := hK6.cells
  go_wp2_with fail
  refine bodyPost.kn (((((((((hK6.front 4 rfl).st 0 (.int .i64 b)).st 1 (.slice E1 x1.length g1)).st 2 (.int .i64 b)).st 3 (.slice E2 x2.length g2)).st 4 (.int .i64 b)).st 5 (.slice E3 x3.length g3)).st 6 (.int .i64 0)).st 7 (.int .i64 (P1 * P2))) ?_; intro w7 hK7
  clear a1 a2 a3 d1 d2 d3
  obtain ⟨a1, a2, a3, -⟩ := hK7.cells
  exact bodyPost_ret (v := .tuple #[.agg #[.int .i64 b, .slice E1 x1.length g1, .int .i64 b, .slice E2 x2.length g2, .int .i64 b, .slice E3 x3.length g3, .int .i64 0, .int .i64 (P1 * P2)], .int .i64 0]) (by simp [results, Tryz.results92, go_sem, a1]) rfl ⟨E1, g1, E2, g2, E3, g3, rfl, hK7.sel [2, 3, 4] 99 (by decide) (by decide)⟩
theorem div_big {x y : Int} (hy : 1 ≤ y) : (256 : Int).tdiv y < x ↔ 256 < x * y := by
  rw [Int.tdiv_eq_ediv_of_nonneg (by decide)]
  exact Int.ediv_lt_iff_lt_mul (by omega)
theorem l14Size_any (b z1 z2 z3 : Int) (w : World) :
    Calls Tryz.prog 93 #[.int .i64 b, .int .i64 z1, .int .i64 z2, .int .i64 z3] w fun e w' => e = .returned (.int .i64 (inC b z1 z2 z3)) ∧ Below w.heap.size w w' := by
  rcases hn : nmOk b z1 z2 z3 with _ | _
  · have HC := Lib.hid (inC_no hn)
    have KN := Lib.hid (fun W => specNewMachine_no b z1 z2 z3 W hn)
    clear hn
    rw [HC.out]
    go_enter Tryz.func93, Tryz.ntmps93
    go_wp2_with fail
    (with_reducible refine (KN.out _).mono ?_); rintro e w2 ⟨rfl, hw⟩
    have hK2 := (Kn.nil w).keep hw
    clear hw
    go_wp2_with fail
    go_ret
    exact ⟨rfl, (hK2.al_ _).below⟩
  obtain ⟨n1, n2, n3, rfl, rfl, rfl, hB⟩ := nmOk_true hn
  have KN := (fun W => specNewMachine_yes W hB)
  obtain ⟨b1, b2, h1, h1', h2, h2', h3, h3', hv, p1, p2, q1, q2⟩ := hB
  have V1 := (fun W => l10Power_any b n1 W b1 b2 (by omega))
  have V2 := (fun W => l10Power_any b n2 W b1 b2 (by omega))
  have hp1 : powS b n1 = pw b n1 := by unfold powS; omega
  have hp2 : powS b n2 = pw b n2 := by unfold powS; omega
  rw [hp1] at V1
  rw [hp2] at V2
  have HC : inC b n1 n2 n3 = if 256 < pw b n1 * pw b n2 then 5 else 0 := by unfold inC; rw [if_neg (by rw [hn]; decide)]; rfl
  obtain ⟨x1, hx1⟩ : ∃ x, digD b n1 0 = x := ⟨_, rfl⟩
  obtain ⟨x2, hx2⟩ : ∃ x, digD b n2 0 = x := ⟨_, rfl⟩
  obtain ⟨x3, hx3⟩ : ∃ x, digD b n3 0 = x := ⟨_, rfl⟩
  obtain ⟨P1, hP1⟩ : ∃ x, pw b n1 = x := ⟨_, rfl⟩
  obtain ⟨P2, hP2⟩ : ∃ x, pw b n2 = x := ⟨_, rfl⟩
  rw [hx1, hx2, hx3] at KN
  rw [hP1] at V1 p1 q1 HC
  rw [hP2] at V2 p2 q2 HC
  have hdv := div_big (x := P1) q2
  have hdb : 0 ≤ (256 : Int).tdiv P2 ∧ (256 : Int).tdiv P2 ≤ 256 := by
    rw [Int.tdiv_eq_ediv_of_nonneg (by decide)]
    exact ⟨Int.ediv_nonneg (by decide) (by omega), Int.ediv_le_self _ (by decide)⟩
  obtain ⟨Q, hQ⟩ : ∃ x, (256 : Int).tdiv P2 = x := ⟨_, rfl⟩
  have hq0 : (P2 == 0) = false := by simp; omega
  rw [hQ] at hdv hdb
  have hwm : IntKind.i64.wrap Q = Q := wrapI64 (by omega)
  have KN := Lib.hid KN
  have V1 := Lib.hid V1
  have V2 := Lib.hid V2
  clear hP1 hP2 hx1 hx2 hx3 hp1 hp2 hn hv h1 h1' h2 h2' h3 h3' b1 b2
  by_cases g : Q < P1
  · have HC2 := Lib.hid (show inC b n1 n2 n3 = 5 by rw [HC, if_pos (hdv.1 g)])
    clear HC hdv
    go_enter Tryz.func93, Tryz.ntmps93
    go_wp2_with fail
    (with_reducible refine (KN.out _).mono ?_); rintro e w2 ⟨E1, g1, E2, g2, E3, g3, rfl, hKn⟩
    go_wp2_with (go_at_call 83; first | (with_reducible refine (V1.out _).mono ?_; rintro e w' ⟨rfl, rfl⟩) | (with_reducible refine (V2.out _).mono ?_; rintro e w' ⟨rfl, rfl⟩))
    go_ret
    exact ⟨ret_int HC2.out.symm, (hKn.al_ _).below⟩
  · have HC2 := Lib.hid (show inC b n1 n2 n3 = 0 by rw [HC, if_neg (fun h => g (hdv.2 h))])
    clear HC hdv
    go_enter Tryz.func93, Tryz.ntmps93
    go_wp2_with fail
    (with_reducible refine (KN.out _).mono ?_); rintro e w2 ⟨E1, g1, E2, g2, E3, g3, rfl, hKn⟩
    go_wp2_with (go_at_call 83; first | (with_reducible refine (V1.out _).mono ?_; rintro e w' ⟨rfl, rfl⟩) | (with_reducible refine (V2.out _).mono ?_; rintro e w' ⟨rfl, rfl⟩))
    go_ret
    exact ⟨ret_int HC2.out.symm, (hKn.al_ _).below⟩
end Go.Proofs.YtkfbfainhmkkdaaGreat

namespace Go.Proofs.YtkfbfainhmkkdaaGreat
open Go.RowKit Go.Sort
/-- the machine with the input k -/
def atT (b : Int) (n1 n2 n3 : Nat) (k : Int) : Tri := ⟨⟨b, digD b n1 (k.tdiv (pw b n2))⟩, ⟨b, digD b n2 (k.tmod (pw b n2))⟩, ⟨b, digD b n3 0⟩, 0⟩
theorem at_bd {x y k : Int} (hy : 1 ≤ y) (h0 : 0 ≤ k) (h1 : k < x * y) : 0 ≤ k.tdiv y ∧ k.tdiv y < x ∧ 0 ≤ k.tmod y ∧ k.tmod y < y := by
  rw [Int.tdiv_eq_ediv_of_nonneg h0, Int.tmod_eq_emod_of_nonneg h0]
  exact ⟨Int.ediv_nonneg h0 (by omega), Int.ediv_lt_of_lt_mul (by omega) h1, Int.emod_nonneg _ (by omega), Int.emod_lt_of_pos _ (by omega)⟩
theorem atT_ok {b : Int} {n1 n2 n3 : Nat} (hB : NmB b n1 n2 n3) {k : Int} (h0 : 0 ≤ k) (h1 : k < pw b n1 * pw b n2) : vmach (atT b n1 n2 n3 k) = true := by
  obtain ⟨q1, q2, q3, q4⟩ := at_bd hB.q2 h0 h1
  have hv := hB.hv
  have p1 := hB.p1
  have p2 := hB.p2
  obtain ⟨k1, k2, k3, e1, e2, f1, f2, l1, c0, c1⟩ := vmach_all hv
  simp only [newT, vplaces, digD_len] at f1 f2 l1 c0 c1
  refine vmach_mk (t := atT b n1 n2 n3 k) (digD_vreg _ hB.b1 hB.b2 _ hB.h1 hB.h1' _ q1 q2 (by omega)) (digD_vreg _ hB.b1 hB.b2 _ hB.h2 hB.h2' _ q3 q4 (by omega)) k3 rfl rfl ?_ ?_ ?_ (Int.le_refl _) ?_
  · simp only [atT, digD_len]; exact f1
  · simp only [atT, digD_len]; exact f2
  · simp only [atT, digD_len]; exact l1
  · simp only [atT, vplaces, digD_len]; exact c1
set_option maxRecDepth 100000 in
set_option maxHeartbeats 3200000 in
theorem at_any {b : Int} {n1 n2 n3 : Nat} (E1 E2 E3 : Option Addr) (g1 g2 g3 : Nat) (cn k : Int) (w : World) (hB : NmB b n1 n2 n3) (r1 : RI w E1 (digD b n1 0).length (digD b n1 0)) (r2 : RI w E2 (digD b n2 0).length (digD b n2 0)) (r3 : RI w E3 (digD b n3 0).length (digD b n3 0)) (hk0 : 0 ≤ k) (hk1 : k ≤ 1000000) :
    Calls Tryz.prog 97 #[.agg #[.int .i64 b, .slice E1 (digD b n1 0).length g1, .int .i64 b, .slice E2 (digD b n2 0).length g2, .int .i64 b, .slice E3 (digD b n3 0).length g3, .int .i64 0, .int .i64 cn], .int .i64 k] w fun e w' => ∃ F1 f1 F2 f2 F3 f3,
      e = .returned (.agg #[.int .i64 b, .slice F1 (digD b n1 (k.tdiv (pw b n2))).length f1, .int .i64 b, .slice F2 (digD b n2 (k.tmod (pw b n2))).length f2, .int .i64 b, .slice F3 (digD b n3 0).length f3, .int .i64 0]) ∧
      Kn w [rowI F3 f3 (digD b n3 0), rowI F2 f2 (digD b n2 (k.tmod (pw b n2))), rowI F1 f1 (digD b n1 (k.tdiv (pw b n2)))] w' := by
  obtain ⟨b1, b2, h1, h1', h2, h2', h3, h3', hv, p1, p2, q1, q2⟩ := hB
  have hqb : 0 ≤ k.tdiv (pw b n2) ∧ k.tdiv (pw b n2) ≤ k ∧ 0 ≤ k.tmod (pw b n2) ∧ k.tmod (pw b n2) < pw b n2 := by
    rw [Int.tdiv_eq_ediv_of_nonneg hk0, Int.tmod_eq_emod_of_nonneg hk0]
    exact ⟨Int.ediv_nonneg hk0 (by omega), Int.ediv_le_self _ hk0, Int.emod_nonneg _ (by omega), Int.emod_lt_of_pos _ (by omega)⟩
  have V2 := (fun A c W => values_any b A n2 c W b1 b2 (by omega))
  have hp2 : powC b n2 = pw b n2 := by unfold powC; rw [if_pos p2]
  rw [hp2] at V2
  obtain ⟨P2, hP2⟩ : ∃ x, pw b n2 = x := ⟨_, rfl⟩
  rw [hP2] at V2 hqb p2 q2
  rw [hP2]
  obtain ⟨q, hq⟩ : ∃ x, k.tdiv P2 = x := ⟨_, rfl⟩
  obtain ⟨r, hr⟩ : ∃ x, k.tmod P2 = x := ⟨_, rfl⟩
  rw [hq, hr] at hqb
  rw [hq, hr]
  have W1 := (fun A c W => withValue_any b A n1 c q W b1 b2 (by omega) hqb.1 (by omega))
  have W2 := (fun A c W => withValue_any b A n2 c r W b1 b2 (by omega) hqb.2.2.1 (by omega))
  have hq0 : (P2 == 0) = false := by simp; omega
  have hP0 : P2 ≠ 0 := by omega
  have hwq2 : IntKind.i64.wrap (k.tdiv P2) = q := by rw [hq]; exact wrapI64 (by omega)
  have hwr2 : IntKind.i64.wrap (k.tmod P2) = r := by rw [hr]; exact wrapI64 (by omega)
  have hwq : IntKind.i64.wrap q = q := wrapI64 (by omega)
  have hwr : IntKind.i64.wrap r = r := wrapI64 (by omega)
  obtain ⟨x1, hx1⟩ : ∃ x, digD b n1 0 = x := ⟨_, rfl⟩
  obtain ⟨x2, hx2⟩ : ∃ x, digD b n2 0 = x := ⟨_, rfl⟩
  obtain ⟨x3, hx3⟩ : ∃ x, digD b n3 0 = x := ⟨_, rfl⟩
  obtain ⟨y1, hy1⟩ : ∃ x, digD b n1 q = x := ⟨_, rfl⟩
  obtain ⟨y2, hy2⟩ : ∃ x, digD b n2 r = x := ⟨_, rfl⟩
  have l1 : x1.length = n1 := by rw [← hx1]; exact digD_len ..
  have l2 : x2.length = n2 := by rw [← hx2]; exact digD_len ..
  have l3 : x3.length = n3 := by rw [← hx3]; exact digD_len ..
  rw [hx1] at r1
  rw [hx2] at r2
  rw [hx3] at r3
  rw [hy1] at W1
  rw [hy2] at W2
  rw [hx1, hx2, hx3, hy1, hy2]
  rw [← l1] at W1
  rw [← l2] at W2 V2
  have KC := Lib.hid (fun W (hW : Below w.heap.size w W) => copiedM_any ⟨⟨b, x1⟩, ⟨b, x2⟩, ⟨b, x3⟩, 0⟩ E1 E2 E3 g1 g2 g3 W (r1.below hW) (r2.below hW) (r3.below hW) ⟨by simp only []; omega, by simp only []; omega, by simp only []; omega, by simp only []; omega, by simp only []; omega, by simp only []; omega⟩)
  have W1 := Lib.hid W1
  have W2 := Lib.hid W2
  have V2 := Lib.hid V2
  clear hP2 hx1 hx2 hx3 hy1 hy2 l1 l2 l3 r1 r2 r3 hv h1 h1' h2 h2' h3 h3' b1 b2 hp2 hqb
  go_enter Tryz.func97, Tryz.ntmps97
  go_wp2_with fail
  refine Calls.kn (((Kn.nil w).al [.int .i64 b, .slice E1 x1.length g1, .int .i64 b, .slice E2 x2.length g2, .int .i64 b, .slice E3 x3.length g3, .int .i64 0, .int .i64 cn] 115).al [.int .i64 0, .slice none 0 0, .int .i64 0, .slice none 0 0, .int .i64 0, .slice none 0 0, .int .i64 0] 28) ?_; intro w1 hK1
  simp only [World.size_alloc] at hK1
  (with_reducible refine (V2.out _ _ _).mono ?_); rintro e w2 ⟨rfl, hw⟩
  have hK2 := hK1.keep hw
  clear hK1 hw
  obtain ⟨a1, a2, a3, d1, d2, d3, -⟩ := hK2.cells
  go_wp2_with fail
  refine (KC.out _ hK2.below).mono ?_; rintro e w3 ⟨F1, f1, F2, f2, F3, f3, rfl, hKn⟩
  have hK3 := hK2.join hKn
  clear hK2 hKn a1 a2 a3 d1 d2 d3
  obtain ⟨a1, a2, a3, d1, d2, d3, -⟩ := hK3.cells
  go_wp2_with fail
  have hK4 := hK3.al [.int .i64 b, .slice F1 x1.length f1, .int .i64 b, .slice F2 x2.length f2, .int .i64 b, .slice F3 x3.length f3, .int .i64 0] 28
  generalize w3.alloc (.cells #[.int .i64 b, .slice F1 x1.length f1, .int .i64 b, .slice F2 x2.length f2, .int .i64 b, .slice F3 x3.length f3, .int .i64 0] 28) = w4 at hK4 ⊢
  have hK4 := hK4.sel [0, 1, 2, 3, 4, 5] 6 (by decide) (by decide)
  have HG := Lib.hid (box7 hK4.drew)
  have HT := HG
  go_cut [6] (fun pp wx => pp = .pointer (some ⟨w3.heap.size, 0, none⟩) ∧ ∃ (G1 : Option Addr) (h1 : Nat), Kn w [.blk w3.heap.size [.int .i64 b, .slice G1 y1.length h1, .int .i64 b, .slice F2 x2.length f2, .int .i64 b, .slice F3 x3.length f3, .int .i64 0] 28, rowI G1 h1 y1, rowI F3 f3 x3, rowI F2 f2 x2, .blk (w.heap.size + 1) [.int .i64 0, .slice none 0 0, .int .i64 0, .slice none 0 0, .int .i64 0, .slice none 0 0, .int .i64 0] 28] wx)
  case first =>
    clear HG HT a1 a2 a3 d1 d2 d3
    obtain ⟨a1, a2, a3⟩ := hK4.blkAt
    first | (go_region_law (go_simp; go_at_call 102; (with_reducible refine (W1.out _ _ _).mono ?_); rintro e w5 ⟨G1, h1, rfl, hKn⟩; have hK5 := hK4.drew.join hKn; have hK6 := ((hK5.front 1 rfl).st 0 (.int .i64 b)).st 1 (.slice G1 y1.length h1); clear a1 a2 a3; obtain ⟨a1, a2, a3⟩ := (hK5.front 1 rfl).blkAt)) | fail "no"
    all_goals
      go_wp2_with fail
      go_meet
      exact ⟨rfl, _, _, hK6.sel [0, 1, 2, 3, 5] 99 (by decide) (by decide)⟩
  case rest =>
    obtain ⟨rfl, G1, h1, hK6⟩ := hcut
    clear HG HT hK4 hK3 a1 a2 a3 d1 d2 d3 W1 KC V2
    have HG := Lib.hid (box7 hK6.drew)
    have HT := HG
    go_wp2_with fail
    go_cut [6] (fun pp wx => pp = .pointer (some ⟨w3.heap.size, 0, none⟩) ∧ ∃ (G2 : Option Addr) (h2 : Nat), Kn w [.blk w3.heap.size [.int .i64 b, .slice G1 y1.length h1, .int .i64 b, .slice G2 y2.length h2, .int .i64 b, .slice F3 x3.length f3, .int .i64 0] 28, rowI F3 f3 x3, rowI G2 h2 y2, rowI G1 h1 y1, .blk (w.heap.size + 1) [.int .i64 0, .slice none 0 0, .int .i64 0, .slice none 0 0, .int .i64 0, .slice none 0 0, .int .i64 0] 28] wx)
    case first =>
      clear HG HT
      obtain ⟨a1, a2, a3⟩ := hK6.blkAt
      first | (go_region_law (go_simp; go_at_call 102; (with_reducible refine (W2.out _ _ _).mono ?_); rintro e w5 ⟨G2, h2, rfl, hKn⟩; have hK7 := hK6.drew.join hKn; have hK8 := ((hK7.front 1 rfl).st 2 (.int .i64 b)).st 3 (.slice G2 y2.length h2); clear a1 a2 a3; obtain ⟨a1, a2, a3⟩ := (hK7.front 1 rfl).blkAt)) | fail "no"
      all_goals
        go_wp2_with fail
        go_meet
        exact ⟨rfl, _, _, hK8.sel [0, 3, 1, 2, 5] 99 (by decide) (by decide)⟩
    case rest =>
      obtain ⟨rfl, G2, h2, hK8⟩ := hcut
      clear HG HT hK6 W2
      obtain ⟨a1, a2, a3, d1, d2, d3, -⟩ := hK8.cells
      go_wp2_with fail
      refine bodyPost.kn ((((((((hK8.front 4 rfl).st 0 (.int .i64 b)).st 1 (.slice G1 y1.length h1)).st 2 (.int .i64 b)).st 3 (.slice G2 y2.length h2)).st 4 (.int .i64 b)).st 5 (.slice F3 x3.length f3)).st 6 (.int .i64 0)) ?_; intro w9 hK9
      clear a1 a2 a3 d1 d2 d3
      obtain ⟨a1, a2, a3, -⟩ := hK9.cells
      exact bodyPost_ret (v := .agg [.int .i64 b, .slice G1 y1.length h1, .int .i64 b, .slice G2 y2.length h2, .int .i64 b, .slice F3 x3.length f3, .int .i64 0].toArray) (by simp [results, Tryz.results97, go_sem, a1]) rfl ⟨G1, h1, G2, h2, F3, f3, rfl, hK9.sel [2, 3, 4] 99 (by decide) (by decide)⟩
set_option maxRecDepth 100000 in
set_option maxHeartbeats 3200000 in
theorem l14At_any {b : Int} {n1 n2 n3 : Nat} (k : Int) (w : World) (hB : NmB b n1 n2 n3) (hk0 : 0 ≤ k) (hk1 : k ≤ 1000000) :
    Calls Tryz.prog 84 #[.int .i64 b, .int .i64 n1, .int .i64 n2, .int .i64 n3, .int .i64 k] w fun e w' => ∃ F1 f1 F2 f2 F3 f3,
      e = .returned (.agg #[.int .i64 b, .slice F1 (digD b n1 (k.tdiv (pw b n2))).length f1, .int .i64 b, .slice F2 (digD b n2 (k.tmod (pw b n2))).length f2, .int .i64 b, .slice F3 (digD b n3 0).length f3, .int .i64 0]) ∧
      Kn w [rowI F3 f3 (digD b n3 0), rowI F2 f2 (digD b n2 (k.tmod (pw b n2))), rowI F1 f1 (digD b n1 (k.tdiv (pw b n2)))] w' := by
  obtain ⟨b1, b2, h1, h1', h2, h2', h3, h3', hv, p1, p2, q1, q2⟩ := hB
  have hqb : 0 ≤ k.tdiv (pw b n2) ∧ k.tdiv (pw b n2) ≤ k ∧ 0 ≤ k.tmod (pw b n2) ∧ k.tmod (pw b n2) < pw b n2 := by
    rw [Int.tdiv_eq_ediv_of_nonneg hk0, Int.tmod_eq_emod_of_nonneg hk0]
    exact ⟨Int.ediv_nonneg hk0 (by omega), Int.ediv_le_self _ hk0, Int.emod_nonneg _ (by omega), Int.emod_lt_of_pos _ (by omega)⟩
  have V2 := (fun W => l10Power_any b n2 W b1 b2 (by omega))
  have hp2 : powS b n2 = pw b n2 := by unfold powS; omega
  rw [hp2] at V2
  have KN := (fun W => l10New_any b n1 n2 n3 W b1 b2 (by omega) (by omega) (by omega))
  obtain ⟨P2, hP2⟩ : ∃ x, pw b n2 = x := ⟨_, rfl⟩
  rw [hP2] at V2 hqb p2 q2
  rw [hP2]
  obtain ⟨q, hq⟩ : ∃ x, k.tdiv P2 = x := ⟨_, rfl⟩
  obtain ⟨r, hr⟩ : ∃ x, k.tmod P2 = x := ⟨_, rfl⟩
  rw [hq, hr] at hqb
  rw [hq, hr]
  have W1 := (fun W => l02NewV_any b n1 q W b1 b2 (by omega) hqb.1 (by omega))
  have W2 := (fun W => l02NewV_any b n2 r W b1 b2 (by omega) hqb.2.2.1 (by omega))
  have hq0 : (P2 == 0) = false := by simp; omega
  have hP0 : P2 ≠ 0 := by omega
  have hwq2 : IntKind.i64.wrap (k.tdiv P2) = q := by rw [hq]; exact wrapI64 (by omega)
  have hwr2 : IntKind.i64.wrap (k.tmod P2) = r := by rw [hr]; exact wrapI64 (by omega)
  have hwq : IntKind.i64.wrap q = q := wrapI64 (by omega)
  have hwr : IntKind.i64.wrap r = r := wrapI64 (by omega)
  obtain ⟨x1, hx1⟩ : ∃ x, digD b n1 0 = x := ⟨_, rfl⟩
  obtain ⟨x2, hx2⟩ : ∃ x, digD b n2 0 = x := ⟨_, rfl⟩
  obtain ⟨x3, hx3⟩ : ∃ x, digD b n3 0 = x := ⟨_, rfl⟩
  obtain ⟨y1, hy1⟩ : ∃ x, digD b n1 q = x := ⟨_, rfl⟩
  obtain ⟨y2, hy2⟩ : ∃ x, digD b n2 r = x := ⟨_, rfl⟩
  obtain ⟨u1, hu1⟩ : ∃ x, restD b n1 q = x := ⟨_, rfl⟩
  obtain ⟨u2, hu2⟩ : ∃ x, restD b n2 r = x := ⟨_, rfl⟩
  rw [hx1, hx2, hx3] at KN
  rw [hy1, hu1] at W1
  rw [hy2, hu2] at W2
  rw [hx3, hy1, hy2]
  have W1 := Lib.hid W1
  have W2 := Lib.hid W2
  have V2 := Lib.hid V2
  have KN := Lib.hid KN
  clear hP2 hx1 hx2 hx3 hy1 hy2 hu1 hu2 hv h1 h1' h2 h2' h3 h3' b1 b2 hp2 hqb
  go_enter Tryz.func84, Tryz.ntmps84
  go_wp2_with fail
  refine Calls.kn ((Kn.nil w).al [.int .i64 0, .slice none 0 0, .int .i64 0, .slice none 0 0, .int .i64 0, .slice none 0 0, .int .i64 0] 28) ?_; intro w1 hK1
  (with_reducible refine (KN.out _).mono ?_); rintro e w2 ⟨F1, f1, F2, f2, F3, f3, rfl, hKn⟩
  have hK2 := hK1.join hKn
  clear hK1 hKn
  go_wp2_with (go_at_call 83; (with_reducible refine (V2.out _).mono ?_); rintro e w' ⟨rfl, rfl⟩)
  refine Calls.kn (hK2.al [.int .i64 b, .slice F1 x1.length f1, .int .i64 b, .slice F2 x2.length f2, .int .i64 b, .slice F3 x3.length f3, .int .i64 0] 28) ?_; intro w3 hK3
  (with_reducible refine (W1.out _).mono ?_); rintro e w4 ⟨G1, h1, rfl, hKn⟩
  have hK4 := hK3.join hKn
  clear hK2 hK3 hKn
  go_wp2_with (go_at_call 83; (with_reducible refine (V2.out _).mono ?_); rintro e w' ⟨rfl, rfl⟩)
  refine Calls.kn (hK4.al [.int .i64 b, .slice G1 y1.length h1] 26) ?_; intro w5 hK5
  (with_reducible refine (W2.out _).mono ?_); rintro e w6 ⟨G2, h2, rfl, hKn⟩
  have hK6 := hK5.join hKn
  clear hK4 hK5 hKn
  go_upto_region 4 with fail
  refine Code.wp.kn (hK6.al [.int .i64 b, .slice G2 y2.length h2] 26) ?_; intro w7 hK7
  clear hK6
  obtain ⟨a1, a2, a3, d1, d2, d3, e1, e2, e3, -⟩ := hK7.cells
  have ne1 := hK7.ne 0 4 rfl rfl (by decide)
  have ne2 := hK7.ne 2 4 rfl rfl (by decide)
  go_upto_region 6 with fail
  refine Code.wp.kn (((((hK7.front 4 rfl).st 0 (.int .i64 b)).st 1 (.slice G1 y1.length h1)).st 2 (.int .i64 b)).st 3 (.slice G2 y2.length h2)) ?_; intro w8 hK8
  clear hK7 a1 a2 a3 d1 d2 d3 e1 e2 e3 ne1 ne2
  have hK8 := hK8.sel [0, 8, 5, 2, 4] 99 (by decide) (by decide)
  obtain ⟨a1, a2, a3, d1, d2, d3, -⟩ := hK8.cells
  go_wp2_with fail
  refine bodyPost.kn (((((((hK8.front 1 rfl).st 0 (.int .i64 b)).st 1 (.slice G1 y1.length h1)).st 2 (.int .i64 b)).st 3 (.slice G2 y2.length h2)).st 4 (.int .i64 b)).st 5 (.slice F3 x3.length f3) |>.st 6 (.int .i64 0)) ?_; intro w9 hK9
  clear a1 a2 a3
  obtain ⟨a1, a2, a3, -⟩ := hK9.cells
  exact bodyPost_ret (v := .agg [.int .i64 b, .slice G1 y1.length h1, .int .i64 b, .slice G2 y2.length h2, .int .i64 b, .slice F3 x3.length f3, .int .i64 0].toArray) (by simp [results, Tryz.results84, go_sem, a1]) rfl ⟨G1, h1, G2, h2, F3, f3, rfl, hK9.sel [2, 3, 4] 99 (by decide) (by decide)⟩
end Go.Proofs.YtkfbfainhmkkdaaGreat

namespace Go.Proofs.YtkfbfainhmkkdaaGreat
open Go.RowKit Go.Sort
set_option maxRecDepth 100000 in
set_option maxHeartbeats 1600000 in
theorem shiftedW_any (b : Int) (A : Option Addr) (c : Nat) (ds : List Int) (x : Int) (w : World) (hr : RI w A ds.length ds) (hv : vreg b ds = true) (hp : pw b ds.length ≤ 1000000000001) (hx0 : -2000000000000000 ≤ x) (hx1 : x ≤ 2000000000000000) :
    Calls Tryz.prog 126 #[.agg #[.int .i64 b, .slice A ds.length c], .int .i64 x] w fun e w' => ∃ A' c', e = .returned (.tuple #[.agg #[.int .i64 b, .slice A' (shiftD b ds x).length c'], .bool (shiftB b ds x)]) ∧ Kn w [rowI A' c' (shiftD b ds x)] w' := by
  obtain ⟨⟨b1, b2⟩, ⟨n1, n2⟩, hd, hl⟩ := vreg_iff.1 hv
  have hp1 := pw_pos b b1 ds.length
  have hv0 := (valL_bd b b1 ds (fun d h => (hd d h).1)).1
  have KN := (fun W => values_any b A ds.length c W b1 b2 (by omega))
  have hpc : powC b ds.length = pw b ds.length := by unfold powC; rw [if_pos hp]
  rw [hpc] at KN
  have KV := (fun W (hW : Below w.heap.size w W) => value_any b A ds.length c ds W b1 b2 hd (hr.below hW) n2)
  have hsd : shiftD b ds x = digD b ds.length (((valL b ds + x).tmod (pw b ds.length) + pw b ds.length).tmod (pw b ds.length)) := rfl
  have hsb : shiftB b ds x = (decide (valL b ds + x < 0) || decide (pw b ds.length ≤ valL b ds + x)) := rfl
  obtain ⟨N, hN⟩ : ∃ N, pw b ds.length = N := ⟨_, rfl⟩
  obtain ⟨V, hV⟩ : ∃ V, valL b ds = V := ⟨_, rfl⟩
  rw [hN] at KN hsd hsb hp hp1
  rw [hV] at KV hsd hsb hv0 hl
  obtain ⟨S, hS⟩ : ∃ S, V + x = S := ⟨_, rfl⟩
  rw [hS] at hsd hsb
  have hSb : -2000000000000000 ≤ S ∧ S ≤ 3000000000000000 := by omega
  have hm1 : -N < S.tmod N ∧ S.tmod N < N := by
    have h1 := Int.tmod_lt_of_pos S (show 0 < N by omega)
    have h2 := Int.lt_tmod_of_pos S (show 0 < N by omega)
    omega
  have hm2 : 0 ≤ (S.tmod N + N).tmod N ∧ (S.tmod N + N).tmod N < N := ⟨Int.tmod_nonneg _ (by omega), Int.tmod_lt_of_pos _ (by omega)⟩
  have hwr : IntKind.i64.wrap (S.tmod N + N) = S.tmod N + N := wrapI64 (by omega)
  have nz1 : N ≠ 0 := by omega
  have nz2 : (N == 0) = false := by simp; omega
  have nz3 : ¬ N = 0 := by omega
  have KW := (fun W => withValue_any b A ds.length c ((S.tmod N + N).tmod N) W b1 b2 (by omega) hm2.1 (by omega))
  rw [← hsd] at KW
  obtain ⟨es, hes⟩ : ∃ es, shiftD b ds x = es := ⟨_, rfl⟩
  rw [hes] at KW ⊢
  obtain ⟨bell, hbl⟩ : ∃ e, shiftB b ds x = e := ⟨_, rfl⟩
  have HSB := Lib.hid (hbl.symm.trans hsb)
  rw [hbl]
  have KN := Lib.hid KN
  have KV := Lib.hid KV
  have KW := Lib.hid KW
  have HSS := Lib.hid hS
  have hV2 : -9223372036854775808 ≤ V + x ∧ V + x ≤ 9223372036854775807 := by omega
  clear hsd hsb hes hbl hr hv hd hl hpc hN hV hS
  go_enter Tryz.func126, Tryz.ntmps126
  go_wp2_with (first | (refine wpList.kn ((Kn.nil w).al [.int .i64 b, .slice A ds.length c] 26) ?_; intro w1 hK1))
  have hK2 := hK1.al [.int .i64 0, .slice none 0 0] 26
  generalize w1.alloc (.cells #[.int .i64 0, .slice none 0 0] 26) = w2 at hK2 ⊢
  have HG := Lib.hid (box2 hK2.drew.drop)
  go_cut [6, 7] (fun pp oo wx => pp = .int .i64 N ∧ oo = .int .i64 S ∧ Kn w [.blk w1.heap.size [.int .i64 0, .slice none 0 0] 26, .blk w.heap.size [.int .i64 b, .slice A ds.length c] 26] wx)
  case first =>
    go_region_held3 (fun W => W.cell? ⟨w.heap.size, 0, none⟩ = some (.int .i64 b) ∧ W.cell? ⟨w.heap.size, 1, none⟩ = some (.slice A ds.length c))
      (first | with_reducible exact HG.out | exact HG.out) (first
      | (go_at_call 52; with_reducible refine (KN.out _).mono ?_; rintro e w3 ⟨rfl, hw3⟩; have hK3 := hK2.drew.keep hw3; clear HG; have HG := Lib.hid (box2 hK3.drop))
      | (go_at_call 76; with_reducible refine (KV.out _ hK3.below).mono ?_; rintro e w4 ⟨rfl, hw4⟩; have hK4 := hK3.keep hw4; clear HG; have HG := Lib.hid (box2 hK4.drop)))
    all_goals
      go_wp2_with fail
      go_meet
      exact ⟨rfl, by rw [HSS.out, wrapI64 (by omega)], hK4⟩
  case rest =>
    obtain ⟨rfl, rfl, hK⟩ := hcut
    clear HG hK1 hK2
    clear hV2 hv0
    have HG := Lib.hid (box2 hK.drew.drop)
    have HS := HG
    obtain ⟨a1, a2, a3⟩ := hK.blkAt
    rcases hlt : decide (S < 0) with _ | _
    · have hl2 := of_decide_eq_false hlt
      rcases hge : decide (N ≤ S) with _ | _
      · have hg2 := of_decide_eq_false hge
        rw [hlt, hge] at HSB
        go_wp2_with fail
        go_region_held3 (fun W => W.cell? ⟨w.heap.size, 0, none⟩ = some (.int .i64 b) ∧ W.cell? ⟨w.heap.size, 1, none⟩ = some (.slice A ds.length c)) (first | with_reducible exact HG.out | with_reducible exact HS.out | exact HG.out) (first
            | (go_at_call 102; with_reducible refine (KW.out _).mono ?_; rintro e w3 ⟨A', c', rfl, hK'⟩; have hK3 := hK.drew.join hK'; clear HG; have HG := Lib.hid (box2 hK3.drop.drop); have hK4 := (hK3.sw1.st 0 (.int .i64 b)).st 1 (.slice A' es.length c'); have HS := Lib.hid (box2 hK4.drop.drop); clear a1 a2 a3; obtain ⟨a1, a2, a3⟩ := hK3.drop.blkAt)
          )
        all_goals
          go_wp2_with fail
          refine bodyPost.kn hK4 ?_; intro w6 hK6
          clear a1 a2 a3
          obtain ⟨a1, a2, a3, -⟩ := hK6.cells
          refine bodyPost_ret (v := .tuple #[.agg #[.int .i64 b, .slice A' es.length c'], .bool bell]) (by simp [results, Tryz.results126, go_sem, a1]; rw [HSB.out]; try simp) rfl ⟨A', c', rfl, ?_⟩
          exact hK6.drop.drop1
      · have hg2 := of_decide_eq_true hge
        rw [hlt, hge] at HSB
        go_wp2_with fail
        go_region_held3 (fun W => W.cell? ⟨w.heap.size, 0, none⟩ = some (.int .i64 b) ∧ W.cell? ⟨w.heap.size, 1, none⟩ = some (.slice A ds.length c)) (first | with_reducible exact HG.out | with_reducible exact HS.out | exact HG.out) (first
            | (go_at_call 102; with_reducible refine (KW.out _).mono ?_; rintro e w3 ⟨A', c', rfl, hK'⟩; have hK3 := hK.drew.join hK'; clear HG; have HG := Lib.hid (box2 hK3.drop.drop); have hK4 := (hK3.sw1.st 0 (.int .i64 b)).st 1 (.slice A' es.length c'); have HS := Lib.hid (box2 hK4.drop.drop); clear a1 a2 a3; obtain ⟨a1, a2, a3⟩ := hK3.drop.blkAt)
          )
        all_goals
          go_wp2_with fail
          refine bodyPost.kn hK4 ?_; intro w6 hK6
          clear a1 a2 a3
          obtain ⟨a1, a2, a3, -⟩ := hK6.cells
          refine bodyPost_ret (v := .tuple #[.agg #[.int .i64 b, .slice A' es.length c'], .bool bell]) (by simp [results, Tryz.results126, go_sem, a1]; rw [HSB.out]; try simp) rfl ⟨A', c', rfl, ?_⟩
          exact hK6.drop.drop1
    · have hl2 := of_decide_eq_true hlt
      have hbe : bell = true := by rw [HSB.out, hlt]; rfl
      have HSB := Lib.hid hbe
      clear hbe
      obtain ⟨x1, x2⟩ := box2 hK.drop
      go_wp2_with fail
      first | (go_region_law (go_simp; go_at_call 102; with_reducible refine (KW.out _).mono ?_; rintro e w3 ⟨A', c', rfl, hK'⟩; have hK3 := hK.drew.join hK'; clear HG; have HG := Lib.hid (box2 hK3.drop.drop); have hK4 := (hK3.sw1.st 0 (.int .i64 b)).st 1 (.slice A' es.length c'); have HS := Lib.hid (box2 hK4.drop.drop); clear a1 a2 a3; obtain ⟨a1, a2, a3⟩ := hK3.drop.blkAt)) | fail "no"
      all_goals
        go_wp2_with fail
        refine bodyPost.kn hK4 ?_; intro w6 hK6
        clear a1 a2 a3
        obtain ⟨a1, a2, a3, -⟩ := hK6.cells
        refine bodyPost_ret (v := .tuple #[.agg #[.int .i64 b, .slice A' es.length c'], .bool bell]) (by simp [results, Tryz.results126, go_sem, a1]; rw [HSB.out]; try simp) rfl ⟨A', c', rfl, ?_⟩
        exact hK6.drop.drop1
set_option maxRecDepth 100000 in
set_option maxHeartbeats 1600000 in
theorem l10MoveW_any (p : Addr) (b : Int) (A : Option Addr) (c : Nat) (ds : List Int) (x : Int) (w : World) (hp : RegAt w p b A ds.length c) (hr : RI w A ds.length ds) (hv : vreg b ds = true) (hpw : pw b ds.length ≤ 1000000000001) (hx0 : -2000000000000000 ≤ x) (hx1 : x ≤ 2000000000000000) :
    Calls Tryz.prog 150 #[.pointer (some p), .int .i64 x] w fun e w' => ∃ A' c', e = .returned (.tuple #[.agg #[.int .i64 b, .slice A' (shiftD b ds x).length c'], .bool (shiftB b ds x)]) ∧ Kn w [rowI A' c' (shiftD b ds x)] w' := by
  obtain ⟨⟨b1, b2⟩, ⟨n1, n2⟩, hd, hl⟩ := vreg_iff.1 hv
  have hp1 := pw_pos b b1 ds.length
  have hv0 := (valL_bd b b1 ds (fun d h => (hd d h).1)).1
  have KN := (fun W => l10Power_any b ds.length W b1 b2 (by omega))
  have hpc : powS b ds.length = pw b ds.length := by unfold powS; omega
  rw [hpc] at KN
  have KV := (fun W (hW : Below w.heap.size w W) => l02Value_any b A ds.length c ds W b1 b2 hd (hr.below hW) n2)
  have hsd : shiftD b ds x = digD b ds.length (((valL b ds + x).tmod (pw b ds.length) + pw b ds.length).tmod (pw b ds.length)) := rfl
  have hsb : shiftB b ds x = (decide (valL b ds + x < 0) || decide (pw b ds.length ≤ valL b ds + x)) := rfl
  obtain ⟨N, hN⟩ : ∃ N, pw b ds.length = N := ⟨_, rfl⟩
  obtain ⟨V, hV⟩ : ∃ V, valL b ds = V := ⟨_, rfl⟩
  rw [hN] at KN hsd hsb hpw hp1
  rw [hV] at KV hsd hsb hv0 hl
  obtain ⟨S, hS⟩ : ∃ S, V + x = S := ⟨_, rfl⟩
  rw [hS] at hsd hsb
  have hSb : -2000000000000000 ≤ S ∧ S ≤ 3000000000000000 := by omega
  have hm1 : -N < S.tmod N ∧ S.tmod N < N := by
    have h1 := Int.tmod_lt_of_pos S (show 0 < N by omega)
    have h2 := Int.lt_tmod_of_pos S (show 0 < N by omega)
    omega
  have hm2 : 0 ≤ (S.tmod N + N).tmod N ∧ (S.tmod N + N).tmod N < N := ⟨Int.tmod_nonneg _ (by omega), Int.tmod_lt_of_pos _ (by omega)⟩
  have hwr : IntKind.i64.wrap (S.tmod N + N) = S.tmod N + N := wrapI64 (by omega)
  have hwn : IntKind.i64.wrap (N - 1) = N - 1 := wrapI64 (by omega)
  have nz1 : N ≠ 0 := by omega
  have nz2 : (N == 0) = false := by simp; omega
  have nz3 : ¬ N = 0 := by omega
  have KW := (fun W => l02NewV_any b ds.length ((S.tmod N + N).tmod N) W b1 b2 (by omega) hm2.1 (by omega))
  rw [← hsd] at KW
  obtain ⟨es, hes⟩ : ∃ es, shiftD b ds x = es := ⟨_, rfl⟩
  rw [hes] at KW ⊢
  obtain ⟨bell, hbl⟩ : ∃ e, shiftB b ds x = e := ⟨_, rfl⟩
  have HSB := Lib.hid (show (!betB S 0 (N - 1)) = bell by
    rw [← hbl, hsb]
    rcases hb : betB S 0 (N - 1) with _ | _
    · have := betB_false.1 hb
      simp; omega
    · have := betB_iff.1 hb
      simp; omega)
  rw [hbl]
  have KI := Lib.hid (fun W => l00In_any S 0 (N - 1) W)
  have KN := Lib.hid KN
  have KV := Lib.hid KV
  have KW := Lib.hid KW
  have hSe : IntKind.i64.wrap (V + x) = S := by rw [hS]; exact wrapI64 (by omega)
  have HSE := Lib.hid hS
  have hV2 : -9223372036854775808 ≤ V + x ∧ V + x ≤ 9223372036854775807 := by omega
  have HP := Lib.hid (fun W (hW : Below w.heap.size w W) => hp.below hW)
  clear hsd hsb hes hbl hr hv hd hl hpc hN hV hS hp hSe
  go_enter Tryz.func150, Tryz.ntmps150
  go_wp2_with (first
    | (refine wpList.kn ((Kn.nil w).al [.int .i64 0, .slice none 0 0] 26) ?_; intro w2 hK2; obtain ⟨x1, x2⟩ := HP.out _ hK2.below)
    | (go_at_call 83; refine (KN.out _).mono ?_; rintro e w' ⟨rfl, rfl⟩))
  go_quiet ((go_at_call 140; exact quiet_left (KV.out _ (hK2.drewN _).below)))
  clear x1 x2
  have hK3 := hK2.drewN nq
  generalize w2.drewN nq = w3 at hK3 ⊢
  rw [HSE.out]
  have hq := HP.out _ hK3.drew.below
  have HG := Lib.hid (show _ ∧ _ from hq)
  have hq0 := HP.out _ (hK3.al [.int .i64 0, .slice none 0 0] 26).drew.below
  have HA := Lib.hid (show _ ∧ _ from hq0)
  have HS := HG
  clear hq hq0
  go_wp2_with fail
  go_cut [9] (fun pp wx => ∃ (g : Nat) (A' : Option Addr) (c' : Nat), pp = .pointer (some ⟨g, 0, none⟩) ∧ Kn w [.blk g [.int .i64 b, .slice A' es.length c'] 26, rowI A' c' es, .blk w.heap.size [.int .i64 0, .slice none 0 0] 26] wx)
  case first =>
    go_region_held3 (fun W => W.cell? p = some (.int .i64 b) ∧ W.cell? ⟨p.block, p.off + 1, none⟩ = some (.slice A ds.length c))
      (first | with_reducible exact HG.out | with_reducible exact HA.out | with_reducible exact HS.out | exact HG.out | exact HA.out | exact HS.out) (first
      | (go_at_call 110; (with_reducible refine (KW.out _).mono ?_); rintro e w4 ⟨A', c', rfl, hK⟩; clear HG HA; first
        | (have hK4 := hK3.drew.join hK; have hq := HP.out _ hK4.below; have HG := Lib.hid (show _ ∧ _ from hq); have hq1 := HP.out _ (hK4.al [.int .i64 0, .slice none 0 0] 26).below; have HA := Lib.hid (show _ ∧ _ from hq1); have hK5 := hK4.al [.int .i64 b, .slice A' es.length c'] 26; have hq2 := HP.out _ hK5.below; have HS := Lib.hid (show _ ∧ _ from hq2))
        | (have hK4 := (hK3.al [.int .i64 0, .slice none 0 0] 26).drew.join hK; have hq := HP.out _ hK4.below; have HG := Lib.hid (show _ ∧ _ from hq); obtain ⟨g1, f1, l1⟩ := hK4.drop.blkAt; have HA := HG; have hK5 := (hK4.sw1.st 0 (.int .i64 b)).st 1 (.slice A' es.length c'); have hq2 := HP.out _ hK5.below; have HS := Lib.hid (show _ ∧ _ from hq2))))
    all_goals
      go_wp2_with fail
      go_meet
      exact ⟨_, _, _, rfl, hK5⟩
  case rest =>
    obtain ⟨g, A', c', rfl, hK5⟩ := hcut
    clear HG HA HS KN KV KW hK2 hK3
    obtain ⟨a1, a2, a3, d1, d2, d3, -⟩ := hK5.cells
    go_wp2_with fail
    have HG := Lib.hid (box2 hK5.drew)
    have hK6 := ((hK5.sw2.st 0 (.int .i64 b)).st 1 (.slice A' es.length c')).drew
    have HS := Lib.hid (box2 hK6.drop)
    go_region_held3 (fun W => W.cell? ⟨g, 0, none⟩ = some (.int .i64 b) ∧ W.cell? ⟨g, 1, none⟩ = some (.slice A' es.length c'))
      (first | with_reducible exact HG.out | with_reducible exact HS.out | exact HG.out) (first
      | (go_at_call 59; (with_reducible refine (KI.out _).mono ?_); rintro e w7 ⟨rfl, rfl⟩))
    all_goals
      go_wp2_with fail
      refine bodyPost_ret (v := .tuple #[.agg #[.int .i64 b, .slice A' es.length c'], .bool bell]) (by simp [results, Tryz.results150, go_sem, d1]; first | exact HSB.out | (have := HSB.out; simp_all)) rfl ⟨A', c', rfl, ?_⟩
      exact hK6.drop.drop
end Go.Proofs.YtkfbfainhmkkdaaGreat

namespace Go.Proofs.YtkfbfainhmkkdaaGreat
open Go.RowKit Go.Sort
theorem strokeT_cs (k : Int) (t : Tri) : (strokeT k t).1.s.base = t.s.base ∧ (strokeT k t).1.s.digits.length = t.s.digits.length := by
  unfold strokeT turnT
  repeat' split
  all_goals simp [shiftD_len, digD_len]
theorem Ev.cs {L : List Ins} {t : Task} {s s' : RS} {b : Bool} (h : Ev L t s s' b) : s'.m.s.base = s.m.s.base ∧ s'.m.s.digits.length = s.m.s.digits.length := by
  induction h with
  | s0 => exact ⟨rfl, rfl⟩
  | sFull h => exact ⟨rfl, rfl⟩
  | @sStep kind n s s' b h he ih => have := strokeT_cs kind s.m; exact ⟨ih.1.trans this.1, ih.2.trans this.2⟩
  | rEnd h => exact ⟨rfl, rfl⟩
  | rCode hi h => exact ⟨rfl, rfl⟩
  | rSetFull hi hl hc ho h => exact ⟨rfl, rfl⟩
  | rSetBad hi hl hc ho h hf => exact ⟨rfl, rfl⟩
  | rSet hi hl hc ho h hf he ih => exact ih
  | rLoop hi hl hc ho hm h1 he ih1 ih2 => exact ⟨ih2.1.trans ih1.1, ih2.2.trans ih1.2⟩
  | rStr hi hl hc ho h1' h1 he ih1 ih2 => exact ⟨ih2.1.trans ih1.1, ih2.2.trans ih1.2⟩
  | lEnd h8 hk => exact ⟨rfl, rfl⟩
  | lFull h8 h => exact ⟨rfl, rfl⟩
  | lOut h8 h h1 ho ih => exact ih
  | lStep h8 h h1 ho he ih1 ih2 => exact ⟨ih2.1.trans ih1.1, ih2.2.trans ih1.2⟩
theorem sameR_comm (r s : Reg) : sameR r s = sameR s r := by
  unfold sameR
  have h1 : (r.base == s.base) = (s.base == r.base) := by
    rw [Bool.eq_iff_iff]; simp only [beq_iff_eq]; exact eq_comm
  have h2 : decide (r.digits = s.digits) = decide (s.digits = r.digits) := decide_eq_decide.2 eq_comm
  rw [h1, h2]
/-- the kinds of promises -/
def isP (kind arg : Int) : Bool := if kind = 1 then betB arg (-1000) 1000 else betB kind 1 4 && decide (arg = 0)
def kpAfter (t s : Tri) (kind arg : Int) : Bool :=
  if kind = 1 then sameR s.b ⟨t.b.base, shiftD t.b.base t.b.digits (arg * valL t.a.base t.a.digits)⟩ && sameR s.a t.a
  else if kind = 2 then (valL s.b.base s.b.digits == (valL t.b.base t.b.digits).tmod (valL t.a.base t.a.digits)) && ((pw t.s.base t.s.digits.length - valL s.s.base s.s.digits).tmod (pw t.s.base t.s.digits.length) == (valL t.b.base t.b.digits).tdiv (valL t.a.base t.a.digits))
  else if kind = 3 then sameR s.b t.b && sameR s.a t.a
  else (valL s.b.base s.b.digits == 0) && (valL s.s.base s.s.digits == 0)
noncomputable def kpB (L : List Ins) (t : Tri) (kind arg : Int) : Bool :=
  if kind = 2 ∧ valL t.a.base t.a.digits = 0 then true else if (endR L t).code = 0 then kpAfter t (endR L t).m kind arg else false
theorem kp_zero {L : List Ins} {t : Tri} {arg : Int} (h : valL t.a.base t.a.digits = 0) : kpB L t 2 arg = true := by unfold kpB; rw [if_pos ⟨rfl, h⟩]
theorem kp_code {L : List Ins} {t : Tri} {kind arg : Int} {s : RS} {b : Bool} (hn : ¬ (kind = 2 ∧ valL t.a.base t.a.digits = 0)) (he : Ev L (.run 0 L.length) (startR t) s b) (hc : ¬ s.code = 0) : kpB L t kind arg = false := by
  unfold kpB; rw [if_neg hn, endR_eq he, if_neg hc]
theorem kp_fine {L : List Ins} {t : Tri} {kind arg : Int} {s : RS} {b : Bool} (hn : ¬ (kind = 2 ∧ valL t.a.base t.a.digits = 0)) (he : Ev L (.run 0 L.length) (startR t) s b) (hc : s.code = 0) : kpB L t kind arg = kpAfter t s.m kind arg := by
  unfold kpB; rw [if_neg hn, endR_eq he, if_pos hc]
theorem l14Kind_any (n : Int) (w : World) : Calls Tryz.prog 91 #[.int .i64 n] w fun e w' => e = .returned (.bool (betB n 1 4)) ∧ w = w' := by
  go_enter Tryz.func91, Tryz.ntmps91
  go_wp2_with (go_at_call 59; refine (l00In_any _ _ _ _).mono ?_; rintro e w' ⟨rfl, rfl⟩)
  go_ret
  exact ⟨rfl, rfl⟩
theorem isPromise_any (kind arg : Int) (w : World) : Calls Tryz.prog 87 #[.int .i64 kind, .int .i64 arg] w fun e w' => e = .returned (.bool (isP kind arg)) ∧ w = w' := by
  by_cases h : kind = 1
  · subst h
    go_enter Tryz.func87, Tryz.ntmps87
    go_wp2_with (go_at_call 51; refine (between_any _ _ _ _).mono ?_; rintro e w' ⟨rfl, rfl⟩; try rw [hd'.out])
    go_ret
    exact ⟨rfl, rfl⟩
  · have hk : (kind == 1) = false := by simpa using h
    have HF := Lib.hid (show isP kind arg = (betB kind 1 4 && decide (arg = 0)) by unfold isP; rw [if_neg h])
    rcases hb : betB kind 1 4 with _ | _
    · have HF2 : Hid (isP kind arg = false) := by rw [Hid, HF.out, hb]; rfl
      have hd' := Lib.hid hb; clear hb
      go_enter Tryz.func87, Tryz.ntmps87
      go_wp2_with (go_at_call 51; refine (between_any _ _ _ _).mono ?_; rintro e w' ⟨rfl, rfl⟩; try rw [hd'.out])
      go_ret
      exact ⟨ret_bool HF2.out.symm, rfl⟩
    · by_cases ha : arg = 0
      · have HF2 : Hid (isP kind arg = true) := by rw [Hid, HF.out, hb, ha]; rfl
        have hd' := Lib.hid hb; clear hb
        subst ha
        go_enter Tryz.func87, Tryz.ntmps87
        go_wp2_with (go_at_call 51; refine (between_any _ _ _ _).mono ?_; rintro e w' ⟨rfl, rfl⟩; try rw [hd'.out])
        go_ret
        exact ⟨ret_bool HF2.out.symm, rfl⟩
      · have HF2 : Hid (isP kind arg = false) := by rw [Hid, HF.out, hb]; simpa using ha
        have hd' := Lib.hid hb; clear hb
        have ha2 : (arg == 0) = false := by simpa using ha
        go_enter Tryz.func87, Tryz.ntmps87
        go_wp2_with (go_at_call 51; refine (between_any _ _ _ _).mono ?_; rintro e w' ⟨rfl, rfl⟩; try rw [hd'.out])
        go_ret
        exact ⟨ret_bool HF2.out.symm, rfl⟩
theorem l14Arg_any (kind arg : Int) (w : World) : Calls Tryz.prog 90 #[.int .i64 kind, .int .i64 arg] w fun e w' => e = .returned (.bool (isP kind arg)) ∧ w = w' := by
  by_cases h : kind = 1
  · subst h
    go_enter Tryz.func90, Tryz.ntmps90
    go_wp2_with (first | (go_at_call 59; refine (l00In_any _ _ _ _).mono ?_; rintro e w' ⟨rfl, rfl⟩; try rw [hd'.out]) | (go_at_call 91; refine (l14Kind_any _ _).mono ?_; rintro e w' ⟨rfl, rfl⟩; try rw [hd'.out]))
    go_ret
    exact ⟨rfl, rfl⟩
  · have hk : (kind == 1) = false := by simpa using h
    have HF := Lib.hid (show isP kind arg = (betB kind 1 4 && decide (arg = 0)) by unfold isP; rw [if_neg h])
    rcases hb : betB kind 1 4 with _ | _
    · have HF2 : Hid (isP kind arg = false) := by rw [Hid, HF.out, hb]; rfl
      have hd' := Lib.hid hb; clear hb
      go_enter Tryz.func90, Tryz.ntmps90
      go_wp2_with (first | (go_at_call 59; refine (l00In_any _ _ _ _).mono ?_; rintro e w' ⟨rfl, rfl⟩; try rw [hd'.out]) | (go_at_call 91; refine (l14Kind_any _ _).mono ?_; rintro e w' ⟨rfl, rfl⟩; try rw [hd'.out]))
      go_ret
      exact ⟨ret_bool HF2.out.symm, rfl⟩
    · by_cases ha : arg = 0
      · have HF2 : Hid (isP kind arg = true) := by rw [Hid, HF.out, hb, ha]; rfl
        have hd' := Lib.hid hb; clear hb
        subst ha
        go_enter Tryz.func90, Tryz.ntmps90
        go_wp2_with (first | (go_at_call 59; refine (l00In_any _ _ _ _).mono ?_; rintro e w' ⟨rfl, rfl⟩; try rw [hd'.out]) | (go_at_call 91; refine (l14Kind_any _ _).mono ?_; rintro e w' ⟨rfl, rfl⟩; try rw [hd'.out]))
        go_ret
        exact ⟨ret_bool HF2.out.symm, rfl⟩
      · have HF2 : Hid (isP kind arg = false) := by rw [Hid, HF.out, hb]; simpa using ha
        have hd' := Lib.hid hb; clear hb
        have ha2 : (arg == 0) = false := by simpa using ha
        go_enter Tryz.func90, Tryz.ntmps90
        go_wp2_with (first | (go_at_call 59; refine (l00In_any _ _ _ _).mono ?_; rintro e w' ⟨rfl, rfl⟩; try rw [hd'.out]) | (go_at_call 91; refine (l14Kind_any _ _).mono ?_; rintro e w' ⟨rfl, rfl⟩; try rw [hd'.out]))
        go_ret
        exact ⟨ret_bool HF2.out.symm, rfl⟩
theorem l14Value_any (p : Addr) (b : Int) (A : Option Addr) (n c : Nat) (ds : List Int) (w : World) (hp : RegAt w p b A n c) (hb1 : 2 ≤ b) (hb2 : b ≤ 16) (hd : ∀ d ∈ ds, 0 ≤ d ∧ d < b) (hr : RI w A n ds) (hn : n ≤ 16) :
    Calls Tryz.prog 124 #[.pointer (some p)] w fun e w' => e = .returned (.int .i64 (valL b ds)) ∧ ∃ q, w' = w.drewN q := by
  obtain ⟨q1, q2⟩ := hp
  have KP := Lib.hid (fun (m : Nat) => l02Value_any b A n c ds (w.drewN m) hb1 hb2 hd (hr.below (below_drewN (Below.refl _ _) m)) hn)
  go_enter Tryz.func124, Tryz.ntmps124
  go_wp2_with fail
  go_quiet ((go_at_call 140; exact quiet_left (KP.out _)))
  go_wp2
  go_ret
  exact ⟨rfl, _, rfl⟩
theorem isP_kinds {kind arg : Int} (h : isP kind arg = true) : (kind = 1 ∧ -1000 ≤ arg ∧ arg ≤ 1000) ∨ kind = 2 ∨ kind = 3 ∨ kind = 4 := by
  unfold isP at h
  split at h
  · exact Or.inl ⟨by assumption, betB_iff.1 h⟩
  · rw [Bool.and_eq_true] at h
    have := betB_iff.1 h.1
    omega
end Go.Proofs.YtkfbfainhmkkdaaGreat
