/- Part 9: lemmas and contracts of the claim's functions. -/
import Derived.Test.YtcapccadpbiecaaDoorZC1
import Derived.Test.YtcapccadpbiecaaDoorZC2
import Derived.Test.YtcapccadpbiecaaDoorZC3
import Derived.Test.YtcapccadpbiecaaDoorZC4
import Derived.Test.YtcapccadpbiecaaDoorZC5
import Derived.Test.YtcapccadpbiecaaDoorZC6
import Derived.Test.YtcapccadpbiecaaDoorZC7
import Derived.Test.YtcapccadpbiecaaDoorZC8
import Derived.Deep.RegionHeld3
import Derived.ProofKit
import Derived.Carry
import Derived.SliceStrings
import Derived.Test.YtcapccadpbiecaaDoorTie
import Derived.Test.YtcapccadpbiecaaDoorCards
import Derived.Deep.DeepHandedRow
import Derived.Lib.LaidTab
namespace Go.Proofs.YtcapccadpbiecaaDoor
open Go.RowKit Go.Sort
/-! the recording of a stroke, plainly -/
def rkC (t : Tri) (s : ByteArray) (k : Int) : Int := if vmach t = false then 1 else if jcode (strB s) ≠ 0 then jcode (strB s) else if betB k 1 6 = false then 2 else anC (strB s) (strB (sname k))
def rkM (t : Tri) (s : ByteArray) (k : Int) : Tri := if rkC t s k = 0 then (strokeT k t).1 else zTri
def rkT (t : Tri) (s : ByteArray) (k : Int) : ByteArray := if rkC t s k = 0 then anT s (sname k) else ⟨#[]⟩
theorem rk_not {t : Tri} {s : ByteArray} {k c : Int} (h : rkC t s k = c) (hc : c ≠ 0) : rkC t s k = c ∧ rkM t s k = zTri ∧ rkT t s k = ⟨#[]⟩ :=
  ⟨h, by unfold rkM; rw [h, if_neg hc], by unfold rkT; rw [h, if_neg hc]⟩
theorem rk_bad {t : Tri} {s : ByteArray} {k : Int} (h : vmach t = false) : rkC t s k = 1 ∧ rkM t s k = zTri ∧ rkT t s k = ⟨#[]⟩ := rk_not (by unfold rkC; rw [if_pos h]) (by decide)
theorem rk_code {t : Tri} {s : ByteArray} {k : Int} (h : vmach t = true) (h2 : jcode (strB s) ≠ 0) : rkC t s k = jcode (strB s) ∧ rkM t s k = zTri ∧ rkT t s k = ⟨#[]⟩ := rk_not (by unfold rkC; rw [if_neg (by rw [h]; decide), if_pos h2]) h2
theorem rk_kind {t : Tri} {s : ByteArray} {k : Int} (h : vmach t = true) (h2 : jcode (strB s) = 0) (h3 : betB k 1 6 = false) : rkC t s k = 2 ∧ rkM t s k = zTri ∧ rkT t s k = ⟨#[]⟩ := rk_not (by unfold rkC; rw [if_neg (by rw [h]; decide), if_neg (fun h' => h' h2), if_pos h3]) (by decide)
theorem rk_note {t : Tri} {s : ByteArray} {k : Int} (h : vmach t = true) (h2 : jcode (strB s) = 0) (h3 : betB k 1 6 = true) (h4 : anC (strB s) (strB (sname k)) ≠ 0) : rkC t s k = anC (strB s) (strB (sname k)) ∧ rkM t s k = zTri ∧ rkT t s k = ⟨#[]⟩ := rk_not (by unfold rkC; rw [if_neg (by rw [h]; decide), if_neg (fun h' => h' h2), if_neg (by rw [h3]; decide)]) h4
theorem rk_fine {t : Tri} {s : ByteArray} {k : Int} (h : vmach t = true) (h2 : jcode (strB s) = 0) (h3 : betB k 1 6 = true) (h4 : anC (strB s) (strB (sname k)) = 0) : rkC t s k = 0 ∧ rkM t s k = (strokeT k t).1 ∧ rkT t s k = anT s (sname k) := by
  have h1 : rkC t s k = 0 := by unfold rkC; rw [if_neg (by rw [h]; decide), if_neg (fun h' => h' h2), if_neg (by rw [h3]; decide)]; exact h4
  exact ⟨h1, by unfold rkM; rw [h1, if_pos rfl], by unfold rkT; rw [h1, if_pos rfl]⟩
theorem rkM_ok {t : Tri} {s : ByteArray} {k : Int} (h : rkC t s k = 0) : vmach (rkM t s k) = true := by
  have hv : vmach t = true := by
    cases hv : vmach t with
    | true => rfl
    | false => rw [(rk_bad hv).1] at h; cases h
  unfold rkM
  rw [if_pos h]
  exact strokeT_ok _ hv
theorem rkM_len (t : Tri) (s : ByteArray) (k : Int) : (rkM t s k).a.digits.length ≤ 16 ∧ (rkM t s k).b.digits.length ≤ 16 ∧ (rkM t s k).s.digits.length ≤ 16 := by
  by_cases h : rkC t s k = 0
  · have := sized_of (rkM_ok h)
    exact ⟨this.a, this.b, this.s⟩
  · unfold rkM; rw [if_neg h]; simp [zTri]
def RKRet (t : Tri) (s : ByteArray) (k : Int) : World → Ending → World → Prop := M2Ret (rkM t s k) (.string (rkT t s k)) (rkC t s k)
theorem isStroke_any (k : Int) (w : World) : Calls Tryd.prog 96 #[.int .i64 k] w fun e w' => e = .returned (.bool (betB k 1 6)) ∧ w = w' := by
  have KB := Lib.hid (fun W => between_any k 1 6 W)
  go_enter Tryd.func96, Tryd.ntmps96
  go_wp2_with (go_at_call 127; refine (KB.out _).mono ?_; rintro e w' ⟨rfl, rfl⟩)
  go_ret
  exact ⟨rfl, rfl⟩
theorem l10Kind_any (k : Int) (w : World) : Calls Tryd.prog 93 #[.int .i64 k] w fun e w' => e = .returned (.bool (betB k 1 6)) ∧ w = w' := by
  have KB := Lib.hid (fun W => l00In_any k 1 6 W)
  go_enter Tryd.func93, Tryd.ntmps93
  go_wp2_with (go_at_call 128; refine (KB.out _).mono ?_; rintro e w' ⟨rfl, rfl⟩)
  go_ret
  exact ⟨rfl, rfl⟩
set_option maxRecDepth 100000 in
set_option maxHeartbeats 3200000 in
theorem RecordStroke_any (t : Tri) (A1 A2 A3 : Option Addr) (c1 c2 c3 : Nat) (s : ByteArray) (k : Int) (w : World) (r1 : RI w A1 t.a.digits.length t.a.digits) (r2 : RI w A2 t.b.digits.length t.b.digits) (r3 : RI w A3 t.s.digits.length t.s.digits) (hs : SmallTri t) (hz : s.size ≤ 9223372036854775807) (ht : TB w) :
    Calls Tryd.prog 27 #[.agg #[.int .i64 t.a.base, .slice A1 t.a.digits.length c1, .int .i64 t.b.base, .slice A2 t.b.digits.length c2, .int .i64 t.s.base, .slice A3 t.s.digits.length c3, .int .i64 t.carry], .string s, .int .i64 k] w (RKRet t s k w) := by
  have KV := (fun W (hW : Below w.heap.size w W) => ValidMachine_any t A1 A2 A3 c1 c2 c3 W (r1.below hW) (r2.below hW) (r3.below hW) hs)
  have KW := (fun W (hW : Below w.heap.size w W) => wholeJournal_any s W hz (TB.below ht hW))
  have KK := (fun W => isStroke_any k W)
  have KA := (fun W (hW : Below w.heap.size w W) => AppendNote_any s (sname k) W hz (by have := sname_len k; omega) (TB.below ht hW))
  unfold RKRet
  rcases hv : vmach t with _ | _
  · rw [hv] at KV
    obtain ⟨e1, e2, e3⟩ := rk_bad (s := s) (k := k) hv
    rw [e1, e2, e3]
    replace KV := Lib.hid KV
    clear hv KW KK KA r1 r2 r3 hs ht e1 e2 e3
    go_enter Tryd.func27, Tryd.ntmps27
    go_wp2_with fail
    refine Calls.kn (((Kn.nil w).al [.int .i64 t.a.base, .slice A1 t.a.digits.length c1, .int .i64 t.b.base, .slice A2 t.b.digits.length c2, .int .i64 t.s.base, .slice A3 t.s.digits.length c3, .int .i64 t.carry] 37).al [.int .i64 0, .slice none 0 0, .int .i64 0, .slice none 0 0, .int .i64 0, .slice none 0 0, .int .i64 0] 37) ?_; intro w1 hK0
    simp only [World.size_alloc] at hK0
    refine (KV.out _ hK0.below).mono ?_; rintro e w2 ⟨rfl, hw⟩
    have hK1 := hK0.keep hw
    obtain ⟨x1, x2, x3⟩ := (hK1.front 0 rfl).blkAt
    go_wp2_with fail
    refine bodyPost.kn (((((((((hK1.front 0 rfl).st 0 (.int .i64 0)).st 1 (.slice none 0 0)).st 2 (.int .i64 0)).st 3 (.slice none 0 0)).st 4 (.int .i64 0)).st 5 (.slice none 0 0)).st 6 (.int .i64 0)).sel [0] 99 (by decide) (by decide)) ?_; intro w6 hK6
    clear x1 x2 x3
    obtain ⟨a1, a2, a3, -⟩ := hK6.cells
    refine bodyPost_ret (v := .tuple #[.agg #[.int .i64 0, .slice none 0 0, .int .i64 0, .slice none 0 0, .int .i64 0, .slice none 0 0, .int .i64 0], .string ⟨#[]⟩, .int .i64 1]) (by simp [results, Tryd.results27, go_sem, a1]) rfl ?_
    exact M2Ret.zero hK6.below
  rw [hv] at KV
  unfold WJ at KW
  have H1 := rk_code (s := s) (k := k) hv
  have H2 := rk_kind (s := s) (k := k) hv
  have H3 := rk_note (s := s) (k := k) hv
  have H4 := rk_fine (s := s) (k := k) hv
  obtain ⟨C, hC⟩ : ∃ C, jcode (strB s) = C := ⟨_, rfl⟩
  obtain ⟨RC, hRC⟩ : ∃ C, rkC t s k = C := ⟨_, rfl⟩
  obtain ⟨RM, hRM⟩ : ∃ C, rkM t s k = C := ⟨_, rfl⟩
  obtain ⟨RT, hRT⟩ : ∃ C, rkT t s k = C := ⟨_, rfl⟩
  rw [hC] at KW
  rw [hC, hRC, hRM, hRT] at H1 H2 H3 H4
  rw [hRC, hRM, hRT]
  clear hC hRC hRM hRT
  replace KW := Lib.hid KW
  replace KV := Lib.hid KV
  rcases hc0 : (C == 0) with _ | _
  · have HCN := Lib.hid (show C ≠ 0 by simpa using hc0)
    have HQ := Lib.hid (H1 HCN.out)
    have hc1 : (C != 0) = true := by simpa using hc0
    clear H1 H2 H3 H4 KK KA hv r1 r2 r3 hs ht hc0
    go_enter Tryd.func27, Tryd.ntmps27
    go_wp2_with fail
    refine Calls.kn (((Kn.nil w).al [.int .i64 t.a.base, .slice A1 t.a.digits.length c1, .int .i64 t.b.base, .slice A2 t.b.digits.length c2, .int .i64 t.s.base, .slice A3 t.s.digits.length c3, .int .i64 t.carry] 37).al [.int .i64 0, .slice none 0 0, .int .i64 0, .slice none 0 0, .int .i64 0, .slice none 0 0, .int .i64 0] 37) ?_; intro w1 hK0
    simp only [World.size_alloc] at hK0
    refine (KV.out _ hK0.below).mono ?_; rintro e w2 ⟨rfl, hw⟩
    have hK1 := hK0.keep hw
    go_wp2_with fail
    refine (KW.out _ hK1.below).mono ?_; rintro e w3 ⟨v, rfl, (⟨-, rfl, hw⟩ | ⟨h0, -⟩)⟩
    rotate_left
    · exact absurd h0 HCN.out
    have hK2 := hK1.keep (hw.mono (Nat.le_refl _))
    obtain ⟨x1, x2, x3⟩ := (hK2.front 0 rfl).blkAt
    go_wp2_with fail
    refine bodyPost.kn (((((((((hK2.front 0 rfl).st 0 (.int .i64 0)).st 1 (.slice none 0 0)).st 2 (.int .i64 0)).st 3 (.slice none 0 0)).st 4 (.int .i64 0)).st 5 (.slice none 0 0)).st 6 (.int .i64 0)).sel [0] 99 (by decide) (by decide)) ?_; intro w6 hK6
    clear x1 x2 x3
    obtain ⟨a1, a2, a3, -⟩ := hK6.cells
    refine bodyPost_ret (v := .tuple #[.agg #[.int .i64 0, .slice none 0 0, .int .i64 0, .slice none 0 0, .int .i64 0, .slice none 0 0, .int .i64 0], .string ⟨#[]⟩, .int .i64 C]) (by simp [results, Tryd.results27, go_sem, a1]) rfl ?_
    rw [HQ.out.1, HQ.out.2.1, HQ.out.2.2]
    exact M2Ret.zero hK6.below
  obtain rfl : C = 0 := by simpa using hc0
  replace H2 := H2 rfl
  replace H3 := H3 rfl
  replace H4 := H4 rfl
  clear H1 hc0
  rcases hk : betB k 1 6 with _ | _
  · rw [hk] at KK
    have HQ := Lib.hid (H2 hk)
    replace KK := Lib.hid KK
    clear H2 H3 H4 KA hv hk r1 r2 r3 hs ht
    go_enter Tryd.func27, Tryd.ntmps27
    go_wp2_with fail
    refine Calls.kn (((Kn.nil w).al [.int .i64 t.a.base, .slice A1 t.a.digits.length c1, .int .i64 t.b.base, .slice A2 t.b.digits.length c2, .int .i64 t.s.base, .slice A3 t.s.digits.length c3, .int .i64 t.carry] 37).al [.int .i64 0, .slice none 0 0, .int .i64 0, .slice none 0 0, .int .i64 0, .slice none 0 0, .int .i64 0] 37) ?_; intro w1 hK0
    simp only [World.size_alloc] at hK0
    refine (KV.out _ hK0.below).mono ?_; rintro e w2 ⟨rfl, hw⟩
    have hK1 := hK0.keep hw
    go_wp2_with fail
    refine (KW.out _ hK1.below).mono ?_; rintro e w3 ⟨v, rfl, (⟨h0, -⟩ | ⟨-, g, rfl, hJ⟩)⟩
    · exact absurd rfl h0
    have hK2 := hK1.keep hJ.below
    obtain ⟨x1, x2, x3⟩ := hK2.blkAt
    go_wp2_with (go_at_call 96; with_reducible refine (KK.out _).mono ?_; rintro e w4 ⟨rfl, rfl⟩)
    refine bodyPost.kn ((((((((hK2.st 0 (.int .i64 0)).st 1 (.slice none 0 0)).st 2 (.int .i64 0)).st 3 (.slice none 0 0)).st 4 (.int .i64 0)).st 5 (.slice none 0 0)).st 6 (.int .i64 0)).sel [0] 99 (by decide) (by decide)) ?_; intro w6 hK6
    clear x1 x2 x3
    obtain ⟨a1, a2, a3, -⟩ := hK6.cells
    refine bodyPost_ret (v := .tuple #[.agg #[.int .i64 0, .slice none 0 0, .int .i64 0, .slice none 0 0, .int .i64 0, .slice none 0 0, .int .i64 0], .string ⟨#[]⟩, .int .i64 2]) (by simp [results, Tryd.results27, go_sem, a1]) rfl ?_
    rw [HQ.out.1, HQ.out.2.1, HQ.out.2.2]
    exact M2Ret.zero hK6.below
  rw [hk] at KK
  replace H3 := H3 hk
  replace H4 := H4 hk
  have hk16 := betB_iff.1 hk
  have hnm := sname_len k
  obtain ⟨N, hN⟩ : ∃ N, sname k = N := ⟨_, rfl⟩
  obtain ⟨AC, hAC⟩ : ∃ N, anC (strB s) (strB (sname k)) = N := ⟨_, rfl⟩
  obtain ⟨AT, hAT⟩ : ∃ N, anT s (sname k) = N := ⟨_, rfl⟩
  have KN := (fun W => StrokeName_any k W hk16)
  have KT := Lib.hid (fun W (hW : Below w.heap.size w W) => stroke_any t A1 A2 A3 c1 c2 c3 k W (r1.below hW) (r2.below hW) (r3.below hW) hv hk16)
  rw [hAC, hAT] at KA
  rw [hAC] at H3 H4
  rw [hAT] at H4
  rw [hN] at KA KN
  clear hN hAC hAT
  obtain ⟨r, hr⟩ : ∃ r, strokeT k t = r := ⟨_, rfl⟩
  rw [hr] at KT H4
  replace KK := Lib.hid KK
  replace KA := Lib.hid KA
  replace KN := Lib.hid KN
  clear hr hk hk16 hv H2 r1 r2 r3 hs ht
  rcases hc0 : (AC == 0) with _ | _
  · have HCN := Lib.hid (show AC ≠ 0 by simpa using hc0)
    have HQ := Lib.hid (H3 HCN.out)
    have hc1 : (AC != 0) = true := by simpa using hc0
    clear H3 H4 KT
    go_enter Tryd.func27, Tryd.ntmps27
    go_wp2_with fail
    refine Calls.kn (((Kn.nil w).al [.int .i64 t.a.base, .slice A1 t.a.digits.length c1, .int .i64 t.b.base, .slice A2 t.b.digits.length c2, .int .i64 t.s.base, .slice A3 t.s.digits.length c3, .int .i64 t.carry] 37).al [.int .i64 0, .slice none 0 0, .int .i64 0, .slice none 0 0, .int .i64 0, .slice none 0 0, .int .i64 0] 37) ?_; intro w1 hK0
    simp only [World.size_alloc] at hK0
    refine (KV.out _ hK0.below).mono ?_; rintro e w2 ⟨rfl, hw⟩
    have hK1 := hK0.keep hw
    go_wp2_with fail
    refine (KW.out _ hK1.below).mono ?_; rintro e w3 ⟨v, rfl, (⟨h0, -⟩ | ⟨-, g, rfl, hJ⟩)⟩
    · exact absurd rfl h0
    have hK2 := hK1.keep hJ.below
    obtain ⟨x1, x2, x3⟩ := hK2.blkAt
    go_wp2_with (first
      | (go_at_call 96; with_reducible refine (KK.out _).mono ?_; rintro e w4 ⟨rfl, rfl⟩)
      | (go_at_call 61; with_reducible refine (KN.out _).mono ?_; rintro e w5 ⟨rfl, hw⟩; have hK4 := hK2.keep hw)
      | (go_at_call 97; refine (KA.out _ hK4.below).mono ?_; rintro e w6 ⟨rfl, hw6⟩; have hK5 := hK4.keep hw6; clear x1 x2 x3; obtain ⟨x1, x2, x3, x4, x5, x6, -⟩ := hK5.cells))
    refine bodyPost.kn ((((((((hK5.st 0 (.int .i64 0)).st 1 (.slice none 0 0)).st 2 (.int .i64 0)).st 3 (.slice none 0 0)).st 4 (.int .i64 0)).st 5 (.slice none 0 0)).st 6 (.int .i64 0)).sel [0] 99 (by decide) (by decide)) ?_; intro w6 hK6
    clear x1 x2 x3 x4 x5 x6
    obtain ⟨a1, a2, a3, -⟩ := hK6.cells
    refine bodyPost_ret (v := .tuple #[.agg #[.int .i64 0, .slice none 0 0, .int .i64 0, .slice none 0 0, .int .i64 0, .slice none 0 0, .int .i64 0], .string ⟨#[]⟩, .int .i64 AC]) (by simp [results, Tryd.results27, go_sem, a1]) rfl ?_
    rw [HQ.out.1, HQ.out.2.1, HQ.out.2.2]
    exact M2Ret.zero hK6.below
  obtain rfl : AC = 0 := by simpa using hc0
  have HQ := Lib.hid (H4 rfl)
  clear H3 H4 hc0
  go_enter Tryd.func27, Tryd.ntmps27
  go_wp2_with fail
  refine Calls.kn (((Kn.nil w).al [.int .i64 t.a.base, .slice A1 t.a.digits.length c1, .int .i64 t.b.base, .slice A2 t.b.digits.length c2, .int .i64 t.s.base, .slice A3 t.s.digits.length c3, .int .i64 t.carry] 37).al [.int .i64 0, .slice none 0 0, .int .i64 0, .slice none 0 0, .int .i64 0, .slice none 0 0, .int .i64 0] 37) ?_; intro w1 hK0
  simp only [World.size_alloc] at hK0
  refine (KV.out _ hK0.below).mono ?_; rintro e w2 ⟨rfl, hw⟩
  have hK1 := hK0.keep hw
  go_wp2_with fail
  refine (KW.out _ hK1.below).mono ?_; rintro e w3 ⟨v, rfl, (⟨h0, -⟩ | ⟨-, g, rfl, hJ⟩)⟩
  · exact absurd rfl h0
  have hK2 := hK1.keep hJ.below
  obtain ⟨x1, x2, x3, x4, x5, x6, -⟩ := hK2.cells
  go_wp2_with (first
      | (go_at_call 96; with_reducible refine (KK.out _).mono ?_; rintro e w4 ⟨rfl, rfl⟩)
      | (go_at_call 61; with_reducible refine (KN.out _).mono ?_; rintro e w5 ⟨rfl, hw⟩; have hK4 := hK2.keep hw)
      | (go_at_call 97; refine (KA.out _ hK4.below).mono ?_; rintro e w6 ⟨rfl, hw6⟩; have hK5 := hK4.keep hw6; clear x1 x2 x3 x4 x5 x6; obtain ⟨x1, x2, x3, x4, x5, x6, -⟩ := hK5.cells)
      | (go_at_call 89; refine (KT.out _ hK5.below).mono ?_; rintro e w7 ⟨E1, f1, E2, f2, E3, f3, rfl, hKn⟩; have hK7 := hK5.join hKn; clear x1 x2 x3 x4 x5 x6; obtain ⟨x1, x2, x3, x4, x5, x6, -⟩ := hK7.cells))
  refine bodyPost.kn (((((((((hK7.front 3 rfl).st 0 (.int .i64 r.1.a.base)).st 1 (.slice E1 r.1.a.digits.length f1)).st 2 (.int .i64 r.1.b.base)).st 3 (.slice E2 r.1.b.digits.length f2)).st 4 (.int .i64 r.1.s.base)).st 5 (.slice E3 r.1.s.digits.length f3)).st 6 (.int .i64 r.1.carry)).al_ _) ?_; intro w8 hK8
  clear x1 x2 x3 x4 x5 x6
  obtain ⟨a1, a2, a3, -⟩ := hK8.cells
  refine bodyPost_ret (v := .tuple #[.agg #[.int .i64 r.1.a.base, .slice E1 r.1.a.digits.length f1, .int .i64 r.1.b.base, .slice E2 r.1.b.digits.length f2, .int .i64 r.1.s.base, .slice E3 r.1.s.digits.length f3, .int .i64 r.1.carry], .string AT, .int .i64 0]) (by simp [results, Tryd.results27, go_sem, a1]) rfl ?_
  rw [HQ.out.1, HQ.out.2.1, HQ.out.2.2]
  exact ⟨E1, f1, E2, f2, E3, f3, rfl, hK8.sel [1, 2, 3] 99 (by decide) (by decide)⟩
set_option maxRecDepth 100000 in
set_option maxHeartbeats 3200000 in
theorem specRecordStroke_any (t : Tri) (A1 A2 A3 : Option Addr) (c1 c2 c3 : Nat) (s : ByteArray) (k : Int) (w : World) (r1 : RI w A1 t.a.digits.length t.a.digits) (r2 : RI w A2 t.b.digits.length t.b.digits) (r3 : RI w A3 t.s.digits.length t.s.digits) (hs : SmallTri t) (hz : s.size ≤ 9223372036854775807) :
    Calls Tryd.prog 26 #[.agg #[.int .i64 t.a.base, .slice A1 t.a.digits.length c1, .int .i64 t.b.base, .slice A2 t.b.digits.length c2, .int .i64 t.s.base, .slice A3 t.s.digits.length c3, .int .i64 t.carry], .string s, .int .i64 k] w (RKRet t s k w) := by
  have hTC : ∀ W, Kn w ([.blk (w.heap.size + 1) [.int .i64 0, .slice none 0 0, .int .i64 0, .slice none 0 0, .int .i64 0, .slice none 0 0, .int .i64 0] 37, .blk w.heap.size [.int .i64 t.a.base, .slice A1 t.a.digits.length c1, .int .i64 t.b.base, .slice A2 t.b.digits.length c2, .int .i64 t.s.base, .slice A3 t.s.digits.length c3, .int .i64 t.carry] 37]) W → TriC W ⟨w.heap.size, 0, none⟩ t A1 c1 A2 c2 A3 c3 := fun W h => ⟨⟨h.drop.blkAt.1 0, h.drop.blkAt.1 1, h.drop.blkAt.1 2, h.drop.blkAt.1 3, h.drop.blkAt.1 4, h.drop.blkAt.1 5, h.drop.blkAt.1 6⟩, r1.below h.below, r2.below h.below, r3.below h.below⟩
  have KV := (fun W (hW : Kn w ([.blk (w.heap.size + 1) [.int .i64 0, .slice none 0 0, .int .i64 0, .slice none 0 0, .int .i64 0, .slice none 0 0, .int .i64 0] 37, .blk w.heap.size [.int .i64 t.a.base, .slice A1 t.a.digits.length c1, .int .i64 t.b.base, .slice A2 t.b.digits.length c2, .int .i64 t.s.base, .slice A3 t.s.digits.length c3, .int .i64 t.carry] 37]) W) => l10Ok_any ⟨w.heap.size, 0, none⟩ t W (hTC W hW).tri hs)
  have KW := (fun W => l26Code_any s W hz)
  have KK := (fun W => l10Kind_any k W)
  have KA := (fun W => specAppendNote_any s (sname k) W hz (by have := sname_len k; omega))
  unfold RKRet
  rcases hv : vmach t with _ | _
  · rw [hv] at KV
    obtain ⟨e1, e2, e3⟩ := rk_bad (s := s) (k := k) hv
    rw [e1, e2, e3]
    replace KV := Lib.hid KV
    clear hv KW KK KA r1 r2 r3 hs hTC e1 e2 e3
    go_enter Tryd.func26, Tryd.ntmps26
    go_wp2_with fail
    refine Calls.kn (((Kn.nil w).al [.int .i64 t.a.base, .slice A1 t.a.digits.length c1, .int .i64 t.b.base, .slice A2 t.b.digits.length c2, .int .i64 t.s.base, .slice A3 t.s.digits.length c3, .int .i64 t.carry] 37).al [.int .i64 0, .slice none 0 0, .int .i64 0, .slice none 0 0, .int .i64 0, .slice none 0 0, .int .i64 0] 37) ?_; intro w1 hK0
    simp only [World.size_alloc] at hK0
    refine (KV.out _ hK0).mono ?_; rintro e w2 ⟨rfl, m, rfl⟩
    have hK1 := hK0.drewN m
    obtain ⟨x1, x2, x3⟩ := (hK1.front 0 rfl).blkAt
    go_wp2_with fail
    refine bodyPost.kn (((((((((hK1.front 0 rfl).st 0 (.int .i64 0)).st 1 (.slice none 0 0)).st 2 (.int .i64 0)).st 3 (.slice none 0 0)).st 4 (.int .i64 0)).st 5 (.slice none 0 0)).st 6 (.int .i64 0)).sel [0] 99 (by decide) (by decide)) ?_; intro w6 hK6
    clear x1 x2 x3
    obtain ⟨a1, a2, a3, -⟩ := hK6.cells
    refine bodyPost_ret (v := .tuple #[.agg #[.int .i64 0, .slice none 0 0, .int .i64 0, .slice none 0 0, .int .i64 0, .slice none 0 0, .int .i64 0], .string ⟨#[]⟩, .int .i64 1]) (by simp [results, Tryd.results26, go_sem, a1]) rfl ?_
    exact M2Ret.zero hK6.below
  rw [hv] at KV
  unfold WJS at KW
  have H1 := rk_code (s := s) (k := k) hv
  have H2 := rk_kind (s := s) (k := k) hv
  have H3 := rk_note (s := s) (k := k) hv
  have H4 := rk_fine (s := s) (k := k) hv
  obtain ⟨C, hC⟩ : ∃ C, jcode (strB s) = C := ⟨_, rfl⟩
  obtain ⟨RC, hRC⟩ : ∃ C, rkC t s k = C := ⟨_, rfl⟩
  obtain ⟨RM, hRM⟩ : ∃ C, rkM t s k = C := ⟨_, rfl⟩
  obtain ⟨RT, hRT⟩ : ∃ C, rkT t s k = C := ⟨_, rfl⟩
  rw [hC] at KW
  rw [hC, hRC, hRM, hRT] at H1 H2 H3 H4
  rw [hRC, hRM, hRT]
  clear hC hRC hRM hRT
  replace KW := Lib.hid KW
  replace KV := Lib.hid KV
  rcases hc0 : (C == 0) with _ | _
  · have HCN := Lib.hid (show C ≠ 0 by simpa using hc0)
    have HQ := Lib.hid (H1 HCN.out)
    have hc1 : (C != 0) = true := by simpa using hc0
    clear H1 H2 H3 H4 KK KA hv r1 r2 r3 hs hTC
    go_enter Tryd.func26, Tryd.ntmps26
    go_wp2_with fail
    refine Calls.kn (((Kn.nil w).al [.int .i64 t.a.base, .slice A1 t.a.digits.length c1, .int .i64 t.b.base, .slice A2 t.b.digits.length c2, .int .i64 t.s.base, .slice A3 t.s.digits.length c3, .int .i64 t.carry] 37).al [.int .i64 0, .slice none 0 0, .int .i64 0, .slice none 0 0, .int .i64 0, .slice none 0 0, .int .i64 0] 37) ?_; intro w1 hK0
    simp only [World.size_alloc] at hK0
    refine (KV.out _ hK0).mono ?_; rintro e w2 ⟨rfl, m, rfl⟩
    have hK1 := hK0.drewN m
    go_wp2_with fail
    refine (KW.out _).mono ?_; rintro e w3 ⟨v, rfl, (⟨-, ⟨g, rfl⟩, hw⟩ | ⟨h0, -⟩)⟩
    rotate_left
    · exact absurd h0 HCN.out
    have hK2 := hK1.keep (hw.mono (Nat.le_refl _))
    obtain ⟨x1, x2, x3⟩ := (hK2.front 0 rfl).blkAt
    go_wp2_with fail
    refine bodyPost.kn (((((((((hK2.front 0 rfl).st 0 (.int .i64 0)).st 1 (.slice none 0 0)).st 2 (.int .i64 0)).st 3 (.slice none 0 0)).st 4 (.int .i64 0)).st 5 (.slice none 0 0)).st 6 (.int .i64 0)).sel [0] 99 (by decide) (by decide)) ?_; intro w6 hK6
    clear x1 x2 x3
    obtain ⟨a1, a2, a3, -⟩ := hK6.cells
    refine bodyPost_ret (v := .tuple #[.agg #[.int .i64 0, .slice none 0 0, .int .i64 0, .slice none 0 0, .int .i64 0, .slice none 0 0, .int .i64 0], .string ⟨#[]⟩, .int .i64 C]) (by simp [results, Tryd.results26, go_sem, a1]) rfl ?_
    rw [HQ.out.1, HQ.out.2.1, HQ.out.2.2]
    exact M2Ret.zero hK6.below
  obtain rfl : C = 0 := by simpa using hc0
  replace H2 := H2 rfl
  replace H3 := H3 rfl
  replace H4 := H4 rfl
  clear H1 hc0
  rcases hk : betB k 1 6 with _ | _
  · rw [hk] at KK
    have HQ := Lib.hid (H2 hk)
    replace KK := Lib.hid KK
    clear H2 H3 H4 KA hv hk r1 r2 r3 hs hTC
    go_enter Tryd.func26, Tryd.ntmps26
    go_wp2_with fail
    refine Calls.kn (((Kn.nil w).al [.int .i64 t.a.base, .slice A1 t.a.digits.length c1, .int .i64 t.b.base, .slice A2 t.b.digits.length c2, .int .i64 t.s.base, .slice A3 t.s.digits.length c3, .int .i64 t.carry] 37).al [.int .i64 0, .slice none 0 0, .int .i64 0, .slice none 0 0, .int .i64 0, .slice none 0 0, .int .i64 0] 37) ?_; intro w1 hK0
    simp only [World.size_alloc] at hK0
    refine (KV.out _ hK0).mono ?_; rintro e w2 ⟨rfl, m, rfl⟩
    have hK1 := hK0.drewN m
    go_wp2_with fail
    refine (KW.out _).mono ?_; rintro e w3 ⟨v, rfl, (⟨h0, -⟩ | ⟨-, g, rfl, hJ⟩)⟩
    · exact absurd rfl h0
    have hK2 := hK1.keep hJ.below
    obtain ⟨x1, x2, x3⟩ := hK2.blkAt
    go_wp2_with (go_at_call 93; with_reducible refine (KK.out _).mono ?_; rintro e w4 ⟨rfl, rfl⟩)
    refine bodyPost.kn ((((((((hK2.st 0 (.int .i64 0)).st 1 (.slice none 0 0)).st 2 (.int .i64 0)).st 3 (.slice none 0 0)).st 4 (.int .i64 0)).st 5 (.slice none 0 0)).st 6 (.int .i64 0)).sel [0] 99 (by decide) (by decide)) ?_; intro w6 hK6
    clear x1 x2 x3
    obtain ⟨a1, a2, a3, -⟩ := hK6.cells
    refine bodyPost_ret (v := .tuple #[.agg #[.int .i64 0, .slice none 0 0, .int .i64 0, .slice none 0 0, .int .i64 0, .slice none 0 0, .int .i64 0], .string ⟨#[]⟩, .int .i64 2]) (by simp [results, Tryd.results26, go_sem, a1]) rfl ?_
    rw [HQ.out.1, HQ.out.2.1, HQ.out.2.2]
    exact M2Ret.zero hK6.below
  rw [hk] at KK
  replace H3 := H3 hk
  replace H4 := H4 hk
  have hk16 := betB_iff.1 hk
  have hnm := sname_len k
  obtain ⟨N, hN⟩ : ∃ N, sname k = N := ⟨_, rfl⟩
  obtain ⟨AC, hAC⟩ : ∃ N, anC (strB s) (strB (sname k)) = N := ⟨_, rfl⟩
  obtain ⟨AT, hAT⟩ : ∃ N, anT s (sname k) = N := ⟨_, rfl⟩
  have KN := (fun W => specStrokeName_any k W hk16)
  have KC := Lib.hid (fun W (hW : Kn w ([.blk (w.heap.size + 1) [.int .i64 0, .slice none 0 0, .int .i64 0, .slice none 0 0, .int .i64 0, .slice none 0 0, .int .i64 0] 37, .blk w.heap.size [.int .i64 t.a.base, .slice A1 t.a.digits.length c1, .int .i64 t.b.base, .slice A2 t.b.digits.length c2, .int .i64 t.s.base, .slice A3 t.s.digits.length c3, .int .i64 t.carry] 37]) W) => l10Own_any w.heap.size t A1 A2 A3 c1 c2 c3 W (hTC W hW) (sized_of hv))
  have KT := Lib.hid (fun (g9 : Nat) (m' : List Ent) W (h : MB w g9 [] 37 t m' W) => l10DoK t k W h hv hk16)
  rw [hAC, hAT] at KA
  rw [hAC] at H3 H4
  rw [hAT] at H4
  rw [hN] at KA KN
  clear hN hAC hAT
  obtain ⟨r, hr⟩ : ∃ r, strokeT k t = r := ⟨_, rfl⟩
  rw [hr] at KT H4
  replace KK := Lib.hid KK
  replace KA := Lib.hid KA
  replace KN := Lib.hid KN
  clear hr hk hk16 hv H2 r1 r2 r3 hs hTC
  rcases hc0 : (AC == 0) with _ | _
  · have HCN := Lib.hid (show AC ≠ 0 by simpa using hc0)
    have HQ := Lib.hid (H3 HCN.out)
    have hc1 : (AC != 0) = true := by simpa using hc0
    clear H3 H4 KT
    go_enter Tryd.func26, Tryd.ntmps26
    go_wp2_with fail
    refine Calls.kn (((Kn.nil w).al [.int .i64 t.a.base, .slice A1 t.a.digits.length c1, .int .i64 t.b.base, .slice A2 t.b.digits.length c2, .int .i64 t.s.base, .slice A3 t.s.digits.length c3, .int .i64 t.carry] 37).al [.int .i64 0, .slice none 0 0, .int .i64 0, .slice none 0 0, .int .i64 0, .slice none 0 0, .int .i64 0] 37) ?_; intro w1 hK0
    simp only [World.size_alloc] at hK0
    refine (KV.out _ hK0).mono ?_; rintro e w2 ⟨rfl, m, rfl⟩
    have hK1 := hK0.drewN m
    go_wp2_with fail
    refine (KW.out _).mono ?_; rintro e w3 ⟨v, rfl, (⟨h0, -⟩ | ⟨-, g, rfl, hJ⟩)⟩
    · exact absurd rfl h0
    have hK2 := hK1.keep hJ.below
    obtain ⟨x1, x2, x3⟩ := hK2.blkAt
    go_wp2_with (first
      | (go_at_call 93; with_reducible refine (KK.out _).mono ?_; rintro e w4 ⟨rfl, rfl⟩)
      | (go_at_call 95; with_reducible refine (KN.out _).mono ?_; rintro e w5 ⟨rfl, hw⟩; have hK4 := hK2.keep hw)
      | (go_at_call 94; refine (KA.out _).mono ?_; rintro e w6 ⟨rfl, hw6⟩; have hK5 := hK4.keep hw6; clear x1 x2 x3; obtain ⟨x1, x2, x3, x4, x5, x6, -⟩ := hK5.cells))
    refine bodyPost.kn ((((((((hK5.st 0 (.int .i64 0)).st 1 (.slice none 0 0)).st 2 (.int .i64 0)).st 3 (.slice none 0 0)).st 4 (.int .i64 0)).st 5 (.slice none 0 0)).st 6 (.int .i64 0)).sel [0] 99 (by decide) (by decide)) ?_; intro w6 hK6
    clear x1 x2 x3 x4 x5 x6
    obtain ⟨a1, a2, a3, -⟩ := hK6.cells
    refine bodyPost_ret (v := .tuple #[.agg #[.int .i64 0, .slice none 0 0, .int .i64 0, .slice none 0 0, .int .i64 0, .slice none 0 0, .int .i64 0], .string ⟨#[]⟩, .int .i64 AC]) (by simp [results, Tryd.results26, go_sem, a1]) rfl ?_
    rw [HQ.out.1, HQ.out.2.1, HQ.out.2.2]
    exact M2Ret.zero hK6.below
  obtain rfl : AC = 0 := by simpa using hc0
  have HQ := Lib.hid (H4 rfl)
  clear H3 H4 hc0
  go_enter Tryd.func26, Tryd.ntmps26
  go_wp2_with fail
  refine Calls.kn (((Kn.nil w).al [.int .i64 t.a.base, .slice A1 t.a.digits.length c1, .int .i64 t.b.base, .slice A2 t.b.digits.length c2, .int .i64 t.s.base, .slice A3 t.s.digits.length c3, .int .i64 t.carry] 37).al [.int .i64 0, .slice none 0 0, .int .i64 0, .slice none 0 0, .int .i64 0, .slice none 0 0, .int .i64 0] 37) ?_; intro w1 hK0
  simp only [World.size_alloc] at hK0
  refine (KV.out _ hK0).mono ?_; rintro e w2 ⟨rfl, m, rfl⟩
  have hK1 := hK0.drewN m
  go_wp2_with fail
  refine (KW.out _).mono ?_; rintro e w3 ⟨v, rfl, (⟨h0, -⟩ | ⟨-, g, rfl, hJ⟩)⟩
  · exact absurd rfl h0
  have hK2 := hK1.keep hJ.below
  obtain ⟨x1, x2, x3, x4, x5, x6, -⟩ := hK2.cells
  go_wp2_with (first
      | (go_at_call 93; with_reducible refine (KK.out _).mono ?_; rintro e w4 ⟨rfl, rfl⟩)
      | (go_at_call 95; with_reducible refine (KN.out _).mono ?_; rintro e w5 ⟨rfl, hw⟩; have hK4 := hK2.keep hw)
      | (go_at_call 94; refine (KA.out _).mono ?_; rintro e w6 ⟨rfl, hw6⟩; have hK5 := hK4.keep hw6; clear x1 x2 x3 x4 x5 x6; obtain ⟨x1, x2, x3, x4, x5, x6, -⟩ := hK5.cells)
      | (go_at_call 81; refine (KC.out _ hK5).mono ?_; rintro e w7 ⟨B1, d1, B2, d2, B3, d3, rfl, hKn⟩; have hK7 := (hK5.join hKn).al [.int .i64 t.a.base, .slice B1 t.a.digits.length d1, .int .i64 t.b.base, .slice B2 t.b.digits.length d2, .int .i64 t.s.base, .slice B3 t.s.digits.length d3, .int .i64 t.carry] 37; clear x1 x2 x3 x4 x5 x6; obtain ⟨x1, x2, x3, x4, x5, x6, -⟩ := (hK5.join hKn).cells)
      | (go_at_call 83; refine (KT.out _ _ _ ⟨B1, d1, B2, d2, B3, d3, hK7⟩).mono ?_; rintro e w9 ⟨rfl, E1, f1, E2, f2, E3, f3, hK9⟩; clear x1 x2 x3 x4 x5 x6; obtain ⟨x1, x2, x3, x4, x5, x6, -⟩ := hK9.cells))
  refine bodyPost.kn ((((((((hK9.front 4 rfl).st 0 (.int .i64 r.1.a.base)).st 1 (.slice E1 r.1.a.digits.length f1)).st 2 (.int .i64 r.1.b.base)).st 3 (.slice E2 r.1.b.digits.length f2)).st 4 (.int .i64 r.1.s.base)).st 5 (.slice E3 r.1.s.digits.length f3)).st 6 (.int .i64 r.1.carry)) ?_; intro w8 hK8
  clear x1 x2 x3 x4 x5 x6
  obtain ⟨a1, a2, a3, -⟩ := hK8.cells
  refine bodyPost_ret (v := .tuple #[.agg #[.int .i64 r.1.a.base, .slice E1 r.1.a.digits.length f1, .int .i64 r.1.b.base, .slice E2 r.1.b.digits.length f2, .int .i64 r.1.s.base, .slice E3 r.1.s.digits.length f3, .int .i64 r.1.carry], .string AT, .int .i64 0]) (by simp [results, Tryd.results26, go_sem, a1]) rfl ?_
  rw [HQ.out.1, HQ.out.2.1, HQ.out.2.2]
  exact ⟨E1, f1, E2, f2, E3, f3, rfl, hK8.sel [2, 3, 4] 99 (by decide) (by decide)⟩
end Go.Proofs.YtcapccadpbiecaaDoor

namespace Go.Proofs.YtcapccadpbiecaaDoor
open Go.RowKit Go.Sort
set_option maxHeartbeats 400000 in
theorem l00Same_any (A B : Option Addr) (n c m d : Nat) (ds es : List Int) (w : World) (hr : RI w A n ds) (hs : RI w B m es) (hm : n ≤ 9223372036854775807) (hm2 : m ≤ 9223372036854775807) :
    Calls Tryd.prog 187 #[.slice A n c, .slice B m d] w fun e w' => e = .returned (.bool (decide (ds = es))) ∧ ∃ q, w' = w.drewN q := by
  have HL := Lib.hid hr.1
  have HM := Lib.hid hs.1
  by_cases hnm : n = m
  · subst hnm
    go_enter Tryd.func187, Tryd.ntmps187
    go_wp2
    go_loopw [5] (fun i wr => ∃ k : Nat, k ≤ n ∧ i = .int .i64 k ∧ ds.take k = es.take k ∧ ∃ q, wr = w.drewN q) (fun i _ => n - (intOf i).toNat)
    case atStart => exact ⟨0, Nat.zero_le _, rfl, by simp, 0, rfl⟩
    case round =>
      obtain ⟨k, hk, rfl, hdg, q, rfl⟩ := hrel
      have HD := Lib.hid hdg; clear hdg
      by_cases hkn : k < n
      · obtain ⟨ad, hA, hlt, hkl, hc⟩ := hr.at_ hkn
        obtain ⟨ad2, hB, hlt2, hkl2, hc2⟩ := hs.at_ hkn
        subst hA; subst hB
        have hi0 : (0 : Int) ≤ (k : Int) := by omega
        have hi1 : (k : Int) < (n : Int) := by omega
        rcases hd : (ds[k] != es[k]) with _ | _
        · go_wp2
          go_quiet (fail)
          go_wp2
          have he : ds[k] = es[k] := by simpa using hd
          have HE := Lib.hid he; clear he
          go_roundw
          case rel => exact ⟨k + 1, by omega, by go_num, take_eq_of_succ HD.out hkl hkl2 HE.out, by first | exact ⟨_, rfl⟩ | exact ⟨_, World.drewN_drewN _ _ _⟩⟩
          case measure => simp [intOf]; omega
        · go_wp2
          go_quiet (fail)
          go_wp2
          go_ret
          refine ⟨ret_bool ?_, by first | exact ⟨_, rfl⟩ | exact ⟨_, World.drewN_drewN _ _ _⟩⟩
          have : ds ≠ es := by rintro rfl; simp at hd
          simp [this]
      · have HF : Hid (ds = es) := by
          have := HD.out
          rwa [List.take_of_length_le (by have := HL.out; omega), List.take_of_length_le (by have := HM.out; omega)] at this
        go_wp2
        go_ret
        exact ⟨ret_bool (by simp [HF.out]), q, rfl⟩
  · have HF : Hid (ds ≠ es) := by rintro rfl; exact hnm (hr.1.symm.trans hs.1)
    go_enter Tryd.func187, Tryd.ntmps187
    go_wp2
    go_ret
    exact ⟨ret_bool (by simp [HF.out]), 0, rfl⟩
def sameR (r s : Reg) : Bool := r.base == s.base && decide (r.digits = s.digits)
theorem l02Same_any (p q : Addr) (r s : Reg) (w : World) (hp : RegM w p r) (hq : RegM w q s) (hm : SmallReg r) (hm2 : SmallReg s) :
    Calls Tryd.prog 130 #[.pointer (some p), .pointer (some q)] w fun e w' => e = .returned (.bool (sameR r s)) ∧ ∃ m, w' = w.drewN m := by
  obtain ⟨A, c, ⟨ha, hb⟩, hr⟩ := hp
  obtain ⟨B, d, ⟨ha0, hb0⟩, hs⟩ := hq
  unfold SmallReg at hm hm2
  have K1 := Lib.hid (fun (m : Nat) => l00Same_any A B _ c _ d r.digits s.digits (w.drewN m) hr hs (by omega) (by omega))
  rcases k : (r.base == s.base) with _ | _
  · have HF : Hid (sameR r s = false) := by simp only [Hid, sameR]; rw [k]; rfl
    go_enter Tryd.func130, Tryd.ntmps130
    go_wp2_with fail
    go_quiet ((go_at_call 187; exact quiet_of_ex (K1.out _)))
    go_wp2
    go_ret
    exact ⟨ret_bool HF.out.symm, _, rfl⟩
  · have HF : Hid (sameR r s = decide (r.digits = s.digits)) := by simp only [Hid, sameR]; rw [k]; rfl
    go_enter Tryd.func130, Tryd.ntmps130
    go_wp2_with fail
    go_quiet ((go_at_call 187; exact quiet_of_ex (K1.out _)))
    go_wp2
    go_ret
    exact ⟨ret_bool HF.out.symm, _, rfl⟩
/-- the carry out of a digit with a kind of fault -/
def cstep (base t c kind : Int) : Int := if kind = 1 then 0 else if kind = 2 then 1 else if kind = 3 then (if t < base then 0 else 1) else if t + c < base then 0 else 1
end Go.Proofs.YtcapccadpbiecaaDoor

namespace Go.Proofs.YtcapccadpbiecaaDoor
open Go.RowKit Go.Sort
def sameM (t u : Tri) : Bool := sameR t.a u.a && sameR t.b u.b && sameR t.s u.s && (t.carry == u.carry)
set_option maxRecDepth 100000 in
set_option maxHeartbeats 1600000 in
theorem l10Same_any (p q : Addr) (t u : Tri) (w : World) (hT : TriM w p t) (hU : TriM w q u) (hs : SmallTri t) (hu : SmallTri u) :
    Calls Tryd.prog 107 #[.pointer (some p), .pointer (some q)] w fun e w' => e = .returned (.bool (sameM t u)) ∧ ∃ m, w' = w.drewN m := by
  have HM := Lib.hid (show sameM t u = (sameR t.a u.a && sameR t.b u.b && sameR t.s u.s && (t.carry == u.carry)) from rfl)
  have K1 := (fun (m : Nat) => l02Same_any p q t.a u.a (w.drewN m) hT.1 hU.1 hs.1 hu.1)
  have K2 := (fun (m : Nat) => l02Same_any ⟨p.block, p.off + 2, none⟩ ⟨q.block, q.off + 2, none⟩ t.b u.b (w.drewN m) hT.2.1 hU.2.1 hs.2.1 hu.2.1)
  have K3 := (fun (m : Nat) => l02Same_any ⟨p.block, p.off + 4, none⟩ ⟨q.block, q.off + 4, none⟩ t.s u.s (w.drewN m) hT.2.2.1 hU.2.2.1 hs.2.2 hu.2.2)
  have hc1 := hT.2.2.2
  have hc2 := hU.2.2.2
  obtain ⟨e1, h1⟩ : ∃ b, sameR t.a u.a = b := ⟨_, rfl⟩
  obtain ⟨e2, h2⟩ : ∃ b, sameR t.b u.b = b := ⟨_, rfl⟩
  obtain ⟨e3, h3⟩ : ∃ b, sameR t.s u.s = b := ⟨_, rfl⟩
  rw [h1] at K1 HM
  rw [h2] at K2 HM
  rw [h3] at K3 HM
  replace K1 := Lib.hid K1
  replace K2 := Lib.hid K2
  replace K3 := Lib.hid K3
  obtain ⟨R, hR⟩ : ∃ R, sameM t u = R := ⟨_, rfl⟩
  rw [hR] at HM ⊢
  clear h1 h2 h3 hT hU hs hu hR
  rcases e1 with _ | _
  · have HQ : Hid (R = false) := by simp only [Hid]; rw [HM.out]; rfl
    go_enter Tryd.func107, Tryd.ntmps107
    go_wp2_with fail
    go_quiet ((go_at_call 130; first | (with_reducible exact quiet_of_ex (K1.out _)) | (with_reducible exact quiet_add_ex (K1.out _)) | (with_reducible exact quiet_of_ex (K2.out _)) | (with_reducible exact quiet_add_ex (K2.out _)) | (with_reducible exact quiet_of_ex (K3.out _)) | (with_reducible exact quiet_add_ex (K3.out _))))
    go_wp2_with fail
    go_ret
    exact ⟨ret_bool HQ.out.symm, by first | exact ⟨_, rfl⟩ | exact ⟨_, World.drewN_drewN _ _ _⟩⟩
  rcases e2 with _ | _
  · have HQ : Hid (R = false) := by simp only [Hid]; rw [HM.out]; rfl
    go_enter Tryd.func107, Tryd.ntmps107
    go_wp2_with fail
    go_quiet ((go_at_call 130; first | (with_reducible exact quiet_of_ex (K1.out _)) | (with_reducible exact quiet_add_ex (K1.out _)) | (with_reducible exact quiet_of_ex (K2.out _)) | (with_reducible exact quiet_add_ex (K2.out _)) | (with_reducible exact quiet_of_ex (K3.out _)) | (with_reducible exact quiet_add_ex (K3.out _))))
    go_wp2_with fail
    go_ret
    exact ⟨ret_bool HQ.out.symm, by first | exact ⟨_, rfl⟩ | exact ⟨_, World.drewN_drewN _ _ _⟩⟩
  rcases e3 with _ | _
  · have HQ : Hid (R = false) := by simp only [Hid]; rw [HM.out]; rfl
    go_enter Tryd.func107, Tryd.ntmps107
    go_wp2_with fail
    go_quiet ((go_at_call 130; first | (with_reducible exact quiet_of_ex (K1.out _)) | (with_reducible exact quiet_add_ex (K1.out _)) | (with_reducible exact quiet_of_ex (K2.out _)) | (with_reducible exact quiet_add_ex (K2.out _)) | (with_reducible exact quiet_of_ex (K3.out _)) | (with_reducible exact quiet_add_ex (K3.out _))))
    go_wp2_with fail
    go_ret
    exact ⟨ret_bool HQ.out.symm, by first | exact ⟨_, rfl⟩ | exact ⟨_, World.drewN_drewN _ _ _⟩⟩
  · have HQ : Hid (R = (t.carry == u.carry)) := by simp only [Hid]; rw [HM.out]; simp
    go_enter Tryd.func107, Tryd.ntmps107
    go_wp2_with fail
    go_quiet ((go_at_call 130; first | (with_reducible exact quiet_of_ex (K1.out _)) | (with_reducible exact quiet_add_ex (K1.out _)) | (with_reducible exact quiet_of_ex (K2.out _)) | (with_reducible exact quiet_add_ex (K2.out _)) | (with_reducible exact quiet_of_ex (K3.out _)) | (with_reducible exact quiet_add_ex (K3.out _))))
    go_wp2_with fail
    go_ret
    exact ⟨ret_bool HQ.out.symm, by first | exact ⟨_, rfl⟩ | exact ⟨_, World.drewN_drewN _ _ _⟩⟩
end Go.Proofs.YtcapccadpbiecaaDoor

namespace Go.Proofs.YtcapccadpbiecaaDoor
open Go.RowKit Go.Sort
def sfC (bs : List (List UInt8)) : Int := if bs.length > 100 then 5 else 0
def sfA (bs : List (List UInt8)) : Int := if bs.length > 100 then 0 else (runS bs).2.1
def sfF (bs : List (List UInt8)) : Int := if bs.length > 100 then 0 else (runS bs).2.2
def SFRet (bs : List (List UInt8)) (w : World) (e : Ending) (w' : World) : Prop := e = .returned (.tuple #[.int .i64 (sfA bs), .int .i64 (sfF bs), .int .i64 (sfC bs)]) ∧ Below w.heap.size w w'
theorem sf_full {ss : List ByteArray} (h : ss.length > 100) : sfA (ss.map strB) = 0 ∧ sfF (ss.map strB) = 0 ∧ sfC (ss.map strB) = 5 := by
  have h' : (ss.map strB).length > 100 := by rw [List.length_map]; exact h
  exact ⟨if_pos h', if_pos h', if_pos h'⟩
theorem sf_run {ss : List ByteArray} (h : ¬ ss.length > 100) : sfA (ss.map strB) = (runS (ss.map strB)).2.1 ∧ sfF (ss.map strB) = (runS (ss.map strB)).2.2 ∧ sfC (ss.map strB) = 0 := by
  have h' : ¬ (ss.map strB).length > 100 := by rw [List.length_map]; exact h
  exact ⟨if_neg h', if_neg h', if_neg h'⟩
def ssL (bs : List (List UInt8)) : List Int := if wholeC bs = 0 then (runS bs).1.str else []
theorem ssL_len (bs : List (List UInt8)) : (ssL bs).length ≤ 100 := by
  unfold ssL
  split
  · rename_i h
    obtain ⟨h1, h2⟩ := wholeC_ok h
    exact Nat.le_trans (runS_good h2).str h1
  · simp
def ssRet (bs : List (List UInt8)) (w : World) (e : Ending) (w' : World) : Prop := ∃ X x, e = .returned (.tuple #[.slice X (ssL bs).length x, .int .i64 (wholeC bs)]) ∧ Kn w [rowI X x (ssL bs)] w'
def blL (bs : List (List UInt8)) : List Int := if wholeC bs = 0 then (runS bs).1.bel else []
theorem blL_len (bs : List (List UInt8)) : (blL bs).length ≤ 100 := by
  unfold blL
  split
  · rename_i h
    obtain ⟨h1, h2⟩ := wholeC_ok h
    exact Nat.le_trans (runS_good h2).bel h1
  · simp
def blRet (bs : List (List UInt8)) (w : World) (e : Ending) (w' : World) : Prop := ∃ X x, e = .returned (.tuple #[.slice X (blL bs).length x, .int .i64 (wholeC bs)]) ∧ Kn w [rowI X x (blL bs)] w'
end Go.Proofs.YtcapccadpbiecaaDoor

namespace Go.Proofs.YtcapccadpbiecaaDoor
open Go.RowKit Go.Sort
def saB (a b : List (List UInt8)) : Bool := decide (wholeC a = 0) && decide (wholeC b = 0) && sameM (runS a).1.start (runS b).1.start && sameM (runS a).1.m (runS b).1.m
theorem small_of {t : Tri} (h : vmach t = true) : SmallTri t := by
  have hz := sized_of h
  exact ⟨by have := hz.a; unfold SmallReg; omega, by have := hz.b; unfold SmallReg; omega, by have := hz.s; unfold SmallReg; omega⟩
/-- the cells of two sessions -/
theorem two_cells {w0 w : World} {m1 m2 : List Ent} {x y : SS} {g h : Nat} {T1 T2 : TypeId} {U1 U2 U3 V1 V2 V3 A1 A2 A3 B1 B2 B3 SA BA SB BB : Option Addr} {u1 u2 u3 v1 v2 v3 c1 c2 c3 d1 d2 d3 sc bc sd bd : Nat}
    (h1 : Kn w0 (.blk g [.int .i64 x.start.a.base, .slice U1 x.start.a.digits.length u1, .int .i64 x.start.b.base, .slice U2 x.start.b.digits.length u2, .int .i64 x.start.s.base, .slice U3 x.start.s.digits.length u3, .int .i64 x.start.carry, .int .i64 x.m.a.base, .slice A1 x.m.a.digits.length c1, .int .i64 x.m.b.base, .slice A2 x.m.b.digits.length c2, .int .i64 x.m.s.base, .slice A3 x.m.s.digits.length c3, .int .i64 x.m.carry, .slice SA x.str.length sc, .slice BA x.bel.length bc, .bool x.ended] T1 :: m1) w) (h2 : Kn w0 (.blk h [.int .i64 y.start.a.base, .slice V1 y.start.a.digits.length v1, .int .i64 y.start.b.base, .slice V2 y.start.b.digits.length v2, .int .i64 y.start.s.base, .slice V3 y.start.s.digits.length v3, .int .i64 y.start.carry, .int .i64 y.m.a.base, .slice B1 y.m.a.digits.length d1, .int .i64 y.m.b.base, .slice B2 y.m.b.digits.length d2, .int .i64 y.m.s.base, .slice B3 y.m.s.digits.length d3, .int .i64 y.m.carry, .slice SB y.str.length sd, .slice BB y.bel.length bd, .bool y.ended] T2 :: m2) w) : (fun W => (W.cell? ⟨g, 0, none⟩ = some (.int .i64 x.start.a.base) ∧ W.cell? ⟨g, 1, none⟩ = some (.slice U1 x.start.a.digits.length u1) ∧ W.cell? ⟨g, 2, none⟩ = some (.int .i64 x.start.b.base) ∧ W.cell? ⟨g, 3, none⟩ = some (.slice U2 x.start.b.digits.length u2) ∧ W.cell? ⟨g, 4, none⟩ = some (.int .i64 x.start.s.base) ∧ W.cell? ⟨g, 5, none⟩ = some (.slice U3 x.start.s.digits.length u3) ∧ W.cell? ⟨g, 6, none⟩ = some (.int .i64 x.start.carry)) ∧ (W.cell? ⟨h, 0, none⟩ = some (.int .i64 y.start.a.base) ∧ W.cell? ⟨h, 1, none⟩ = some (.slice V1 y.start.a.digits.length v1) ∧ W.cell? ⟨h, 2, none⟩ = some (.int .i64 y.start.b.base) ∧ W.cell? ⟨h, 3, none⟩ = some (.slice V2 y.start.b.digits.length v2) ∧ W.cell? ⟨h, 4, none⟩ = some (.int .i64 y.start.s.base) ∧ W.cell? ⟨h, 5, none⟩ = some (.slice V3 y.start.s.digits.length v3) ∧ W.cell? ⟨h, 6, none⟩ = some (.int .i64 y.start.carry)) ∧ (W.cell? ⟨g, 7, none⟩ = some (.int .i64 x.m.a.base) ∧ W.cell? ⟨g, 8, none⟩ = some (.slice A1 x.m.a.digits.length c1) ∧ W.cell? ⟨g, 9, none⟩ = some (.int .i64 x.m.b.base) ∧ W.cell? ⟨g, 10, none⟩ = some (.slice A2 x.m.b.digits.length c2) ∧ W.cell? ⟨g, 11, none⟩ = some (.int .i64 x.m.s.base) ∧ W.cell? ⟨g, 12, none⟩ = some (.slice A3 x.m.s.digits.length c3) ∧ W.cell? ⟨g, 13, none⟩ = some (.int .i64 x.m.carry)) ∧ (W.cell? ⟨h, 7, none⟩ = some (.int .i64 y.m.a.base) ∧ W.cell? ⟨h, 8, none⟩ = some (.slice B1 y.m.a.digits.length d1) ∧ W.cell? ⟨h, 9, none⟩ = some (.int .i64 y.m.b.base) ∧ W.cell? ⟨h, 10, none⟩ = some (.slice B2 y.m.b.digits.length d2) ∧ W.cell? ⟨h, 11, none⟩ = some (.int .i64 y.m.s.base) ∧ W.cell? ⟨h, 12, none⟩ = some (.slice B3 y.m.s.digits.length d3) ∧ W.cell? ⟨h, 13, none⟩ = some (.int .i64 y.m.carry))) w :=
  ⟨⟨h1.blkAt.1 0, h1.blkAt.1 1, h1.blkAt.1 2, h1.blkAt.1 3, h1.blkAt.1 4, h1.blkAt.1 5, h1.blkAt.1 6⟩, ⟨h2.blkAt.1 0, h2.blkAt.1 1, h2.blkAt.1 2, h2.blkAt.1 3, h2.blkAt.1 4, h2.blkAt.1 5, h2.blkAt.1 6⟩, ⟨h1.blkAt.1 7, h1.blkAt.1 8, h1.blkAt.1 9, h1.blkAt.1 10, h1.blkAt.1 11, h1.blkAt.1 12, h1.blkAt.1 13⟩, ⟨h2.blkAt.1 7, h2.blkAt.1 8, h2.blkAt.1 9, h2.blkAt.1 10, h2.blkAt.1 11, h2.blkAt.1 12, h2.blkAt.1 13⟩⟩
end Go.Proofs.YtcapccadpbiecaaDoor

/- rows of instructions -/
namespace Go.Proofs.YtcapccadpbiecaaDoor
open Go.RowKit Go.Sort
def cellsIns (xs : List Ins) : List Value := xs.flatMap fun x => [.int .i64 x.op, .int .i64 x.arg]
theorem cellsIns_len (xs : List Ins) : (cellsIns xs).length = xs.length * 2 := by
  induction xs with
  | nil => rfl
  | cons x xs ih => unfold cellsIns at *; rw [List.flatMap_cons, List.length_append, ih]; simp; omega
theorem cellsIns_snoc (xs : List Ins) (x : Ins) : cellsIns (xs ++ [x]) = cellsIns xs ++ [.int .i64 x.op, .int .i64 x.arg] := by simp [cellsIns]
theorem cellsIns_get : ∀ (xs : List Ins) (k : Nat) (h : k < xs.length), (cellsIns xs)[k * 2]? = some (.int .i64 xs[k].op) ∧ (cellsIns xs)[k * 2 + 1]? = some (.int .i64 xs[k].arg)
  | [], k, h => by simp at h
  | x :: xs, 0, h => by simp [cellsIns]
  | x :: xs, k + 1, h => by
    have h1 := cellsIns_get xs k (by simpa using h)
    have h2 : cellsIns (x :: xs) = .int .i64 x.op :: .int .i64 x.arg :: cellsIns xs := by simp [cellsIns]
    rw [h2, show (k + 1) * 2 = k * 2 + 1 + 1 by omega]
    simp only [List.getElem?_cons_succ, List.getElem_cons_succ]
    exact h1
theorem cellsIns_one (xs : List Ins) : ∀ u ∈ cellsIns xs, u.oneCell' = true := by
  intro u hu
  obtain ⟨x, -, h⟩ := List.mem_flatMap.1 hu
  simp at h
  rcases h with rfl | rfl <;> rfl
end Go.Proofs.YtcapccadpbiecaaDoor

namespace Go.Proofs.YtcapccadpbiecaaDoor
open Go.RowKit Go.Sort
def lftT (left : Int) (t : Tri) : Int := lft3 left t.a.digits.length t.b.digits.length t.s.digits.length
def lftS : Int → List Tri → Int
  | left, [] => left
  | left, t :: ts => if lftT left t < 0 then -1 else lftS (lftT left t) ts
def szS (left : Int) (ts : List Tri) : Int := if left - ts.length < 0 then -1 else lftS (left - ts.length) ts
theorem lftT_bd (left : Int) (t : Tri) (h : -1 ≤ left) : -1 ≤ lftT left t ∧ lftT left t ≤ left := by
  unfold lftT lft3
  have b1 := lft_bd left t.a.digits.length h (by omega)
  have b2 := lft_bd _ t.b.digits.length b1.1 (by omega)
  have b3 := lft_bd _ t.s.digits.length b2.1 (by omega)
  split
  · omega
  · split <;> omega
theorem lftT_small {left : Int} {t : Tri} (hl : left ≤ 1048576) (h0 : -1 ≤ left) (h : ¬ lftT left t < 0) : t.a.digits.length ≤ 1048576 ∧ t.b.digits.length ≤ 1048576 ∧ t.s.digits.length ≤ 1048576 := by
  unfold lftT lft3 at h
  split at h
  · omega
  · rename_i k1
    split at h
    · omega
    · rename_i k2
      have b1 := lft_bd left t.a.digits.length h0 (by omega)
      have b2 := lft_bd _ t.b.digits.length b1.1 (by omega)
      unfold lft at h k1 k2 b1 b2
      refine ⟨?_, ?_, ?_⟩
      · split at k1 <;> omega
      · split at k2 <;> split at k2 <;> omega
      · split at h <;> split at h <;> split at h <;> omega
theorem lftS_small : ∀ (ts : List Tri) (left : Int), 0 ≤ left → left ≤ 1048576 → ¬ lftS left ts < 0 → ∀ t ∈ ts, t.a.digits.length ≤ 1048576 ∧ t.b.digits.length ≤ 1048576 ∧ t.s.digits.length ≤ 1048576
  | [], _, _, _, _ => fun t h => by cases h
  | t :: ts, left, h0, hl, h => by
    unfold lftS at h
    split at h
    · omega
    · rename_i k1
      have hb := lftT_bd left t (by omega)
      intro u hu
      rcases List.mem_cons.1 hu with rfl | hu
      · exact lftT_small hl (by omega) k1
      · exact lftS_small ts (lftT left t) (by omega) (by omega) h u hu
theorem szS_small {ts : List Tri} (h : ¬ szS 1048576 ts < 0) : ts.length ≤ 1048576 ∧ ∀ t ∈ ts, t.a.digits.length ≤ 1048576 ∧ t.b.digits.length ≤ 1048576 ∧ t.s.digits.length ≤ 1048576 := by
  unfold szS at h
  split at h
  · omega
  · exact ⟨by omega, lftS_small ts _ (by omega) (by omega) h⟩
theorem smallTri_of {t : Tri} (h : t.a.digits.length ≤ 1048576 ∧ t.b.digits.length ≤ 1048576 ∧ t.s.digits.length ≤ 1048576) : SmallTri t := by
  unfold SmallTri SmallReg; omega
end Go.Proofs.YtcapccadpbiecaaDoor

namespace Go.Proofs.YtcapccadpbiecaaDoor
open Go.RowKit Go.Sort
theorem ownI_ri {w : World} {base n c : Nat} {A : Option Addr} {ds : List Int} (h : OwnI w base (.slice A n c) ds) : RI w A n ds := by
  obtain ⟨A', c', h1, h2, -⟩ := h.reads
  injection h1 with h1 h3 h4
  rw [h1, h3]; exact h2
theorem row_below {w w' : World} {base : Nat} {e : TypeId} {size : Nat} {v : Value} {n : Nat} {xs : List Value} (h : w.ownsRow base e size v n xs) (hb : Below w.heap.size w w') : w'.ownsRow base e size v n xs := by
  refine ⟨h.1, ?_⟩
  rcases h.2 with hn | ⟨g, cap, cur, rfl, hbg, hg, rest⟩
  · exact .inl hn
  · exact .inr ⟨g, cap, cur, rfl, hbg, by rw [hb.block g (Array.getElem?_eq_some_iff.1 hg).1]; exact hg, rest⟩
/-- trial i in the cells xs of an own row, its digits in own rows from block b on -/
def TriX (w : World) (b : Nat) (xs : List Value) (i : Nat) (t : Tri) : Prop := ∃ X1 x1 X2 x2 X3 x3, (xs[i * 7]? = some (.int .i64 t.a.base) ∧ xs[i * 7 + 1]? = some (.slice X1 t.a.digits.length x1) ∧ xs[i * 7 + 2]? = some (.int .i64 t.b.base) ∧ xs[i * 7 + 3]? = some (.slice X2 t.b.digits.length x2) ∧
    xs[i * 7 + 4]? = some (.int .i64 t.s.base) ∧ xs[i * 7 + 5]? = some (.slice X3 t.s.digits.length x3) ∧ xs[i * 7 + 6]? = some (.int .i64 t.carry)) ∧ OwnI w b (.slice X1 t.a.digits.length x1) t.a.digits ∧ OwnI w b (.slice X2 t.b.digits.length x2) t.b.digits ∧ OwnI w b (.slice X3 t.s.digits.length x3) t.s.digits
theorem TriX.below {w w' : World} {b : Nat} {xs : List Value} {i : Nat} {t : Tri} (h : TriX w b xs i t) (hb : Below w.heap.size w w') : TriX w' b xs i t := by
  obtain ⟨X1, x1, X2, x2, X3, x3, h1, h2, h3, h4⟩ := h
  exact ⟨X1, x1, X2, x2, X3, x3, h1, h2.below hb, h3.below hb, h4.below hb⟩
theorem TriX.setBelow {w : World} {b : Nat} {xs : List Value} {i : Nat} {t : Tri} (h : TriX w b xs i t) {a : Addr} (ha : a.block < b) (u : Value) : TriX (w.setCell a u) b xs i t := by
  obtain ⟨X1, x1, X2, x2, X3, x3, h1, h2, h3, h4⟩ := h
  exact ⟨X1, x1, X2, x2, X3, x3, h1, h2.setBelow ha u, h3.setBelow ha u, h4.setBelow ha u⟩
theorem row7 {w : World} {g n k : Nat} {T : TypeId} {xs : List Value} (h : w.ownsRow g T 7 (.slice (some ⟨g, 0, none⟩) n n) n xs) (hk : k < n) :
    (∃ u, w.cell? ⟨g, k * 7, none⟩ = some u) ∧ (∃ u, w.cell? ⟨g, k * 7 + 1, none⟩ = some u) ∧ (∃ u, w.cell? ⟨g, k * 7 + 2, none⟩ = some u) ∧ (∃ u, w.cell? ⟨g, k * 7 + 3, none⟩ = some u) ∧ (∃ u, w.cell? ⟨g, k * 7 + 4, none⟩ = some u) ∧ (∃ u, w.cell? ⟨g, k * 7 + 5, none⟩ = some u) ∧ (∃ u, w.cell? ⟨g, k * 7 + 6, none⟩ = some u) := by
  have hl := h.1
  have H : ∀ j, j < n * 7 → ∃ u, w.cell? ⟨g, j, none⟩ = some u := fun j hj => ⟨xs[j]'(by omega), (h.cellAt j (by omega)).trans (List.getElem?_eq_getElem (by omega))⟩
  exact ⟨H _ (by omega), H _ (by omega), H _ (by omega), H _ (by omega), H _ (by omega), H _ (by omega), H _ (by omega)⟩
def set7 (xs : List Value) (o : Nat) (v0 v1 v2 v3 v4 v5 v6 : Value) : List Value := ((((((xs.set o v0).set (o + 1) v1).set (o + 2) v2).set (o + 3) v3).set (o + 4) v4).set (o + 5) v5).set (o + 6) v6
theorem set7_ne {xs : List Value} {o i : Nat} {v0 v1 v2 v3 v4 v5 v6 : Value} (h : i < o) : (set7 xs o v0 v1 v2 v3 v4 v5 v6)[i]? = xs[i]? := by
  unfold set7
  rw [List.getElem?_set_ne (by omega), List.getElem?_set_ne (by omega), List.getElem?_set_ne (by omega), List.getElem?_set_ne (by omega), List.getElem?_set_ne (by omega), List.getElem?_set_ne (by omega), List.getElem?_set_ne (by omega)]
theorem set7_at {xs : List Value} {o : Nat} {v0 v1 v2 v3 v4 v5 v6 : Value} (h : o + 6 < xs.length) : (set7 xs o v0 v1 v2 v3 v4 v5 v6)[o]? = some v0 ∧ (set7 xs o v0 v1 v2 v3 v4 v5 v6)[o + 1]? = some v1 ∧ (set7 xs o v0 v1 v2 v3 v4 v5 v6)[o + 2]? = some v2 ∧ (set7 xs o v0 v1 v2 v3 v4 v5 v6)[o + 3]? = some v3 ∧
    (set7 xs o v0 v1 v2 v3 v4 v5 v6)[o + 4]? = some v4 ∧ (set7 xs o v0 v1 v2 v3 v4 v5 v6)[o + 5]? = some v5 ∧ (set7 xs o v0 v1 v2 v3 v4 v5 v6)[o + 6]? = some v6 := by
  unfold set7
  refine ⟨?_, ?_, ?_, ?_, ?_, ?_, ?_⟩ <;>
    (repeat rw [List.getElem?_set_ne (by omega)]) <;> rw [List.getElem?_set_self (by first | omega | (simp only [List.length_set]; omega))]
theorem stored7 {w : World} {g n : Nat} {T : TypeId} {xs : List Value} (h : w.ownsRow g T 7 (.slice (some ⟨g, 0, none⟩) n n) n xs) (o : Nat) (v0 v1 v2 v3 v4 v5 v6 : Value) :
    (((((((w.setCell ⟨g, o, none⟩ v0).setCell ⟨g, o + 1, none⟩ v1).setCell ⟨g, o + 2, none⟩ v2).setCell ⟨g, o + 3, none⟩ v3).setCell ⟨g, o + 4, none⟩ v4).setCell ⟨g, o + 5, none⟩ v5).setCell ⟨g, o + 6, none⟩ v6).ownsRow g T 7 (.slice (some ⟨g, 0, none⟩) n n) n (set7 xs o v0 v1 v2 v3 v4 v5 v6) :=
  ((((((((h.stored o v0).1.stored (o + 1) v1).1.stored (o + 2) v2).1.stored (o + 3) v3).1.stored (o + 4) v4).1.stored (o + 5) v5).1.stored (o + 6) v6)).1
end Go.Proofs.YtcapccadpbiecaaDoor

namespace Go.Proofs.YtcapccadpbiecaaDoor
open Go.RowKit Go.Sort
/-- numbers were stored into blocks of P -/
inductive Marks (P : Nat → Prop) : World → World → Prop
  | refl (w : World) : Marks P w w
  | step {w w' : World} {b : Nat} (h : Marks P w w') (hb : P b) (j : Nat) (u : Int) : Marks P w (w'.setCell ⟨b, j, none⟩ (.int .i64 u))
theorem Marks.trans {P : Nat → Prop} {a b c : World} (h1 : Marks P a b) (h2 : Marks P b c) : Marks P a c := by
  induction h2 with
  | refl => exact h1
  | step _ hb j u ih => exact ih.step hb j u
theorem Marks.weaken {P Q : Nat → Prop} {a b : World} (h : Marks P a b) (hq : ∀ k, P k → Q k) : Marks Q a b := by
  induction h with
  | refl => exact .refl _
  | step _ hb j u ih => exact ih.step (hq _ hb) j u
theorem Marks.under {P : Nat → Prop} {B : Nat} {a w w' : World} (h : Marks P w w') (hb : Below B a w) (hP : ∀ k, P k → B ≤ k) : Below B a w' := by
  induction h with
  | refl => exact hb
  | step _ hk j u ih => exact ih.setCell (hP _ hk) _
theorem Marks.size {P : Nat → Prop} {w w' : World} (h : Marks P w w') : w'.heap.size = w.heap.size := by
  induction h with
  | refl => rfl
  | step _ hk j u ih => rw [← ih]; simp [World.setCell]
theorem Marks.block {P : Nat → Prop} {w w' : World} (h : Marks P w w') {k : Nat} (hk : ¬ P k) : w'.heap[k]? = w.heap[k]? := by
  induction h with
  | refl => rfl
  | step _ hb j u ih => rw [← ih]; exact heap_setCell_other _ _ k _ (fun e => hk (by rw [e]; exact hb))
theorem map_set_int (ds : List Int) (j : Nat) (u : Int) : (ds.map (Value.int .i64)).set j (.int .i64 u) = (ds.set j u).map (Value.int .i64) := by
  rw [List.map_set]
theorem OwnI.setAny {w : World} {base : Nat} {v : Value} {ds : List Int} (h : OwnI w base v ds) (b j : Nat) (u : Int) : ∃ ds', ds'.length = ds.length ∧ OwnI (w.setCell ⟨b, j, none⟩ (.int .i64 u)) base v ds' := by
  have h' := h
  rcases h.2 with ⟨rfl, hn⟩ | ⟨g, cap, cur, rfl, hb, hg, rest⟩
  · exact ⟨ds, rfl, by simp [hn], .inl ⟨rfl, hn⟩⟩
  · by_cases hgb : g = b
    · subst hgb
      refine ⟨ds.set j u, by simp, ?_⟩
      have hs := (World.ownsRow.stored h j (.int .i64 u)).1
      rw [map_set_int] at hs
      unfold OwnI
      rw [List.length_set]
      exact hs
    · refine ⟨ds, rfl, h.1, .inr ⟨g, cap, cur, rfl, hb, ?_, rest⟩⟩
      rw [heap_setCell_other _ _ _ _ (by simpa using hgb)]
      exact hg
theorem Marks.ownI {P : Nat → Prop} {w w' : World} (h : Marks P w w') {base : Nat} {v : Value} {ds : List Int} (ho : OwnI w base v ds) : ∃ ds', ds'.length = ds.length ∧ OwnI w' base v ds' := by
  induction h with
  | refl => exact ⟨ds, rfl, ho⟩
  | step _ hb j u ih =>
    obtain ⟨d1, l1, o1⟩ := ih
    obtain ⟨d2, l2, o2⟩ := o1.setAny _ j u
    exact ⟨d2, l2.trans l1, o2⟩
/-- k, k + 1, .. -/
def upto (k : Int) (n : Nat) : List Int := (List.range n).map (fun (i : Nat) => k + (i : Int))
theorem upto_len (k : Int) (n : Nat) : (upto k n).length = n := by simp [upto]
theorem upto_get (k : Int) {n i : Nat} (h : i < n) : (upto k n)[i]? = some (k + i) := by simp [upto, h]
/-- the first j are marked -/
def marked (k : Int) (ds : List Int) (j : Nat) : List Int := upto k j ++ ds.drop j
theorem marked_len (k : Int) (ds : List Int) {j : Nat} (h : j ≤ ds.length) : (marked k ds j).length = ds.length := by simp [marked, upto_len]; omega
theorem marked_set (k : Int) (ds : List Int) {j : Nat} (h : j < ds.length) : (marked k ds j).set j (k + j) = marked k ds (j + 1) := by
  unfold marked
  rw [List.set_append_right _ _ (by rw [upto_len]; exact Nat.le_refl _), upto_len, Nat.sub_self, List.drop_eq_getElem_cons h, List.set_cons_zero]
  simp [upto, List.range_succ]
set_option maxHeartbeats 800000 in
theorem markInt64S_any (base : Nat) (A : Option Addr) (n c : Nat) (ds : List Int) (k : Int) (w : World) (ho : OwnI w base (.slice A n c) ds) (hl : ds.length = n) (h0 : 0 ≤ k) (hk : k + n ≤ 4611686018427387904) :
    Calls Tryd.prog 167 #[.slice A n c, .int .i64 k] w fun e w' => e = .returned (.int .i64 (k + n)) ∧ Marks (fun b => (Value.slice A n c).ownBlock = some b) w w' ∧ OwnI w' base (.slice A n c) (upto k n) := by
  have HL := Lib.hid hl
  rcases ho.2 with ⟨hv, hn⟩ | ⟨g, cap, cur, hv, hb, hg, rest⟩
  · injection hv with e1 e2 e3
    subst e1; subst e3
    have hn0 : n = 0 := by rw [← hl]; exact hn
    subst hn0
    go_enter Tryd.func167, Tryd.ntmps167
    go_wp2
    go_loopw [5, 1] (fun i kk wr => i = .int .i64 0 ∧ kk = .int .i64 k ∧ w = wr) (fun _ _ _ => 0)
    case atStart => exact ⟨rfl, rfl, rfl⟩
    case round =>
      obtain ⟨rfl, rfl, rfl⟩ := hrel
      have HN := Lib.hid (List.eq_nil_of_length_eq_zero HL.out)
      have HO := Lib.hid ho
      clear ho hl
      go_wp2
      go_ret
      exact ⟨ret_int (by simp), .refl _, by have h := HO.out; rw [HN.out] at h; simpa [upto] using h⟩
  · injection hv with e1 e2 e3
    subst e1; subst e3
    clear hg rest
    have hz : (marked k ds 0) = ds := by simp [marked, upto]
    have HO := Lib.hid ho
    have HZ := Lib.hid hz
    clear hz hl ho
    go_enter Tryd.func167, Tryd.ntmps167
    go_wp2
    go_loopw [5, 1] (fun i kk wr => ∃ j : Nat, j ≤ n ∧ i = .int .i64 j ∧ kk = .int .i64 (k + j) ∧ OwnI wr base (.slice (some ⟨g, 0, none⟩) n c) (marked k ds j) ∧ Marks (fun b => (some g : Option Nat) = some b) w wr) (fun i _ _ => n - (intOf i).toNat)
    case atStart => exact ⟨0, Nat.zero_le _, rfl, by simp, by rw [HZ.out]; exact HO.out, .refl _⟩
    case round =>
      obtain ⟨j, hj, rfl, rfl, hown, hmk⟩ := hrel
      by_cases hjn : j < n
      · have hlen := marked_len k ds (j := j) (by have := HL.out; omega)
        have hi0 : (0 : Int) ≤ (j : Int) := by omega
        have hi1 : (j : Int) < (n : Int) := by omega
        unfold OwnI at hown
        rw [hlen, HL.out] at hown
        obtain ⟨u, hu⟩ : ∃ u, ((marked k ds j).map (Value.int .i64))[j]? = some u := ⟨_, List.getElem?_eq_getElem (by rw [List.length_map]; have := HL.out; omega)⟩
        have hcell := (World.ownsRow.cellAt hown j (by have := HL.out; omega)).trans hu
        clear hu
        have hfz := World.ownsRow.frozenAt hown j
        have hst := (World.ownsRow.stored hown j (.int .i64 (k + j))).1
        rw [map_set_int, marked_set k ds (by have := HL.out; omega)] at hst
        have hst2 : OwnI (wr.setCell ⟨g, j, none⟩ (.int .i64 (k + j))) base (.slice (some ⟨g, 0, none⟩) n c) (marked k ds (j + 1)) := by
          unfold OwnI
          rw [marked_len k ds (by have := HL.out; omega), HL.out]
          exact hst
        have HST := Lib.hid hst2
        have HMK := Lib.hid hmk
        clear hst hst2 hown hmk hlen
        go_wp2
        go_roundw
        case rel => exact ⟨j + 1, by omega, by go_num, by go_num, HST.out, HMK.out.step rfl j (k + j)⟩
        case measure => simp [intOf]; omega
      · have HJ : Hid (j = n) := by simp only [Hid]; omega
        have HM : Hid (marked k ds j = upto k n) := by
          simp only [Hid]
          rw [HJ.out]
          simp [marked, List.drop_eq_nil_of_le (Nat.le_of_eq HL.out)]
        have HOWN := Lib.hid hown
        have HMK := Lib.hid hmk
        clear hown hmk
        go_wp2
        go_ret
        exact ⟨ret_int (by rw [HJ.out]), HMK.out, by rw [← HM.out]; exact HOWN.out⟩
set_option maxHeartbeats 800000 in
theorem heldInt64S_any (A : Option Addr) (n c : Nat) (k : Int) (w : World) (hr : RI w A n (upto k n)) (h0 : 0 ≤ k) (hk : k + n ≤ 4611686018427387904) :
    Calls Tryd.prog 168 #[.slice A n c, .int .i64 k] w fun e w' => e = .returned (.int .i64 (k + n)) ∧ w = w' := by
  go_enter Tryd.func168, Tryd.ntmps168
  go_wp2
  go_loopw [5, 1] (fun i kk wr => ∃ j : Nat, j ≤ n ∧ i = .int .i64 j ∧ kk = .int .i64 (k + j) ∧ w = wr) (fun i _ _ => n - (intOf i).toNat)
  case atStart => exact ⟨0, Nat.zero_le _, rfl, by simp, rfl⟩
  case round =>
    obtain ⟨j, hj, rfl, rfl, rfl⟩ := hrel
    by_cases hjn : j < n
    · obtain ⟨ad, hA, hlt, hkl, hc⟩ := hr.at_ hjn
      have hv : (upto k n)[j] = k + j := by have h := upto_get k hjn; rw [List.getElem?_eq_getElem hkl] at h; exact Option.some.inj h
      rw [hv] at hc
      have hi0 : (0 : Int) ≤ (j : Int) := by omega
      have hi1 : (j : Int) < (n : Int) := by omega
      subst hA
      clear hv
      go_wp2
      go_roundw
      case rel => exact ⟨j + 1, by omega, by go_num, by go_num, by simp⟩
      case measure => simp [intOf]; omega
    · have HJ : Hid (j = n) := by simp only [Hid]; omega
      go_wp2
      go_ret
      exact ⟨ret_int (by rw [HJ.out]), rfl⟩
end Go.Proofs.YtcapccadpbiecaaDoor

namespace Go.Proofs.YtcapccadpbiecaaDoor
open Go.RowKit Go.Sort
theorem Marks.chg {P : Nat → Prop} {w w' : World} (h : Marks P w w') : Chg P w w' := by
  induction h with
  | refl => exact ⟨rfl, rfl, rfl, Nat.le_refl _, fun _ _ _ => rfl⟩
  | step h hb j u ih =>
    refine ⟨ih.os, ih.tape, ih.output, Nat.le_trans ih.size (by simp [World.setCell]), fun k hk hn => ?_⟩
    rw [Below.heap_setCell _ _ _ _ (fun e => hn (by rw [e]; exact hb))]
    exact ih.block k hk hn
def rowN (A : Option Addr) (n c : Nat) (ds : List Int) : Ent := .row (.slice A n c) 2 1 n (ds.map (Value.int .i64))
theorem Kn.marks {w0 w w' : World} {m : List Ent} {A : Option Addr} {n c : Nat} {ds ds' : List Int} (h : Kn w0 (rowN A n c ds :: m) w) (hm : Marks (fun b => (Value.slice A n c).ownBlock = some b) w w') (ho : OwnI w' 0 (.slice A n c) ds') (hl : ds'.length = n) : Kn w0 (rowN A n c ds' :: m) w' := by
  subst hl
  exact h.upd (e' := rowN A ds'.length c ds') hm.chg ho (fun k hk => .inl hk)
theorem Kn.ownN {w0 w : World} {m : List Ent} {A : Option Addr} {n c : Nat} {ds : List Int} (h : Kn w0 (rowN A n c ds :: m) w) : OwnI w 0 (.slice A n c) ds ∧ ds.length = n := by
  have h1 : w.ownsRow 0 2 1 (.slice A n c) n (ds.map (Value.int .i64)) := h.at0
  have h2 := h1.1
  rw [List.length_map, Nat.mul_one] at h2
  subst h2
  exact ⟨h1, rfl⟩
theorem Kn.riN {w0 w : World} {m : List Ent} {A : Option Addr} {n c : Nat} {ds : List Int} (h : Kn w0 (rowN A n c ds :: m) w) : RI w A n ds := h.ownN.1.ri
theorem Kn.tail3 {w0 w : World} {m : List Ent} {a b c d : Ent} (h : Kn w0 (a :: b :: c :: d :: m) w) : Kn w0 (b :: c :: d :: a :: m) w := h.perm (List.perm_middle (a := a) (l₁ := [b, c, d]) (l₂ := m)).symm
theorem Kn.rot3 {w0 w : World} {m : List Ent} {b c d : Ent} (h : Kn w0 (b :: c :: d :: m) w) : Kn w0 (c :: d :: b :: m) w := h.perm (List.perm_middle (a := b) (l₁ := [c, d]) (l₂ := m)).symm
theorem markRegister_kn (w0 : World) (m : List Ent) (b : Int) (A : Option Addr) (n c : Nat) (ds : List Int) (k : Int) (w : World) (hK : Kn w0 (rowN A n c ds :: m) w) (h0 : 0 ≤ k) (hk : k + n ≤ 4611686018427387904) :
    Calls Tryd.prog 91 #[.agg #[.int .i64 b, .slice A n c], .int .i64 k] w fun e w' => e = .returned (.int .i64 (k + n)) ∧ Kn w0 (rowN A n c (upto k n) :: m) w' := by
  have hKa := hK.al_ (.cells #[.int .i64 b, .slice A n c] 35)
  go_enter Tryd.func91, Tryd.ntmps91
  go_wp2_with fail
  refine Calls.kn hKa ?_; intro w1 hK1
  obtain ⟨ho, hl⟩ := hK1.ownN
  refine (markInt64S_any 0 A n c ds k w1 ho hl h0 hk).mono ?_; rintro e w2 ⟨rfl, hm, ho2⟩
  have hK2 := hK1.marks hm ho2 (upto_len k n)
  clear ho hl hm ho2 hKa
  go_wp2_with fail
  go_ret
  exact ⟨rfl, hK2⟩
theorem heldRegister_any (b : Int) (A : Option Addr) (n c : Nat) (k : Int) (w : World) (hr : RI w A n (upto k n)) (h0 : 0 ≤ k) (hk : k + n ≤ 4611686018427387904) :
    Calls Tryd.prog 92 #[.agg #[.int .i64 b, .slice A n c], .int .i64 k] w fun e w' => e = .returned (.int .i64 (k + n)) ∧ Below w.heap.size w w' := by
  have hK := (Kn.nil w).al [.int .i64 b, .slice A n c] 35
  have hr' := hr.below hK.below
  have i0 : ¬ k + (n : Int) < 0 := by omega
  go_enter Tryd.func92, Tryd.ntmps92
  go_wp2_with fail
  refine (heldInt64S_any A n c k _ hr' h0 hk).mono ?_; rintro e w2 ⟨rfl, rfl⟩
  go_wp2_with fail
  go_ret
  exact ⟨rfl, hK.below⟩
set_option maxHeartbeats 800000 in
theorem markMachine_kn (w0 : World) (m : List Ent) (b1 b2 b3 cy : Int) (A1 A2 A3 : Option Addr) (n1 n2 n3 c1 c2 c3 : Nat) (d1 d2 d3 : List Int) (k : Int) (w : World) (hK : Kn w0 (rowN A3 n3 c3 d3 :: rowN A2 n2 c2 d2 :: rowN A1 n1 c1 d1 :: m) w) (h0 : 0 ≤ k) (hk : k + n1 + n2 + n3 ≤ 4611686018427387904) :
    Calls Tryd.prog 24 #[.agg #[.int .i64 b1, .slice A1 n1 c1, .int .i64 b2, .slice A2 n2 c2, .int .i64 b3, .slice A3 n3 c3, .int .i64 cy], .int .i64 k] w fun e w' => e = .returned (.int .i64 (k + n1 + n2 + n3)) ∧ Kn w0 (rowN A3 n3 c3 (upto (k + n1 + n2) n3) :: rowN A2 n2 c2 (upto (k + n1) n2) :: rowN A1 n1 c1 (upto k n1) :: m) w' := by
  have hKb := (hK.al [.int .i64 b1, .slice A1 n1 c1, .int .i64 b2, .slice A2 n2 c2, .int .i64 b3, .slice A3 n3 c3, .int .i64 cy] 37).sw3
  go_enter Tryd.func24, Tryd.ntmps24
  go_wp2_with fail
  refine (markRegister_kn w0 _ b1 A1 n1 c1 d1 k _ hKb h0 (by omega)).mono ?_; rintro e w1 ⟨rfl, hK1⟩
  obtain ⟨a1, a2, a3, -⟩ := hK1.cells
  go_wp2_with fail
  refine (markRegister_kn w0 _ b2 A2 n2 c2 d2 _ _ hK1.sw3 (by omega) (by omega)).mono ?_; rintro e w2 ⟨rfl, hK2⟩
  clear a1 a2 a3
  obtain ⟨a1, a2, a3, -⟩ := hK2.cells
  go_wp2_with fail
  refine (markRegister_kn w0 _ b3 A3 n3 c3 d3 _ _ hK2.sw3 (by omega) (by omega)).mono ?_; rintro e w3 ⟨rfl, hK3⟩
  go_wp2_with fail
  go_ret
  exact ⟨rfl, hK3.sw3.drop⟩
set_option maxHeartbeats 800000 in
theorem heldMachine_any (b1 b2 b3 cy : Int) (A1 A2 A3 : Option Addr) (n1 n2 n3 c1 c2 c3 : Nat) (k : Int) (w : World) (r1 : RI w A1 n1 (upto k n1)) (r2 : RI w A2 n2 (upto (k + n1) n2)) (r3 : RI w A3 n3 (upto (k + n1 + n2) n3)) (h0 : 0 ≤ k) (hk : k + n1 + n2 + n3 ≤ 4611686018427387904) :
    Calls Tryd.prog 25 #[.agg #[.int .i64 b1, .slice A1 n1 c1, .int .i64 b2, .slice A2 n2 c2, .int .i64 b3, .slice A3 n3 c3, .int .i64 cy], .int .i64 k] w fun e w' => e = .returned (.int .i64 (k + n1 + n2 + n3)) ∧ Below w.heap.size w w' := by
  have R1 := Lib.hid (fun W (hW : Below w.heap.size w W) => heldRegister_any b1 A1 n1 c1 k W (r1.below hW) h0 (by omega))
  have R2 := Lib.hid (fun W (hW : Below w.heap.size w W) => heldRegister_any b2 A2 n2 c2 (k + n1) W (r2.below hW) (by omega) (by omega))
  have R3 := Lib.hid (fun W (hW : Below w.heap.size w W) => heldRegister_any b3 A3 n3 c3 (k + n1 + n2) W (r3.below hW) (by omega) (by omega))
  have i1 : ¬ k + (n1 : Int) < 0 := by omega
  have i2 : ¬ k + (n1 : Int) + (n2 : Int) < 0 := by omega
  have i3 : ¬ k + (n1 : Int) + (n2 : Int) + (n3 : Int) < 0 := by omega
  have hKb := (Kn.nil w).al [.int .i64 b1, .slice A1 n1 c1, .int .i64 b2, .slice A2 n2 c2, .int .i64 b3, .slice A3 n3 c3, .int .i64 cy] 37
  clear r1 r2 r3
  go_enter Tryd.func25, Tryd.ntmps25
  go_wp2_with fail
  refine (R1.out _ hKb.below).mono ?_; rintro e w1 ⟨rfl, hw⟩
  have hK1 := hKb.keep hw
  clear hw hKb
  obtain ⟨a1, a2, a3, -⟩ := hK1.cells
  go_wp2_with fail
  refine (R2.out _ hK1.below).mono ?_; rintro e w2 ⟨rfl, hw⟩
  have hK2 := hK1.keep hw
  clear hw hK1 a1 a2 a3
  obtain ⟨a1, a2, a3, -⟩ := hK2.cells
  go_wp2_with fail
  refine (R3.out _ hK2.below).mono ?_; rintro e w3 ⟨rfl, hw⟩
  have hK3 := hK2.keep hw
  clear hw hK2 a1 a2 a3
  go_wp2_with fail
  go_ret
  exact ⟨rfl, hK3.below⟩
theorem eqM_same (b1 b2 b3 cy : Int) (A1 A2 A3 B1 B2 B3 : Option Addr) (n1 n2 n3 c1 c2 c3 e1 e2 e3 : Nat) (d1 d2 d3 : List Int) (w : World)
    (r1 : RI w A1 n1 d1) (r2 : RI w A2 n2 d2) (r3 : RI w A3 n3 d3) (s1 : RI w B1 n1 d1) (s2 : RI w B2 n2 d2) (s3 : RI w B3 n3 d3)
    (hm1 : n1 ≤ 1048576) (hm2 : n2 ≤ 1048576) (hm3 : n3 ≤ 1048576) :
    Calls Tryd.prog 23 #[.agg #[.int .i64 b1, .slice A1 n1 c1, .int .i64 b2, .slice A2 n2 c2, .int .i64 b3, .slice A3 n3 c3, .int .i64 cy], .agg #[.int .i64 b1, .slice B1 n1 e1, .int .i64 b2, .slice B2 n2 e2, .int .i64 b3, .slice B3 n3 e3, .int .i64 cy]] w fun e w' => e = .returned (.bool true) ∧ Below w.heap.size w w' :=
  (eqMachine_any b1 b2 b3 cy b1 b2 b3 cy A1 A2 A3 B1 B2 B3 n1 n2 n3 c1 c2 c3 n1 n2 n3 e1 e2 e3 d1 d2 d3 d1 d2 d3 w r1 r2 r3 s1 s2 s3 hm1 hm2 hm3 hm1 hm2 hm3).mono fun e w' ⟨h, hb⟩ => ⟨by rw [h]; simp, hb⟩
theorem Kn.addN {w0 w w' : World} {m : List Ent} {A : Option Addr} {n c : Nat} {ds : List Int} (h : Kn w0 m w) (hb : Below w.heap.size w w') (ho : OwnI w' w.heap.size (.slice A n c) ds) (hl : ds.length = n) : Kn w0 (rowN A n c ds :: m) w' := by
  subst hl
  exact h.addI hb ho
theorem toInt64S_kn (A : Option Addr) (n c : Nat) (ds : List Int) (w : World) (hr : RI w A n ds) (hm : n ≤ 1048576) :
    Calls Tryd.prog 157 #[.slice A n c] w fun e w' => ∃ X x, e = .returned (.slice X n x) ∧ Kn w [rowN X n x ds] w' :=
  (toInt64S_any A n c ds w hr hm).mono fun _ _ ⟨X, x, h1, ho, hb⟩ => ⟨X, x, h1, (Kn.nil w).addN hb ho hr.1⟩
theorem lf_small {left n : Int} (h : ¬ lft left n < 0) (hl : left ≤ 1048576) : n ≤ 1048576 := by unfold lft at h; split at h <;> omega
theorem lf3_small {n1 n2 n3 : Int} (p1 : 0 ≤ n1) (p2 : 0 ≤ n2) (_p3 : 0 ≤ n3) (h : ¬ lft3 1048576 n1 n2 n3 < 0) : n1 ≤ 1048576 ∧ n2 ≤ 1048576 ∧ n3 ≤ 1048576 := by
  unfold lft3 at h
  split at h
  · omega
  · rename_i k1
    split at h
    · omega
    · rename_i k2
      have h1 := lf_small k1 (Int.le_refl _)
      have b1 := lft_bd 1048576 n1 (by omega) p1
      have h2 := lf_small k2 b1.2
      have b2 := lft_bd _ n2 b1.1 p2
      have h3 := lf_small h (by omega)
      exact ⟨h1, h2, h3⟩
theorem lf3_lo (n1 n2 n3 : Int) (p1 : 0 ≤ n1) (p2 : 0 ≤ n2) (p3 : 0 ≤ n3) : lft3 1048576 n1 n2 n3 ≤ 1048576 ∧ -1 ≤ lft3 1048576 n1 n2 n3 := by
  unfold lft3
  have b1 := lft_bd 1048576 n1 (by omega) p1
  have b2 := lft_bd _ n2 b1.1 p2
  have b3 := lft_bd _ n3 b2.1 p3
  split
  · omega
  · split <;> omega
theorem eqI_same (A B : Option Addr) (n c d : Nat) (ds : List Int) (w : World) (hr : RI w A n ds) (hs : RI w B n ds) (hm : n ≤ 1048576) :
    Calls Tryd.prog 166 #[.slice A n c, .slice B n d] w fun e w' => e = .returned (.bool true) ∧ Below w.heap.size w w' :=
  (eqInt64S_any A B n c n d ds ds w hr hs (by omega) (by omega)).mono fun e w' ⟨h, q, hq⟩ => ⟨by rw [h]; simp, by rw [hq]; exact drewN_below q⟩
theorem markI_kn (w0 : World) (m : List Ent) (A : Option Addr) (n c : Nat) (ds : List Int) (k : Int) (w : World) (hK : Kn w0 (rowN A n c ds :: m) w) (h0 : 0 ≤ k) (hk : k + n ≤ 4611686018427387904) :
    Calls Tryd.prog 167 #[.slice A n c, .int .i64 k] w fun e w' => e = .returned (.int .i64 (k + n)) ∧ Kn w0 (rowN A n c (upto k n) :: m) w' := by
  obtain ⟨ho, hl⟩ := hK.ownN
  exact (markInt64S_any 0 A n c ds k w ho hl h0 hk).mono fun e w' ⟨h, hm, ho2⟩ => ⟨h, hK.marks hm ho2 (upto_len k n)⟩
set_option maxRecDepth 100000 in
set_option maxHeartbeats 1600000 in
theorem toMachine_kn (b1 b2 b3 cy : Int) (A1 A2 A3 : Option Addr) (n1 n2 n3 c1 c2 c3 : Nat) (d1 d2 d3 : List Int) (w : World) (r1 : RI w A1 n1 d1) (r2 : RI w A2 n2 d2) (r3 : RI w A3 n3 d3) (hm1 : n1 ≤ 1048576) (hm2 : n2 ≤ 1048576) (hm3 : n3 ≤ 1048576) :
    Calls Tryd.prog 21 #[.agg #[.int .i64 b1, .slice A1 n1 c1, .int .i64 b2, .slice A2 n2 c2, .int .i64 b3, .slice A3 n3 c3, .int .i64 cy]] w fun e w' => ∃ X1 x1 X2 x2 X3 x3, e = .returned (.agg #[.int .i64 b1, .slice X1 n1 x1, .int .i64 b2, .slice X2 n2 x2, .int .i64 b3, .slice X3 n3 x3, .int .i64 cy]) ∧
      Kn w [rowN X3 n3 x3 d3, rowN X2 n2 x2 d2, rowN X1 n1 x1 d1] w' := by
  have K1 := Lib.hid (fun W (hW : Below w.heap.size w W) => toRegister_any b1 A1 n1 c1 d1 W (r1.below hW) hm1)
  have K2 := Lib.hid (fun W (hW : Below w.heap.size w W) => toRegister_any b2 A2 n2 c2 d2 W (r2.below hW) hm2)
  have K3 := Lib.hid (fun W (hW : Below w.heap.size w W) => toRegister_any b3 A3 n3 c3 d3 W (r3.below hW) hm3)
  have L1 := Lib.hid r1.1
  have L2 := Lib.hid r2.1
  have L3 := Lib.hid r3.1
  clear r1 r2 r3
  go_enter Tryd.func21, Tryd.ntmps21
  go_wp2_with fail
  refine Calls.kn ((((Kn.nil w).al [.int .i64 b1, .slice A1 n1 c1, .int .i64 b2, .slice A2 n2 c2, .int .i64 b3, .slice A3 n3 c3, .int .i64 cy] 33).al [.int .i64 0, .slice none 0 0, .int .i64 0, .slice none 0 0, .int .i64 0, .slice none 0 0, .int .i64 0] 37).al [.int .i64 0, .slice none 0 0, .int .i64 0, .slice none 0 0, .int .i64 0, .slice none 0 0, .int .i64 0] 37) ?_; intro w1 hK1
  simp only [World.size_alloc] at hK1
  (with_reducible refine (K1.out _ hK1.below).mono ?_); rintro e w2 ⟨X1, x1, rfl, ho, hb⟩
  have hK2 := hK1.addN hb ho L1.out
  clear hK1 ho hb
  obtain ⟨a1, a2, a3, d1', d2', d3', e1, e2, e3, -⟩ := hK2.cells
  go_wp2_with fail
  refine Calls.kn ((hK2.sw1.st 0 (.int .i64 b1)).st 1 (.slice X1 n1 x1)) ?_; intro w3 hK3
  clear hK2 a1 a2 a3 d1' d2' d3' e1 e2 e3
  (with_reducible refine (K2.out _ hK3.below).mono ?_); rintro e w4 ⟨X2, x2, rfl, ho, hb⟩
  have hK4 := hK3.addN hb ho L2.out
  clear hK3 ho hb
  obtain ⟨a1, a2, a3, d1', d2', d3', e1, e2, e3, -⟩ := hK4.cells
  go_wp2_with fail
  refine Calls.kn ((hK4.sw1.st 2 (.int .i64 b2)).st 3 (.slice X2 n2 x2)) ?_; intro w5 hK5
  clear hK4 a1 a2 a3 d1' d2' d3' e1 e2 e3
  (with_reducible refine (K3.out _ hK5.below).mono ?_); rintro e w6 ⟨X3, x3, rfl, ho, hb⟩
  have hK6 := hK5.addN hb ho L3.out
  clear hK5 ho hb
  obtain ⟨a1, a2, a3, d1', d2', d3', e1, e2, e3, -⟩ := hK6.cells
  have ne1 := hK6.ne 1 5 rfl rfl (by decide)
  have ne2 := ne1.symm
  have ne3 := hK6.ne 1 4 rfl rfl (by decide)
  have ne4 := ne3.symm
  go_wp2_with fail
  refine bodyPost.kn ((((((((((hK6.sw1.st 4 (.int .i64 b3)).st 5 (.slice X3 n3 x3)).st 6 (.int .i64 cy)).front 4 rfl).st 0 (.int .i64 b1)).st 1 (.slice X1 n1 x1)).st 2 (.int .i64 b2)).st 3 (.slice X2 n2 x2)).st 4 (.int .i64 b3)).st 5 (.slice X3 n3 x3) |>.st 6 (.int .i64 cy)) ?_; intro w7 hK7
  clear a1 a2 a3 d1' d2' d3' e1 e2 e3
  obtain ⟨a1, a2, a3, -⟩ := hK7.cells
  refine bodyPost_ret (v := .agg #[.int .i64 b1, .slice X1 n1 x1, .int .i64 b2, .slice X2 n2 x2, .int .i64 b3, .slice X3 n3 x3, .int .i64 cy]) (by simp [results, Tryd.results21, go_sem, a1]) rfl ⟨X1, x1, X2, x2, X3, x3, rfl, ?_⟩
  exact hK7.sel [2, 3, 4] 99 (by decide) (by decide)
end Go.Proofs.YtcapccadpbiecaaDoor

namespace Go.Proofs.YtcapccadpbiecaaDoor
open Go.RowKit Go.Sort
theorem cellsIns_ext {xs : List Ins} {cs : List Value} (hl : cs.length = xs.length * 2) (h : ∀ (i : Nat) (h : i < xs.length), cs[i * 2]? = some (.int .i64 xs[i].op) ∧ cs[i * 2 + 1]? = some (.int .i64 xs[i].arg)) : cs = cellsIns xs := by
  apply List.ext_getElem?
  intro j
  by_cases hj : j < xs.length * 2
  · obtain ⟨h1, h2⟩ := h (j / 2) (by omega)
    obtain ⟨h3, h4⟩ := cellsIns_get xs (j / 2) (by omega)
    rcases Nat.mod_two_eq_zero_or_one j with he | he
    · have e : j / 2 * 2 = j := by omega
      rw [e] at h1 h3; rw [h1, h3]
    · have e : j / 2 * 2 + 1 = j := by omega
      rw [e] at h2 h4; rw [h2, h4]
  · rw [List.getElem?_eq_none (by omega), List.getElem?_eq_none (by rw [cellsIns_len]; omega)]
/-- the first j cells are marked -/
def markedV (k : Int) (cs : List Value) (j : Nat) : List Value := (upto k j).map (Value.int .i64) ++ cs.drop j
theorem markedV_set (k : Int) (cs : List Value) {j : Nat} (h : j < cs.length) : (markedV k cs j).set j (.int .i64 (k + j)) = markedV k cs (j + 1) := by
  unfold markedV
  rw [List.set_append_right _ _ (by rw [List.length_map, upto_len]; exact Nat.le_refl _), List.length_map, upto_len, Nat.sub_self, List.drop_eq_getElem_cons h, List.set_cons_zero]
  simp [upto, List.range_succ]
theorem markedV_len (k : Int) (cs : List Value) {j : Nat} (h : j ≤ cs.length) : (markedV k cs j).length = cs.length := by simp [markedV, upto_len]; omega
end Go.Proofs.YtcapccadpbiecaaDoor

namespace Go.Proofs.YtcapccadpbiecaaDoor
open Go.RowKit Go.ChangeShapes Go.WideShapes Go.ChangeAt
section
variable {H : Type} {enc : TypeId × Value → H} {w : World} {base : Nat} {spare : Nat → Bool} {held : Bool} {fuel : Nat} {cs : List Value} {x : DataW H × List MemPlace}
theorem cellsI64 : Tryd.prog.cellsOf 2 = 1 := by kernel_rfl
theorem cellsInts : Tryd.prog.cellsOf 29 = 1 := by kernel_rfl
theorem rd_i64 (h : DataW.trod enc Tryd.prog w base spare held fuel 2 cs = some x) : ∃ n, cs = [.int .i64 n] ∧ -9223372036854775808 ≤ n ∧ n ≤ 9223372036854775807 := by
  obtain ⟨n, rfl, _, hw⟩ := DataW.trod_int Tryd.underlying2 h
  refine ⟨n, rfl, ?_⟩
  have h1 : IntKind.i64.min = -9223372036854775808 := by decide
  have h2 : IntKind.i64.max = 9223372036854775807 := by decide
  simp [Lit.wf] at hw
  omega
theorem rd_ints (h : DataW.trod enc Tryd.prog w base spare held fuel 29 cs = some x) : ∃ A n c ds, cs = [.slice A n c] ∧ RI w A n ds ∧ n ≤ 9223372036854775807 := by
  rcases open_ints Tryd.underlying29 Tryd.underlying2 cellsI64 h with ⟨rfl, _⟩ | ⟨a, len, cap, zs, rfl, _, hl, hm, hz, _, hcell, _⟩
  · exact ⟨none, 0, 0, [], rfl, ⟨rfl, fun h => absurd h (by omega)⟩, by omega⟩
  · have hlen : len ≤ zs.length := by rw [hz]; split <;> omega
    refine ⟨some a, len, cap, zs.take len, rfl, ⟨by simp; omega, fun h0 => ⟨a, rfl, ?_, fun j u hu => ?_⟩⟩, by simp only [maxLen] at hm; omega⟩
    · have := World.block_lt_of_cell? w _ (hcell 0 (by omega)); rwa [block_of_add] at this
    · rw [List.getElem?_take] at hu
      split at hu
      · rw [hcell j (by omega)]; simp [List.getD, hu]
      · cases hu
theorem cellsLR : Tryd.prog.cellsOf 31 = 2 := by kernel_rfl
set_option maxRecDepth 100000 in
theorem rd_lreg (h : DataW.trod enc Tryd.prog w base spare held fuel 31 cs = some x) : ∃ b A n c ds, cs = [.int .i64 b, .slice A n c] ∧ RI w A n ds ∧ n ≤ 9223372036854775807 ∧ -9223372036854775808 ≤ b ∧ b ≤ 9223372036854775807 := by
  obtain ⟨xs, m, _, _, hl, hxl, hf⟩ := DataW.trod_struct Tryd.underlying31 h
  rw [cellsLR] at hl
  match cs, hl with
  | [c0, c1], _ =>
    obtain ⟨y0, hy0⟩ : ∃ y, xs[0]? = some y := ⟨_, List.getElem?_eq_getElem (by rw [hxl]; decide)⟩
    obtain ⟨y1, hy1⟩ : ∃ y, xs[1]? = some y := ⟨_, List.getElem?_eq_getElem (by rw [hxl]; decide)⟩
    have h0 : DataW.trod enc Tryd.prog w base spare held m 2 (([c0, c1].drop 0).take (Tryd.prog.cellsOf 2)) = xs[0]? := hf 0 _ rfl
    have h1 : DataW.trod enc Tryd.prog w base spare held m 29 (([c0, c1].drop 1).take (Tryd.prog.cellsOf 29)) = xs[1]? := hf 1 _ rfl
    simp only [cellsI64, cellsInts, List.drop_zero, List.drop_succ_cons, List.take_succ_cons, List.take_zero] at h0 h1
    rw [hy0] at h0
    rw [hy1] at h1
    obtain ⟨b, e0, hb1, hb2⟩ := rd_i64 h0
    obtain ⟨A, n, c, ds, e1, hr, hn⟩ := rd_ints h1
    injection e0 with e0
    injection e1 with e1
    exact ⟨b, A, n, c, ds, by rw [e0, e1], hr, hn, hb1, hb2⟩
end
end Go.Proofs.YtcapccadpbiecaaDoor

namespace Go.Proofs.YtcapccadpbiecaaDoor
open Go.RowKit Go.ChangeShapes Go.WideShapes Go.ChangeAt
section
variable {H : Type} {enc : TypeId × Value → H} {w : World} {base : Nat} {spare : Nat → Bool} {held : Bool} {fuel : Nat} {cs : List Value} {x : DataW H × List MemPlace}
theorem cellsLM : Tryd.prog.cellsOf 33 = 7 := by kernel_rfl
set_option maxRecDepth 100000 in
theorem rd_lmachine (h : DataW.trod enc Tryd.prog w base spare held fuel 33 cs = some x) : ∃ b1 A1 n1 c1 d1 b2 A2 n2 c2 d2 b3 A3 n3 c3 d3 cy, cs = [.int .i64 b1, .slice A1 n1 c1, .int .i64 b2, .slice A2 n2 c2, .int .i64 b3, .slice A3 n3 c3, .int .i64 cy] ∧
    RI w A1 n1 d1 ∧ RI w A2 n2 d2 ∧ RI w A3 n3 d3 ∧ n1 ≤ 9223372036854775807 ∧ n2 ≤ 9223372036854775807 ∧ n3 ≤ 9223372036854775807 := by
  obtain ⟨xs, m, _, _, hl, hxl, hf⟩ := DataW.trod_struct Tryd.underlying33 h
  rw [cellsLM] at hl
  match cs, hl with
  | [c0, c1, c2, c3, c4, c5, c6], _ =>
    obtain ⟨y0, hy0⟩ : ∃ y, xs[0]? = some y := ⟨_, List.getElem?_eq_getElem (by rw [hxl]; decide)⟩
    obtain ⟨y1, hy1⟩ : ∃ y, xs[1]? = some y := ⟨_, List.getElem?_eq_getElem (by rw [hxl]; decide)⟩
    obtain ⟨y2, hy2⟩ : ∃ y, xs[2]? = some y := ⟨_, List.getElem?_eq_getElem (by rw [hxl]; decide)⟩
    obtain ⟨y3, hy3⟩ : ∃ y, xs[3]? = some y := ⟨_, List.getElem?_eq_getElem (by rw [hxl]; decide)⟩
    have h0 : DataW.trod enc Tryd.prog w base spare held m 31 (([c0, c1, c2, c3, c4, c5, c6].drop 0).take (Tryd.prog.cellsOf 31)) = xs[0]? := hf 0 _ rfl
    have h1 : DataW.trod enc Tryd.prog w base spare held m 31 (([c0, c1, c2, c3, c4, c5, c6].drop 2).take (Tryd.prog.cellsOf 31)) = xs[1]? := hf 1 _ rfl
    have h2 : DataW.trod enc Tryd.prog w base spare held m 31 (([c0, c1, c2, c3, c4, c5, c6].drop 4).take (Tryd.prog.cellsOf 31)) = xs[2]? := hf 2 _ rfl
    have h3 : DataW.trod enc Tryd.prog w base spare held m 2 (([c0, c1, c2, c3, c4, c5, c6].drop 6).take (Tryd.prog.cellsOf 2)) = xs[3]? := hf 3 _ rfl
    simp only [cellsI64, cellsLR, List.drop_zero, List.drop_succ_cons, List.take_succ_cons, List.take_zero] at h0 h1 h2 h3
    rw [hy0] at h0
    rw [hy1] at h1
    rw [hy2] at h2
    rw [hy3] at h3
    obtain ⟨b1, A1, n1, k1, d1, e1, r1, m1, -⟩ := rd_lreg h0
    obtain ⟨b2, A2, n2, k2, d2, e2, r2, m2, -⟩ := rd_lreg h1
    obtain ⟨b3, A3, n3, k3, d3, e3, r3, m3, -⟩ := rd_lreg h2
    obtain ⟨cy, e4, -⟩ := rd_i64 h3
    simp only [List.cons.injEq, and_true] at e1 e2 e3 e4
    obtain ⟨rfl, rfl⟩ := e1
    obtain ⟨rfl, rfl⟩ := e2
    obtain ⟨rfl, rfl⟩ := e3
    subst e4
    exact ⟨b1, A1, n1, k1, d1, b2, A2, n2, k2, d2, b3, A3, n3, k3, d3, cy, rfl, r1, r2, r3, m1, m2, m3⟩
end
end Go.Proofs.YtcapccadpbiecaaDoor

namespace Go.Proofs.YtcapccadpbiecaaDoor
open Go.RowKit Go.ChangeShapes Go.WideShapes Go.ChangeAt
section
variable {H : Type} {enc : TypeId × Value → H} {w : World} {base : Nat} {spare : Nat → Bool} {held : Bool} {fuel : Nat} {cs : List Value} {x : DataW H × List MemPlace}
theorem cellsStr : Tryd.prog.cellsOf 9 = 1 := by kernel_rfl
theorem rd_strings (h : DataW.trod enc Tryd.prog w base spare held fuel 22 cs = some x) : ∃ A n c ss, cs = [.slice A n c] ∧ RL StrM 1 w A n ss ∧ n ≤ 9223372036854775807 ∧ ∀ s ∈ ss, s.size ≤ 9223372036854775807 := by
  rcases open_strings Tryd.underlying22 Tryd.underlying9 cellsStr h with ⟨rfl, _⟩ | ⟨a, len, cap, ss, rfl, _, hl, hm, hz, _, hcell, hsz⟩
  · exact ⟨none, 0, 0, [], rfl, ⟨rfl, fun h => absurd h (by omega)⟩, by omega, fun s hs => by cases hs⟩
  · have hlen : len ≤ ss.length := by rw [hz]; split <;> omega
    refine ⟨some a, len, cap, ss.take len, rfl, ⟨by simp; omega, fun h0 => ⟨a, rfl, ?_, fun k hk => ?_⟩⟩, by simp only [maxLen] at hm; omega, fun s hs => ?_⟩
    · have := World.block_lt_of_cell? w _ (hcell 0 (by omega)); rwa [block_of_add] at this
    · have hk' : k < len := by simp at hk; omega
      have h1 := hcell k (by omega)
      unfold StrM
      rw [Nat.mul_one, h1, List.getD_eq_getElem?_getD, List.getElem?_eq_getElem (by omega), List.getElem_take]; rfl
    · have := hsz s (List.mem_of_mem_take hs)
      simp only [maxLen] at this; omega
end
end Go.Proofs.YtcapccadpbiecaaDoor

namespace Go.Proofs.YtcapccadpbiecaaDoor
open Go.RowKit Go.ChangeShapes Go.WideShapes Go.ChangeAt
theorem laid_tail {P : Program} {W : World} {x : String × DataW Unit} {rest : List (String × DataW Unit)} (h : laidMet P (x :: rest) W) : laidMet P rest W := by
  obtain ⟨ps, ⟨g, t, cs, fuel, p, q, h1, h2, h3, h4, h5, rfl⟩, hn, hr⟩ := h
  exact ⟨q, h5, (List.nodup_append.1 hn).2.1, fun b off hb => hr b off (List.mem_append_right _ hb)⟩
theorem cellsU64 : Tryd.prog.cellsOf 194 = 1 := by kernel_rfl
theorem cellsTab : Tryd.prog.cellsOf 225 = 20 := by kernel_rfl
theorem gTab : Tryd.prog.globalNamed "internal/strconv.uint64pow10" = some 0 := by kernel_rfl
theorem gTabType : (Tryd.prog.globals[0]?).map (·.type) = some 225 := by kernel_rfl
theorem tb_of_laid {W : World} (h : laidMetH Tryd.prog [("math/bits.deBruijn32tab", Rows.laid_math_bits_deBruijn32tab), ("math/bits.deBruijn64tab", Rows.laid_math_bits_deBruijn64tab), ("internal/strconv.uint64pow10", Rows.laid_internal_strconv_uint64pow10)] W) : TB W := by
  have h1 : laidMet Tryd.prog [("math/bits.deBruijn32tab", Rows.laid_math_bits_deBruijn32tab), ("math/bits.deBruijn64tab", Rows.laid_math_bits_deBruijn64tab), ("internal/strconv.uint64pow10", Rows.laid_internal_strconv_uint64pow10)] W := h
  exact Lib.tabIs_of_head (rest := []) gTab gTabType Tryd.underlying225 Tryd.underlying194 cellsU64 cellsTab (laid_tail (laid_tail h1))
def tabCells (l : DataW Unit) (k : IntKind) : Array Value := match l with
  | .agg ds => (ds.map fun d => match d with | .lit (.int _ n) => Value.int k n | _ => .int k 0).toArray
  | _ => #[]
def setTab (cs : Array Value) (o : Obj) : Obj := match o with
  | .cells _ t frozen => .cells cs t frozen
  | o => o
noncomputable def laidWorld (os : Os) : World :=
  { World.holding Tryd.prog os ⟨#[], #[], []⟩ with heap := (((World.holding Tryd.prog os ⟨#[], #[], []⟩).heap.modify 0 (setTab (tabCells Rows.laid_internal_strconv_uint64pow10 .u64))).modify 1 (setTab (tabCells Rows.laid_math_bits_deBruijn32tab .u8))).modify 2 (setTab (tabCells Rows.laid_math_bits_deBruijn64tab .u8)) }
theorem laid_met (os : Os) (args : Array Value) : laidMet Tryd.prog [("math/bits.deBruijn32tab", Rows.laid_math_bits_deBruijn32tab), ("math/bits.deBruijn64tab", Rows.laid_math_bits_deBruijn64tab), ("internal/strconv.uint64pow10", Rows.laid_internal_strconv_uint64pow10)] ((laidWorld os).forCall (fun _ _ => 0) ⟨#[], args, []⟩).memory :=
  laidMet_of_run' 8 (by kernel_rfl) (by kernel_rfl)
theorem own : ownKnob Tryd.prog.godebug = none := by kernel_rfl
theorem laidOut : laidOutB Tryd.prog = true := by kernel_rfl
end Go.Proofs.YtcapccadpbiecaaDoor
