/- Part 9: lemmas and contracts of the claim's functions. -/
import Derived.Test.YtgpmngcemnnpmaaDoorZC1
import Derived.Test.YtgpmngcemnnpmaaDoorZC2
import Derived.Test.YtgpmngcemnnpmaaDoorZC3
import Derived.Test.YtgpmngcemnnpmaaDoorZC4
import Derived.Test.YtgpmngcemnnpmaaDoorZC5
import Derived.Test.YtgpmngcemnnpmaaDoorZC6
import Derived.Test.YtgpmngcemnnpmaaDoorZC7
import Derived.Test.YtgpmngcemnnpmaaDoorZC8
import Derived.Test.YtgpmngcemnnpmaaDoorTie
import Derived.Test.YtgpmngcemnnpmaaDoorCards
import Derived.Deep.DeepHandedRow
import Derived.Lib.LaidTab
import Derived.ProofKit
import Derived.Carry
namespace Go.Proofs.YtgpmngcemnnpmaaDoor
open Go.RowKit Go.Sort
theorem TriM.of_block {w : World} {g : Nat} {T : TypeId} {t : Tri} {A1 A2 A3 : Option Addr} {c1 c2 c3 : Nat}
    (hg : w.heap[g]? = some (.cells #[.int .i64 t.a.base, .slice A1 t.a.digits.length c1, .int .i64 t.b.base, .slice A2 t.b.digits.length c2, .int .i64 t.s.base, .slice A3 t.s.digits.length c3, .int .i64 t.carry] T (0, 0)))
    (r1 : RI w A1 t.a.digits.length t.a.digits) (r2 : RI w A2 t.b.digits.length t.b.digits) (r3 : RI w A3 t.s.digits.length t.s.digits) : TriM w ⟨g, 0, none⟩ t := by
  have hc : ∀ i v, #[Value.int .i64 t.a.base, .slice A1 t.a.digits.length c1, .int .i64 t.b.base, .slice A2 t.b.digits.length c2, .int .i64 t.s.base, .slice A3 t.s.digits.length c3, .int .i64 t.carry][i]? = some v → w.cell? ⟨g, i, none⟩ = some v := fun i v hv => by rw [cell_of_row w g i _ T (0, 0) hg]; exact hv
  exact ⟨⟨A1, c1, ⟨hc 0 _ rfl, hc 1 _ rfl⟩, r1⟩, ⟨A2, c2, ⟨hc 2 _ rfl, hc 3 _ rfl⟩, r2⟩, ⟨A3, c3, ⟨hc 4 _ rfl, hc 5 _ rfl⟩, r3⟩, hc 6 _ rfl⟩
theorem RL.one {w : World} {g : Nat} {t : Tri} (h : TriM w ⟨g, 0, none⟩ t) (hl : g < w.heap.size) : RL TriM 7 w (some ⟨g, 0, none⟩) 1 [t] :=
  ⟨rfl, fun _ => ⟨_, rfl, hl, fun k hk => by
    have : k = 0 := by simp at hk; omega
    subst this
    rw [Nat.zero_mul, addr_add_zero]; exact h⟩⟩
theorem RegisterText_reg (r : Reg) (A : Option Addr) (c : Nat) (w : World) (hr : RI w A r.digits.length r.digits) (hm : SmallReg r) (ht : TB w) :
    Calls Tryd.prog 47 #[.agg #[.int .i64 r.base, .slice A r.digits.length c]] w fun e w' => e = .returned (.string ⟨(rtext r).toArray⟩) ∧ Below w.heap.size w w' := RegisterText_any r.base A _ c r.digits w hr hm ht
def ttextL (t : Tri) : ByteArray := ((((((⟨(rtext t.a).toArray⟩ : ByteArray) ++ (⟨#[32, 43, 32]⟩ : ByteArray)) ++ (⟨(rtext t.b).toArray⟩ : ByteArray)) ++ (⟨#[32, 61, 32]⟩ : ByteArray)) ++ (⟨(rtext t.s).toArray⟩ : ByteArray)) ++ (⟨#[32]⟩ : ByteArray)) ++ (⟨(dec t.carry).toArray⟩ : ByteArray)
def ttext (t : Tri) : ByteArray := if vtrials [t] then ttextL t else ⟨#[]⟩
theorem rtext_len (r : Reg) : (rtext r).length ≤ 60 := by
  unfold rtext
  split
  · rename_i h
    obtain ⟨⟨hb1, hb2⟩, ⟨hl1, hl2⟩, -, -⟩ := vreg_iff.1 h
    have := dec_len r.base (by omega) (by omega)
    simp only [rtextL, List.length_append, List.length_map, List.length_reverse, List.length_cons, List.length_nil]; omega
  · simp
theorem vtrials_one {t : Tri} (h : vtrials [t] = true) : t.a.ok = true ∧ t.b.ok = true ∧ t.s.ok = true ∧ 0 ≤ t.carry ∧ t.carry ≤ 1 := by
  simp only [vtrials, List.all_cons, List.all_nil, Bool.and_true, Bool.and_eq_true, List.headD_cons, triGood, vlike] at h
  obtain ⟨⟨⟨⟨h1, h2⟩, h3⟩, h4⟩, -⟩ := h
  obtain ⟨h5, h6⟩ := betB_iff.1 h4
  exact ⟨h1.1.1, h2.1.1, h3.1.1, h5, h6⟩
set_option maxRecDepth 100000 in
set_option maxHeartbeats 1600000 in
theorem TrialText_any (t : Tri) (A1 A2 A3 : Option Addr) (c1 c2 c3 : Nat) (w : World) (r1 : RI w A1 t.a.digits.length t.a.digits) (r2 : RI w A2 t.b.digits.length t.b.digits) (r3 : RI w A3 t.s.digits.length t.s.digits) (hs : SmallTri t) (ht : TB w) :
    Calls Tryd.prog 14 #[.agg #[.int .i64 t.a.base, .slice A1 t.a.digits.length c1, .int .i64 t.b.base, .slice A2 t.b.digits.length c2, .int .i64 t.s.base, .slice A3 t.s.digits.length c3, .int .i64 t.carry]] w
      fun e w' => e = .returned (.string (ttext t)) ∧ Below w.heap.size w w' := by
  have hb0 : Below w.heap.size w ((w.alloc (.cells #[.int .i64 t.a.base, .slice A1 t.a.digits.length c1, .int .i64 t.b.base, .slice A2 t.b.digits.length c2, .int .i64 t.s.base, .slice A3 t.s.digits.length c3, .int .i64 t.carry] 43)).alloc (.cells #[.int .i64 t.a.base, .slice A1 t.a.digits.length c1, .int .i64 t.b.base, .slice A2 t.b.digits.length c2, .int .i64 t.s.base, .slice A3 t.s.digits.length c3, .int .i64 t.carry] 43)) := ((Below.refl _ _).alloc (Nat.le_refl _) _).alloc (by simp) _
  have hT := RL.one (g := w.heap.size + 1) (TriM.of_block (g := w.heap.size + 1) (t := t) (by rw [show w.heap.size + 1 = (w.alloc (.cells #[.int .i64 t.a.base, .slice A1 t.a.digits.length c1, .int .i64 t.b.base, .slice A2 t.b.digits.length c2, .int .i64 t.s.base, .slice A3 t.s.digits.length c3, .int .i64 t.carry] 43)).heap.size by simp]; exact heap_alloc_new _ _) (r1.below hb0) (r2.below hb0) (r3.below hb0)) (by simp)
  rcases hv : vtrials [t] with _ | _
  · have HF : Hid (ttext t = ⟨#[]⟩) := by simp [Hid, ttext, hv]
    go_enter Tryd.func14, Tryd.ntmps14
    go_wp2_with fail
    refine (ValidTrials_any _ _ _ [t] _ hT (by simpa using hs) (by omega)).mono ?_; rintro e w1 ⟨rfl, hw1⟩
    rw [hv]
    go_wp2_with fail
    go_ret
    exact ⟨ret_str HF.out.symm, hb0.trans (hw1.mono (by simp <;> omega))⟩
  · have HF : Hid (ttext t = ttextL t) := by simp [Hid, ttext, hv]
    obtain ⟨o1, o2, o3, y0, y1⟩ := vtrials_one hv
    have l1 := rtext_len t.a
    have l2 := rtext_len t.b
    have l3 := rtext_len t.s
    have l4 := dec_len t.carry (by omega) (by omega)
    go_enter Tryd.func14, Tryd.ntmps14
    go_wp2_with fail
    refine (ValidTrials_any _ _ _ [t] _ hT (by simpa using hs) (by omega)).mono ?_; rintro e w1 ⟨rfl, hw1⟩
    rw [hv]
    have hbw := hb0.trans (hw1.mono (by simp <;> omega))
    obtain ⟨hc, -⟩ := bcellB (B := w.heap.size + 1) (hw1.mono (by simp <;> omega))
    have x0 := cell_regrown (show w1.cell? ⟨w.heap.size, 0, none⟩ = some (.int .i64 t.a.base) by go_simp)
    have x1 := cell_regrown (show w1.cell? ⟨w.heap.size, 1, none⟩ = some (.slice A1 t.a.digits.length c1) by go_simp)
    have x2 := cell_regrown (show w1.cell? ⟨w.heap.size, 2, none⟩ = some (.int .i64 t.b.base) by go_simp)
    have x3 := cell_regrown (show w1.cell? ⟨w.heap.size, 3, none⟩ = some (.slice A2 t.b.digits.length c2) by go_simp)
    have x4 := cell_regrown (show w1.cell? ⟨w.heap.size, 4, none⟩ = some (.int .i64 t.s.base) by go_simp)
    have x5 := cell_regrown (show w1.cell? ⟨w.heap.size, 5, none⟩ = some (.slice A3 t.s.digits.length c3) by go_simp)
    have x6 := cell_regrown (show w1.cell? ⟨w.heap.size, 6, none⟩ = some (.int .i64 t.carry) by go_simp)
    have K1 := Lib.hid (fun (W : World) (hW : Below w1.heap.size w1 W) => RegisterText_reg t.a A1 c1 W ((r1.below hbw).below hW) hs.1 ((ht.below hbw).below hW))
    have K2 := Lib.hid (fun (W : World) (hW : Below w1.heap.size w1 W) => RegisterText_reg t.b A2 c2 W ((r2.below hbw).below hW) hs.2.1 ((ht.below hbw).below hW))
    have K3 := Lib.hid (fun (W : World) (hW : Below w1.heap.size w1 W) => RegisterText_reg t.s A3 c3 W ((r3.below hbw).below hW) hs.2.2 ((ht.below hbw).below hW))
    have K4 := Lib.hid (fun (W : World) (hW : Below w1.heap.size w1 W) => Decimal_any t.carry W (by omega) (by omega) ((ht.below hbw).below hW))
    clear hc hT
    go_wp2_with fail
    refine wp_region_quiet_below (by kernel_rfl) (by kernel_rfl) ?_
    repeat (go_big_quiet_step ((first | (go_at_call 47; first | (with_reducible exact quietB K1.out) | (with_reducible exact quietB K2.out) | (with_reducible exact quietB K3.out)) | (go_at_call 48; exact quietB K4.out))))
    refine wpQuiet_nil ?_
    intro _ hw'
    obtain ⟨⟨dq, osq⟩, hw''⟩ := hw'
    subst hw''
    go_wp2
    go_ret
    exact ⟨ret_str (by rw [HF.out]; rfl), hbw.trans ((below_regrown w1 dq osq).mono hbw.size)⟩
end Go.Proofs.YtgpmngcemnnpmaaDoor

namespace Go.Proofs.YtgpmngcemnnpmaaDoor
open Go.RowKit Go.Sort
theorem digs_len10 : ∀ (k u : Nat), u < 10 ^ k → (digs u).length ≤ k
  | 0, u, h => by
    have : u = 0 := by simpa using h
    subst this
    simp [digs]
  | k + 1, u, h => by
    by_cases h0 : u = 0
    · subst h0; simp [digs]
    · rw [digs_step u h0, List.length_append, List.length_cons, List.length_nil]
      have := digs_len10 k (u / 10) (by rw [Nat.pow_succ] at h; omega)
      omega
theorem pw10_nat (k : Nat) : pw 10 k = ((10 ^ k : Nat) : Int) := by
  induction k with
  | zero => rfl
  | succ k ih => rw [Nat.pow_succ]; show pw 10 k * 10 = _; rw [ih]; omega
theorem dec_len10 {x : Int} {k : Nat} (h0 : 0 ≤ x) (h : x < pw 10 k) (hk : 1 ≤ k) : (dec x).length ≤ k := by
  rw [dec_of]
  by_cases e : x = 0
  · rw [if_pos e]; exact hk
  · rw [if_neg e, if_neg (by omega)]
    exact digs_len10 k _ (by rw [pw10_nat] at h; omega)
theorem dec_pos (x : Int) : 1 ≤ (dec x).length := by
  rw [dec_of]
  by_cases e : x = 0
  · rw [if_pos e]; exact Nat.le_refl _
  · rw [if_neg e]
    by_cases e2 : x < 0
    · rw [if_pos e2]; simp
    · rw [if_neg e2, digs_step _ (by omega)]; simp
theorem lens_le (k : Nat) : ∀ (l : List (List UInt8)), (∀ x ∈ l, x.length ≤ k) → Lib.lens l ≤ k * l.length
  | [], _ => by simp [Lib.lens]
  | x :: l, h => by
    have h1 := lens_le k l (fun y hy => h y (List.mem_cons_of_mem _ hy))
    have h2 := h x (List.mem_cons_self ..)
    have e : Lib.lens (x :: l) = x.length + Lib.lens l := by simp [Lib.lens]
    rw [e, List.length_cons, Nat.mul_succ]
    omega
set_option maxRecDepth 100000 in
set_option maxHeartbeats 3200000 in
theorem EngineText_some (wd n : Nat) (A : Option Addr) (c : Nat) (cs : List Int) (w : World) (h1 : 1 ≤ wd) (h12 : wd ≤ 12) (n0 : 0 < n) (n9 : n ≤ 9) (hr : RI w A n cs) (hv : InM (pw 10 wd) n (fnL cs)) (ht : TB w) :
    Calls Tryd.prog 23 #[.agg #[.int .i64 (wd : Int), .slice A n c]] w fun e w' => ∃ T : ByteArray, e = .returned (.string T) ∧ 0 < T.size ∧ Below w.heap.size w w' := by
  have KV := Lib.hid (fun W (hW : Below w.heap.size w W) => ValidEngine_true wd n A c cs W h1 h12 n0 n9 (hr.below hW) hv)
  have HR := Lib.hid (fun W (hW : Below w.heap.size w W) => hr.below hW)
  have HTB := Lib.hid (fun W (hW : Below w.heap.size w W) => TB.below ht hW)
  have HV := Lib.hid hv
  have hM := pw10_bd h1 h12
  clear hr ht hv
  obtain ⟨g, hg⟩ : ∃ g, w.heap.size = g := ⟨_, rfl⟩
  have K0 := (Kn.nil w).al [.int .i64 (wd : Int), .slice A n c] 45
  simp only [World.size_alloc, hg] at K0
  go_enter Tryd.func23, Tryd.ntmps23
  go_upto_region 1 with fail
  try rw [hg]
  refine Code.wp.kn K0 ?_; clear K0 hg; intro w1 K1
  obtain ⟨e1, e2, e3, -⟩ := K1.cells
  go_upto_region 3 with (go_at_call 56; refine (KV.out _ K1.below).mono ?_; rintro e w2 ⟨rfl, hw⟩; have K2 := K1.keep hw; clear hw K1 e1 e2 e3)
  have K3 := (K2.al [] 9).litRow (size := 1) (n := 0) rfl (by decide)
  obtain ⟨h, hh⟩ : ∃ h, w2.heap.size = h := ⟨_, rfl⟩
  rw [hh] at K3
  go_upto_region 4 with fail
  try rw [hh]
  refine Code.wp.kn K3 ?_; clear K2 K3 hh; intro w3 K3
  have K4 : Kn w [rowS (.slice (some ⟨h, 0, none⟩) 0 0) [], .blk g [.int .i64 (wd : Int), .slice A n c] 45] w3 := K3
  clear K3
  obtain ⟨e1, e2, e3, -⟩ := K4.cells
  go_wp2_with fail
  go_loopw [3, 14] (fun oo kk wr => ∃ (k : Nat) (ss : List ByteArray), k ≤ n ∧ kk = .int .i64 (k : Int) ∧ Hid (ss.length = k ∧ ∀ s ∈ ss, 1 ≤ s.size ∧ s.size ≤ 40) ∧ Kn w [rowS oo ss, .blk g [.int .i64 (wd : Int), .slice A n c] 45] wr) (fun _ kk _ => n - (intOf kk).toNat)
  case atStart => exact ⟨0, [], Nat.zero_le _, rfl, ⟨rfl, fun s hs => nomatch hs⟩, K4⟩
  case round =>
    clear K4 e1 e2 e3
    obtain ⟨k, ss, hk, rfl, HS, KR⟩ := hrel
    obtain ⟨e1, e2, e3, -⟩ := KR.cells
    by_cases hk1 : k < n
    · have i1 : (k : Int) < (n : Int) := by omega
      have i0 : (0 : Int) ≤ (k : Int) := by omega
      obtain ⟨ad, hA, -, hkl, hcl⟩ := (HR.out _ KR.below).at_ hk1
      obtain ⟨x, hx⟩ : ∃ x, cs[k] = x := ⟨_, rfl⟩
      have hxb := HV.out k hk1
      have e : fnL cs k = x := by rw [← hx]; simp [fnL, List.getD, hkl]
      rw [e] at hxb
      rw [hx] at hcl
      have hdl := dec_len10 hxb.1 hxb.2 h1
      have hdp := dec_pos x
      have KD := (fun W (hW : Below w.heap.size w W) => Decimal_any x W (by omega) (by omega) (HTB.out _ hW))
      obtain ⟨D, hD⟩ : ∃ D : ByteArray, (⟨(dec x).toArray⟩ : ByteArray) = D := ⟨_, rfl⟩
      have hds : D.size = (dec x).length := by rw [← hD]; simp [ByteArray.size]
      rw [hD] at KD
      replace KD := Lib.hid KD
      obtain ⟨q, hq⟩ : ∃ q : Nat, wd - D.size = q := ⟨_, rfl⟩
      have hq1 : IntKind.i64.wrap ((wd : Int) - (D.size : Int)) = (q : Int) := by rw [wrapI64 (by omega)]; omega
      have hq2 : (wd : Int) - (D.size : Int) = (q : Int) := by omega
      have KQ := Lib.hid (fun W => repeat_ok (⟨#[48]⟩ : ByteArray) q W rfl (by omega))
      have HD := Lib.hid (show 1 ≤ D.size ∧ D.size ≤ 20 by omega)
      have hq40 : q ≤ 12 := by omega
      have HL := Lib.hid (show ss.length ≤ 10000000 by have := HS.out.1; omega)
      subst hA
      clear hx e hkl hxb hdl hdp hD hds hq
      go_upto_region 8 with (go_at_call 48; refine (KD.out _ KR.below).mono ?_; rintro e w5 ⟨rfl, hw⟩; have K5 := KR.keep hw; clear hw KR e1 e2 e3 hcl)
      obtain ⟨e1, e2, e3, -⟩ := K5.cells
      go_wp2_with (first
        | (go_at_call 60; refine (KQ.out _).mono ?_; rintro e w6 ⟨T, rfl, hT, hw⟩; have hcat : ¬ 9223372036854775807 < T.size + D.size := by { have := HD.out; omega }; have K6 := K5.keep hw; clear hw K5 e1 e2 e3)
        | (at_builtin; refine kn_pushS rfl _ _ rfl _ ss rfl rfl (K6.al [.string (T ++ D)] 9) HL.out ?_; intro v' w7 K7))
      have hz : (T ++ D).size = q + D.size := by rw [ByteArray.size_append, hT]
      have HZ : Hid ((ss ++ [T ++ D]).length = k + 1 ∧ ∀ s ∈ ss ++ [T ++ D], 1 ≤ s.size ∧ s.size ≤ 40) := by
        refine ⟨by rw [List.length_append, HS.out.1]; rfl, fun s hs => ?_⟩
        rcases List.mem_append.1 hs with hs | hs
        · exact HS.out.2 s hs
        · rw [List.mem_singleton.1 hs, hz]
          have := HD.out
          omega
      clear hz hcat hT
      go_roundw
      case rel => exact ⟨k + 1, ss ++ [T ++ D], by omega, by go_num, HZ, K7⟩
      case measure => simp [intOf] <;> omega
    · have i1 : ¬ (k : Int) < (n : Int) := by omega
      obtain rfl : k = n := by omega
      obtain ⟨hl, hsz⟩ := HS.out
      have hK := KR
      unfold rowS at hK
      rw [hl] at hK
      obtain ⟨gb, cb, hv⟩ := hK.rowForm n0
      subst hv
      have hown : wr.ownsRow 0 9 1 (.slice (some ⟨gb, 0, none⟩) k cb) k (ss.map Value.string) := hK.at0
      have hcap : k ≤ cb := by
        rcases hown.2 with ⟨hn, -⟩ | ⟨g', cap, cur, hv, -, hg, hnc, -⟩
        · cases hn
        · injection hv with e1 e2 e3
          omega
      have hlt := (hown.lt gb rfl).2
      have hcells : ∀ (j : Nat) x, ss[j]? = some x → wr.cell? ⟨gb, 0 + j, none⟩ = some (.string x) := fun j x hx => by
        have h := hown.cells (g := gb) rfl j (.string x) (by rw [List.getElem?_map, hx]; rfl)
        rw [add_zero_block] at h
        rw [Nat.zero_add]; exact h
      obtain ⟨s0, rest, hss⟩ : ∃ s0 r, ss = s0 :: r := by
        cases ss with
        | nil => rw [← hl] at n0; simp at n0
        | cons x r => exact ⟨x, r, rfl⟩
      have hjl := Lib.join_length s0.data.toList (rest.map (·.data.toList)) [32]
      have hle := lens_le 40 ((s0 :: rest).map (·.data.toList)) (fun x hx => by
        obtain ⟨y, hy, rfl⟩ := List.mem_map.1 hx
        have := (hsz y (by rw [hss]; exact hy)).2
        rw [Array.length_toList]; exact this)
      have h1l : 1 ≤ Lib.lens ((s0 :: rest).map (·.data.toList)) := by
        have := (hsz s0 (by rw [hss]; exact List.mem_cons_self ..)).1
        have e : Lib.lens ((s0 :: rest).map (·.data.toList)) = s0.data.toList.length + Lib.lens (rest.map (·.data.toList)) := by simp [Lib.lens]
        rw [e, Array.length_toList]
        have : s0.data.size = s0.size := rfl
        omega
      have hrl : rest.length + 1 = k := by rw [← hl, hss]; rfl
      have hmm : (s0 :: rest).map (·.data.toList) = s0.data.toList :: rest.map (·.data.toList) := rfl
      rw [List.length_map, List.length_cons] at hle
      rw [hmm] at hle h1l
      rw [List.length_map, List.length_singleton] at hjl
      have hJ : (Lib.join (ss.map (·.data.toList)) (⟨#[32]⟩ : ByteArray).data.toList).length ≤ 140737488355328 ∧ 0 < (Lib.join (ss.map (·.data.toList)) (⟨#[32]⟩ : ByteArray).data.toList).length := by
        rw [hss]
        show (Lib.join (s0.data.toList :: rest.map (·.data.toList)) [32]).length ≤ _ ∧ 0 < (Lib.join (s0.data.toList :: rest.map (·.data.toList)) [32]).length
        rw [hjl]
        omega
      have KJ := Tryd.strings_Join gb 0 cb ss ⟨#[32]⟩ wr hcells hlt (by omega) (by omega) hJ.1
      rw [hl] at KJ
      replace KJ := Lib.hid KJ
      have HJ := Lib.hid hJ.2
      have HB := Lib.hid KR.below
      clear hown hcap hlt hcells hss hjl hle h1l hrl hmm hJ hsz hl hK KR HS s0 rest
      go_wp2_with (go_at_call 61; refine KJ.out.mono ?_; rintro e w9 ⟨rfl, hw⟩)
      go_ret
      exact ⟨_, rfl, by simpa [ByteArray.size] using HJ.out, HB.out.trans (hw.mono HB.out.size)⟩
end Go.Proofs.YtgpmngcemnnpmaaDoor

namespace Go.Proofs.YtgpmngcemnnpmaaDoor
open Go.RowKit Go.Sort
theorem a2LongE_any (A : Option Addr) (n c : Nat) (w : World) (hn : n ≤ 9223372036854775807) :
    Calls Tryd.prog 6 #[.slice A n c, .slice none 0 0] w fun e w' => e = .returned (.bool (decide (3000 < n))) ∧ w = w' := by
  by_cases h : 3000 < n
  · have h1 : (3000 : Int) < (n : Int) := by omega
    have HF : Hid (decide (3000 < n) = true) := by simp [Hid, h]
    have hd : decide ((3000 : Int) < (n : Int)) = true := decide_eq_true h1
    go_enter Tryd.func6, Tryd.ntmps6
    go_wp2
    go_ret
    exact ⟨by first | exact ret_bool HF.out.symm | rfl, rfl⟩
  · have h1 : ¬ (3000 : Int) < (n : Int) := by omega
    have HF : Hid (decide (3000 < n) = false) := by simp [Hid, h]
    have hd : decide ((3000 : Int) < (n : Int)) = false := decide_eq_false h1
    have hd2 : decide (3000 < n) = false := decide_eq_false h
    go_enter Tryd.func6, Tryd.ntmps6
    go_wp2
    go_ret
    exact ⟨by first | exact ret_bool HF.out.symm | rfl, rfl⟩
set_option maxHeartbeats 1600000 in
theorem a2Same_true (A B : Option Addr) (n c d : Nat) (ds : List Int) (w : World) (hr : RI w A n ds) (hs : RI w B n ds) (hn : n ≤ 1000) :
    Calls Tryd.prog 19 #[.slice A n c, .slice B n d] w fun e w' => e = .returned (.bool true) ∧ Below w.heap.size w w' := by
  have HR := Lib.hid (fun W (hW : Below w.heap.size w W) => hr.below hW)
  have HS := Lib.hid (fun W (hW : Below w.heap.size w W) => hs.below hW)
  clear hr hs
  have K0 := Kn.nil w
  go_enter Tryd.func19, Tryd.ntmps19
  go_wp2_with fail
  go_loopw [5] (fun kk wr => ∃ k : Nat, k ≤ n ∧ kk = .int .i64 (k : Int) ∧ Kn w [] wr) (fun kk _ => n - (intOf kk).toNat)
  case atStart => exact ⟨0, Nat.zero_le _, rfl, K0⟩
  case round =>
    clear K0
    obtain ⟨k, hk, rfl, K⟩ := hrel
    by_cases hk1 : k < n
    · have i1 : (k : Int) < (n : Int) := by omega
      have i0 : (0 : Int) ≤ (k : Int) := by omega
      obtain ⟨ad, hA, -, hkl, hcl⟩ := (HR.out _ K.below).at_ hk1
      obtain ⟨be, hB, -, hkl2, hcl2⟩ := (HS.out _ K.below).at_ hk1
      obtain ⟨x, hx⟩ : ∃ x, ds[k] = x := ⟨_, rfl⟩
      rw [hx] at hcl hcl2
      have hne : (x != x) = false := bne_self_eq_false x
      subst hA hB
      clear hx hkl hkl2
      go_upto_region 6 with fail
      go_quiet (fail)
      go_wp2_with fail
      go_roundw
      case rel => exact ⟨k + 1, by omega, by go_num, K.drewN _⟩
      case measure => simp [intOf] <;> omega
    · have i1 : ¬ (k : Int) < (n : Int) := by omega
      go_wp2_with fail
      go_ret
      exact ⟨rfl, K.below⟩
/-- a row of the call's own, read from its second place -/
theorem Kn.riTail {w0 w : World} {m : List Ent} {g n c : Nat} {ds : List Int} (h : Kn w0 (rowNN (some ⟨g, 0, none⟩) (n + 1) c ds :: m) w) (hl : ds.length = n + 1) : RI w (some ⟨g, 1, none⟩) n ds.tail := by
  have h0 : w.ownsRow 0 2 1 (.slice (some ⟨g, 0, none⟩) (n + 1) c) (n + 1) (ds.map (Value.int .i64)) := h.at0
  refine ⟨by rw [List.length_tail, hl]; rfl, fun _ => ⟨_, rfl, (h0.lt g rfl).2, fun j x hx => ?_⟩⟩
  have h1 := h0.cells (g := g) rfl (j + 1) (.int .i64 x) (by rw [List.getElem?_map]; rw [List.getElem?_tail] at hx; rw [hx]; rfl)
  rw [add_zero_block] at h1
  show w.cell? (Addr.add ⟨g, 1, none⟩ j) = _
  by_cases hj : j = 0
  · subst hj; exact h1
  · rw [show Addr.add (⟨g, 1, none⟩ : Addr) j = ⟨g, j + 1, none⟩ by unfold Addr.add; rw [Nat.add_comm]; simp [hj]]
    exact h1
theorem Kn.capNN {w0 w : World} {m : List Ent} {g n c : Nat} {ds : List Int} (h : Kn w0 (rowNN (some ⟨g, 0, none⟩) n c ds :: m) w) : n ≤ c := by
  have hown : w.ownsRow 0 2 1 (.slice (some ⟨g, 0, none⟩) n c) n (ds.map (Value.int .i64)) := h.at0
  rcases hown.2 with ⟨hn, -⟩ | ⟨g', cap, cur, hv, -, hg, hnc, -⟩
  · cases hn
  · injection hv with e1 e2 e3
    omega
set_option maxRecDepth 100000 in
set_option maxHeartbeats 12800000 in
theorem law_Engines (A0 : Option Addr) (n1 c0 : Nat) (bs : List UInt8) (w : World) (hb : RB w A0 n1 bs) (hn : n1 ≤ 9223372036854775807) (ht : TB w) :
    Calls Tryd.prog 4 #[.slice A0 n1 c0] w fun e w' => e = .returned (.bool true) ∧ Below w.heap.size w w' := by
  have KF := Lib.hid (A2Engine_any A0 n1 c0 bs w hb hn)
  have HTB := Lib.hid (fun W (hW : Below w.heap.size w W) => TB.below ht hW)
  clear hb ht
  have KG := (fun W => a2LongE_any A0 n1 c0 W hn)
  obtain ⟨bg, hbg⟩ : ∃ b, decide (3000 < n1) = b := ⟨_, rfl⟩
  rw [hbg] at KG
  replace KG := Lib.hid KG
  clear hbg
  rcases bg with _ | _
  rotate_left
  · go_enter Tryd.func4, Tryd.ntmps4
    go_wp2_with (go_at_call 6; refine (KG.out _).mono ?_; rintro e w' ⟨rfl, rfl⟩)
    go_ret
    exact ⟨rfl, Below.refl _ _⟩
  go_enter Tryd.func4, Tryd.ntmps4
  go_upto_region 4 with (first
    | (go_at_call 6; refine (KG.out _).mono ?_; rintro e w' ⟨rfl, rfl⟩)
    | (go_at_call 15; refine KF.out.mono ?_; rintro e w1 ⟨wd, n, A, c, cs, rfl, hwd, hn7, hl, hi, K1⟩))
  have HI := Lib.hid hi
  have hM := pw10_bd hwd.1 (show wd ≤ 12 by omega)
  have hM0 : 0 < pw 10 wd := by omega
  -- what the engines show
  obtain ⟨nx, hnx⟩ : ∃ l, (List.range n).map (cyF (pw 10 wd) n (fnL cs)) = l := ⟨_, rfl⟩
  obtain ⟨px, hpx⟩ : ∃ l, (List.range n).map (prF (pw 10 wd) n (fnL cs)) = l := ⟨_, rfl⟩
  obtain ⟨py, hpy⟩ : ∃ l, (List.range n).map (haF (pw 10 wd) n 1 (fnL px)) = l := ⟨_, rfl⟩
  obtain ⟨lt, hlt⟩ : ∃ l, (List.range n).map (prF (pw 10 wd) n (fnL nx)) = l := ⟨_, rfl⟩
  obtain ⟨rs, hrs⟩ : ∃ l, resL (cyF (pw 10 wd) n) (fnL cs) 15 = l := ⟨_, rfl⟩
  have fnx : ∀ i, i < n → fnL nx i = cyF (pw 10 wd) n (fnL cs) i := fun i hi => by rw [← hnx]; exact fnL_map n _ hi
  have fpx : ∀ i, i < n → fnL px i = prF (pw 10 wd) n (fnL cs) i := fun i hi => by rw [← hpx]; exact fnL_map n _ hi
  have fpy : ∀ i, i < n → fnL py i = haF (pw 10 wd) n 1 (fnL px) i := fun i hi => by rw [← hpy]; exact fnL_map n _ hi
  have HIN := Lib.hid ((hi.cy hM0).congr fnx)
  have HIX := Lib.hid ((hi.pr hM0).congr fpx)
  have HIY := Lib.hid ((HIX.out.ha hM0 1).congr fpy)
  have EB := Lib.hid (show (List.range n).map (bkF (pw 10 wd) n (fnL nx)) = cs by
    have h : (List.range n).map (bkF (pw 10 wd) n (fnL nx)) = (List.range n).map (fnL cs) := List.map_congr_left fun i hi' => by
      rw [bkF_congr fnx i (List.mem_range.1 hi')]
      exact bk_cy hi i (List.mem_range.1 hi')
    rw [h, ← hl.out, map_fnL])
  have EZ := Lib.hid (show (List.range n).map (haF (pw 10 wd) n 2 (fnL py)) = lt by
    rw [← hlt]
    exact List.map_congr_left fun i hi' => by
      have hi2 := List.mem_range.1 hi'
      rw [haF_congr (fun k hk => fpy k hk) i hi2, haF_congr (fun k hk => haF_congr fpx k hk) i hi2, halves hi hM0 i hi2]
      exact (prF_congr fnx i hi2).symm)
  have ER := Lib.hid (show resL (cyF (pw 10 wd) n) (fnL nx) 14 = rs.tail by
    rw [resL_congr (show 0 < n by omega) fnx 14, ← hrs, resL_tail])
  have LN := Lib.hid (show nx.length = n by rw [← hnx]; simp)
  have LX := Lib.hid (show px.length = n by rw [← hpx]; simp)
  have LY := Lib.hid (show py.length = n by rw [← hpy]; simp)
  have LT := Lib.hid (show lt.length = n by rw [← hlt]; simp)
  have LR := Lib.hid (show rs.length = 15 by rw [← hrs]; exact resL_len ..)
  have HNX := Lib.hid hnx
  have HPX := Lib.hid hpx
  have HPY := Lib.hid hpy
  have HLT := Lib.hid hlt
  have HRS := Lib.hid hrs
  have HW := Lib.hid hwd
  have HN := Lib.hid hn7
  have p1 : 1 ≤ wd := hwd.1
  have p2 : wd ≤ 12 := by omega
  have p3 : 0 < n := by omega
  have p4 : n ≤ 9 := by omega
  clear hnx hpx hpy hlt hrs fnx fpx fpy hi hM hM0 hwd hn7 KF
  obtain ⟨g3, hg⟩ : ∃ g, w1.heap.size = g := ⟨_, rfl⟩
  have K2 := K1.al [.int .i64 (wd : Int), .slice A n c] 45
  rw [hg] at K2
  try rw [hg]
  refine Code.wp.kn K2 ?_; clear K1 K2 hg; intro w2 K2
  obtain ⟨e1, e2, e3, -⟩ := K2.cells
  go_upto_region 5 with (go_at_call 16; refine (RunEngine_ok wd n 15 A c cs _ p1 p2 p3 p4 (by decide) ((K2.front 1 rfl).rivNN hl.out) HI.out).mono ?_; rintro e w3 ⟨Ra, ac, rfl, hK⟩; rw [HRS.out] at hK; have K3 := K2.join hK; clear hK K2 e1 e2 e3)
  obtain ⟨ga, ac', hE⟩ := Kn.rowForm (show Kn w (.row (.slice Ra 15 ac) 2 1 15 (rs.map (Value.int .i64)) :: _) w3 from K3) (by decide)
  injection hE with z1 z2 z3
  subst z1 z3
  clear z2
  obtain ⟨e1, e2, e3, -⟩ := K3.cells
  go_upto_region 6 with (go_at_call 17; refine (RunHalves_ok wd n 15 A c cs _ p1 p2 p3 p4 (by decide) ((K3.front 2 rfl).rivNN hl.out) HI.out).mono ?_; rintro e w4 ⟨Rb, bc, rfl, hK⟩; rw [HRS.out] at hK; have K4 := K3.join hK; clear hK K3 e1 e2 e3)
  obtain ⟨e1, e2, e3, -⟩ := K4.cells
  go_upto_region 7 with (go_at_call 18; refine (CycleEngine_ok wd n A c cs _ p1 p2 p3 p4 ((K4.front 3 rfl).rivNN hl.out) HI.out).mono ?_; rintro e w5 ⟨gn, nc, rfl, hK⟩; rw [HNX.out] at hK; have K5 := (K4.join hK).al [.int .i64 (wd : Int), .slice (some ⟨gn, 0, none⟩) n nc] 45; clear hK K4 e1 e2 e3)
  obtain ⟨g8, hg⟩ : ∃ g, w5.heap.size = g := ⟨_, rfl⟩
  rw [hg] at K5
  try rw [hg]
  refine Code.wp.kn K5 ?_; clear K5 hg; intro w6 K5
  have K6 : Kn w [.blk g8 [.int .i64 (wd : Int), .slice (some ⟨gn, 0, none⟩) n nc] 45, rowNN (some ⟨gn, 0, none⟩) n nc nx, rowNN Rb 15 bc rs, rowNN (some ⟨ga, 0, none⟩) 15 ac rs, .blk g3 [.int .i64 (wd : Int), .slice A n c] 45, rowNN A n c cs] w6 := K5
  clear K5
  obtain ⟨n1', n2', n3', e1, e2, e3, -⟩ := K6.cells
  go_upto_region 9 with (first
    | (go_at_call 19; refine (a2Same_true _ Rb 15 ac bc rs _ ((K6.front 3 rfl).rivNN LR.out) ((K6.front 2 rfl).rivNN LR.out) (by decide)).mono ?_; rintro e w7 ⟨rfl, hw⟩; have K7 := K6.keep hw; clear hw K6 n1' n2' n3' e1 e2 e3; obtain ⟨n1', n2', n3', e1, e2, e3, -⟩ := K7.cells)
    | (go_at_call 20; refine (specValidEngine_true wd n _ nc nx _ p1 p2 p3 p4 ((K7.front 1 rfl).rivNN LN.out) HIN.out).mono ?_; rintro e w8 ⟨rfl, hw⟩; have K8 := K7.keep hw; clear hw K7 n1' n2' n3' e1 e2 e3; obtain ⟨n1', n2', n3', e1, e2, e3, -⟩ := K8.cells))
  go_upto_region 10 with (go_at_call 21; refine (BackCycle_ok wd n _ nc nx _ p1 p2 p3 p4 ((K8.front 1 rfl).rivNN LN.out) HIN.out).mono ?_; rintro e w9 ⟨gb, bb, rfl, hK⟩; rw [EB.out] at hK; have K9 := (K8.join hK).al [.int .i64 (wd : Int), .slice (some ⟨gb, 0, none⟩) n bb] 45; clear hK K8 n1' n2' n3' e1 e2 e3)
  obtain ⟨g10, hg⟩ : ∃ g, w9.heap.size = g := ⟨_, rfl⟩
  rw [hg] at K9
  try rw [hg]
  refine Code.wp.kn K9 ?_; clear K9 hg; intro w10 K9
  have K10 : Kn w [.blk g10 [.int .i64 (wd : Int), .slice (some ⟨gb, 0, none⟩) n bb] 45, rowNN (some ⟨gb, 0, none⟩) n bb cs, .blk g8 [.int .i64 (wd : Int), .slice (some ⟨gn, 0, none⟩) n nc] 45, rowNN (some ⟨gn, 0, none⟩) n nc nx, rowNN (some ⟨ga, 0, none⟩) 15 ac rs, .blk g3 [.int .i64 (wd : Int), .slice A n c] 45, rowNN A n c cs] w10 := K9.sel [0, 1, 2, 3, 5, 6, 7] 99 (by decide) (by decide)
  clear K9
  obtain ⟨b1, b2, b3, n1', n2', n3', e1, e2, e3, -⟩ := K10.cells
  go_upto_region 11 with (go_at_call 16; refine (RunEngine_ok wd n 14 _ nc nx _ p1 p2 p3 p4 (by decide) ((K10.front 3 rfl).rivNN LN.out) HIN.out).mono ?_; rintro e w11 ⟨Rc, cc, rfl, hK⟩; rw [ER.out] at hK; have K11 := K10.join hK; clear hK K10 b1 b2 b3 n1' n2' n3' e1 e2 e3; obtain ⟨b1, b2, b3, n1', n2', n3', e1, e2, e3, -⟩ := K11.cells)
  have hac := (K11.front 5 rfl).capNN
  have LTL := Lib.hid (show rs.tail.length = 14 by rw [List.length_tail, LR.out])
  go_upto_region 13 with (first
    | (go_at_call 22; refine (SameEngine_true wd n _ A bb c cs _ p4 ((K11.front 2 rfl).rivNN hl.out) ((K11.front 7 rfl).rivNN hl.out)).mono ?_; rintro e w12 ⟨rfl, hw⟩; have K12 := K11.keep hw; clear hw K11 b1 b2 b3 n1' n2' n3' e1 e2 e3; obtain ⟨b1, b2, b3, n1', n2', n3', e1, e2, e3, -⟩ := K12.cells)
    | (go_at_call 19; refine (a2Same_true Rc _ 14 cc _ rs.tail _ ((K12.front 0 rfl).rivNN LTL.out) ((K12.front 5 rfl).riTail LR.out) (by decide)).mono ?_; rintro e w13 ⟨rfl, hw⟩; have K13 := K12.keep hw; clear hw K12 b1 b2 b3 n1' n2' n3' e1 e2 e3; obtain ⟨b1, b2, b3, n1', n2', n3', e1, e2, e3, -⟩ := K13.cells)
    | (go_at_call 23; refine (EngineText_some wd n A c cs _ p1 p2 p3 p4 ((K13.front 7 rfl).rivNN hl.out) HI.out (HTB.out _ K13.below)).mono ?_; rintro e w14 ⟨T, rfl, hT, hw⟩; have K14 := K13.keep hw; have hne : T.toList.isEmpty = false := str_nonempty hT; clear hw K13 b1 b2 b3 n1' n2' n3' e1 e2 e3))
  clear hne hT hac
  have K15 : Kn w [.blk g8 [.int .i64 (wd : Int), .slice (some ⟨gn, 0, none⟩) n nc] 45, rowNN (some ⟨gn, 0, none⟩) n nc nx, .blk g3 [.int .i64 (wd : Int), .slice A n c] 45, rowNN A n c cs] w14 := K14.sel [3, 4, 6, 7] 99 (by decide) (by decide)
  clear K14
  obtain ⟨n1', n2', n3', e1, e2, e3, -⟩ := K15.cells
  go_upto_region 14 with (go_at_call 24; refine (PrepareHalves_ok wd n A c cs _ p1 p2 p3 p4 ((K15.front 3 rfl).rivNN hl.out) HI.out).mono ?_; rintro e w15 ⟨gx, xc, rfl, hK⟩; rw [HPX.out] at hK; have K16 := (K15.join hK).al [.int .i64 (wd : Int), .slice (some ⟨gx, 0, none⟩) n xc] 45; clear hK K15 n1' n2' n3' e1 e2 e3)
  obtain ⟨g14, hg⟩ : ∃ g, w15.heap.size = g := ⟨_, rfl⟩
  rw [hg] at K16
  try rw [hg]
  refine Code.wp.kn K16 ?_; clear K16 hg; intro w16 K16
  obtain ⟨x1, x2, x3, -⟩ := K16.cells
  go_upto_region 16 with (go_at_call 20; refine (specValidEngine_true wd n _ xc px _ p1 p2 p3 p4 ((K16.front 1 rfl).rivNN LX.out) HIX.out).mono ?_; rintro e w17 ⟨rfl, hw⟩; have K17 := K16.keep hw; clear hw K16 x1 x2 x3; obtain ⟨x1, x2, x3, -⟩ := K17.cells)
  go_upto_region 17 with (go_at_call 25; refine (HalfOdd_ok wd n _ xc px _ p1 p2 p3 p4 ((K17.front 1 rfl).rivNN LX.out) HIX.out).mono ?_; rintro e w18 ⟨gy, yc, rfl, hK⟩; rw [HPY.out] at hK; have K18 := (K17.join hK).al [.int .i64 (wd : Int), .slice (some ⟨gy, 0, none⟩) n yc] 45; clear hK K17 x1 x2 x3)
  obtain ⟨g16, hg⟩ : ∃ g, w18.heap.size = g := ⟨_, rfl⟩
  rw [hg] at K18
  try rw [hg]
  refine Code.wp.kn K18 ?_; clear K18 hg; intro w19 K19
  obtain ⟨x1, x2, x3, -⟩ := K19.cells
  go_upto_region 19 with (go_at_call 20; refine (specValidEngine_true wd n _ yc py _ p1 p2 p3 p4 ((K19.front 1 rfl).rivNN LY.out) HIY.out).mono ?_; rintro e w20 ⟨rfl, hw⟩; have K20 := K19.keep hw; clear hw K19 x1 x2 x3; obtain ⟨x1, x2, x3, -⟩ := K20.cells)
  go_upto_region 20 with (go_at_call 25; refine (HalfEven_ok wd n _ yc py _ p1 p2 p3 p4 ((K20.front 1 rfl).rivNN LY.out) HIY.out).mono ?_; rintro e w21 ⟨gz, zc, rfl, hK⟩; rw [EZ.out] at hK; have K21 := (K20.join hK).al [.int .i64 (wd : Int), .slice (some ⟨gz, 0, none⟩) n zc] 45; clear hK K20 x1 x2 x3)
  obtain ⟨g18, hg⟩ : ∃ g, w21.heap.size = g := ⟨_, rfl⟩
  rw [hg] at K21
  try rw [hg]
  refine Code.wp.kn K21 ?_; clear K21 hg; intro w22 K22
  have K23 : Kn w [.blk g18 [.int .i64 (wd : Int), .slice (some ⟨gz, 0, none⟩) n zc] 45, rowNN (some ⟨gz, 0, none⟩) n zc lt, .blk g8 [.int .i64 (wd : Int), .slice (some ⟨gn, 0, none⟩) n nc] 45, rowNN (some ⟨gn, 0, none⟩) n nc nx, .blk g3 [.int .i64 (wd : Int), .slice A n c] 45, rowNN A n c cs] w22 := K22.sel [0, 1, 6, 7, 8, 9] 99 (by decide) (by decide)
  clear K22
  obtain ⟨z1, z2, z3, n1', n2', n3', e1, e2, e3, -⟩ := K23.cells
  go_upto_region 21 with (go_at_call 26; refine (specPrepareHalves_ok wd n _ nc nx _ p1 p2 p3 p4 ((K23.front 3 rfl).rivNN LN.out) HIN.out).mono ?_; rintro e w23 ⟨gl, lc, rfl, hK⟩; rw [HLT.out] at hK; have K24 := (K23.join hK).al [.int .i64 (wd : Int), .slice (some ⟨gl, 0, none⟩) n lc] 45; clear hK K23 z1 z2 z3 n1' n2' n3' e1 e2 e3)
  obtain ⟨g20, hg⟩ : ∃ g, w23.heap.size = g := ⟨_, rfl⟩
  rw [hg] at K24
  try rw [hg]
  refine Code.wp.kn K24 ?_; clear K24 hg; intro w24 K24
  have K25 : Kn w [.blk g20 [.int .i64 (wd : Int), .slice (some ⟨gl, 0, none⟩) n lc] 45, rowNN (some ⟨gl, 0, none⟩) n lc lt, .blk g18 [.int .i64 (wd : Int), .slice (some ⟨gz, 0, none⟩) n zc] 45, rowNN (some ⟨gz, 0, none⟩) n zc lt, .blk g3 [.int .i64 (wd : Int), .slice A n c] 45, rowNN A n c cs] w24 := K24.sel [0, 1, 2, 3, 6, 7] 99 (by decide) (by decide)
  clear K24
  obtain ⟨l1, l2, l3, z1, z2, z3, e1, e2, e3, -⟩ := K25.cells
  go_upto_region 22 with (go_at_call 27; refine (EngineCarries_ok wd n A c cs _ p1 p2 p3 p4 ((K25.front 5 rfl).rivNN hl.out) HI.out).mono ?_; rintro e w25 ⟨⟨s, rfl, s0, s1⟩, hw⟩; have K26 := K25.keep hw; clear hw K25 l1 l2 l3 z1 z2 z3 e1 e2 e3; obtain ⟨l1, l2, l3, z1, z2, z3, e1, e2, e3, -⟩ := K26.cells)
  obtain ⟨q1, hq1⟩ : ∃ q : Nat, n - 1 = q := ⟨_, rfl⟩
  obtain ⟨q2, hq2⟩ : ∃ q : Nat, wd - 1 = q := ⟨_, rfl⟩
  have hqq : q1 * q2 ≤ 99 := by
    have := Nat.mul_le_mul (show q1 ≤ 9 by omega) (show q2 ≤ 11 by omega)
    omega
  rw [hq1, hq2, Int.natCast_mul] at s1
  have v1 : IntKind.i64.wrap ((n : Int) - 1) = (q1 : Int) := by rw [wrapI64 (by omega)]; omega
  have v2 : (n : Int) - 1 = (q1 : Int) := by omega
  have v3 : IntKind.i64.wrap ((wd : Int) - 1) = (q2 : Int) := by rw [wrapI64 (by omega)]; omega
  have v4 : (wd : Int) - 1 = (q2 : Int) := by omega
  have hqi : (q1 : Int) * (q2 : Int) = ((q1 * q2 : Nat) : Int) := (Int.natCast_mul _ _).symm
  have v5 : IntKind.i64.wrap ((q1 : Int) * (q2 : Int)) = (q1 : Int) * (q2 : Int) := by rw [hqi]; exact wrapI64 (by omega)
  have v6 : IntKind.i64.wrap (q1 : Int) = (q1 : Int) := wrapI64 (by omega)
  have d1 : decide (s ≤ (q1 : Int) * (q2 : Int)) = true := decide_eq_true s1
  have d2 : decide (0 ≤ s) = true := decide_eq_true s0
  clear hq1 hq2 hqq hqi

  go_wp2_with (go_at_call 22; refine (SameEngine_true wd n _ _ zc lc lt _ p4 ((K26.front 3 rfl).rivNN LT.out) ((K26.front 1 rfl).rivNN LT.out)).mono ?_; rintro e w26 ⟨rfl, hw⟩; have K27 := K26.keep hw; clear hw K26 l1 l2 l3 z1 z2 z3 e1 e2 e3; obtain ⟨l1, l2, l3, z1, z2, z3, e1, e2, e3, -⟩ := K27.cells)
  go_ret
  exact ⟨rfl, K27.below⟩
end Go.Proofs.YtgpmngcemnnpmaaDoor

namespace Go.Proofs.YtgpmngcemnnpmaaDoor
open Go.RowKit Go.ChangeShapes Go.WideShapes Go.ChangeAt
theorem laid_tail {P : Program} {W : World} {x : String × DataW Unit} {rest : List (String × DataW Unit)} (h : laidMet P (x :: rest) W) : laidMet P rest W := by
  obtain ⟨ps, ⟨g, t, cs, fuel, p, q, h1, h2, h3, h4, h5, rfl⟩, hn, hr⟩ := h
  exact ⟨q, h5, (List.nodup_append.1 hn).2.1, fun b off hb => hr b off (List.mem_append_right _ hb)⟩
theorem cellsU64 : Tryd.prog.cellsOf 110 = 1 := by kernel_rfl
theorem cellsTab : Tryd.prog.cellsOf 186 = 20 := by kernel_rfl
theorem gTab : Tryd.prog.globalNamed "internal/strconv.uint64pow10" = some 0 := by kernel_rfl
theorem gTabType : (Tryd.prog.globals[0]?).map (·.type) = some 186 := by kernel_rfl
theorem tb_of_laid {W : World} (h : laidMetH Tryd.prog [("math/bits.deBruijn32tab", Rows.laid_math_bits_deBruijn32tab), ("math/bits.deBruijn64tab", Rows.laid_math_bits_deBruijn64tab), ("internal/strconv.uint64pow10", Rows.laid_internal_strconv_uint64pow10)] W) : TB W := by
  have h1 : laidMet Tryd.prog [("math/bits.deBruijn32tab", Rows.laid_math_bits_deBruijn32tab), ("math/bits.deBruijn64tab", Rows.laid_math_bits_deBruijn64tab), ("internal/strconv.uint64pow10", Rows.laid_internal_strconv_uint64pow10)] W := h
  exact Lib.tabIs_of_head (rest := []) gTab gTabType Tryd.underlying186 Tryd.underlying110 cellsU64 cellsTab (laid_tail (laid_tail h1))
def tabCells (l : DataW Unit) (k : IntKind) : Array Value := match l with
  | .agg ds => (ds.map fun d => match d with | .lit (.int _ n) => Value.int k n | _ => .int k 0).toArray
  | _ => #[]
def setTab (cs : Array Value) (o : Obj) : Obj := match o with
  | .cells _ t frozen => .cells cs t frozen
  | o => o
noncomputable def laidWorld (os : Os) : World :=
  { World.holding Tryd.prog os ⟨#[], #[], []⟩ with heap := (((World.holding Tryd.prog os ⟨#[], #[], []⟩).heap.modify 0 (setTab (tabCells Rows.laid_internal_strconv_uint64pow10 .u64))).modify 2 (setTab (tabCells Rows.laid_math_bits_deBruijn32tab .u8))).modify 3 (setTab (tabCells Rows.laid_math_bits_deBruijn64tab .u8)) }
theorem laid_met (os : Os) (args : Array Value) : laidMet Tryd.prog [("math/bits.deBruijn32tab", Rows.laid_math_bits_deBruijn32tab), ("math/bits.deBruijn64tab", Rows.laid_math_bits_deBruijn64tab), ("internal/strconv.uint64pow10", Rows.laid_internal_strconv_uint64pow10)] ((laidWorld os).forCall (fun _ _ => 0) ⟨#[], args, []⟩).memory :=
  laidMet_of_run' 8 (by kernel_rfl) (by kernel_rfl)
theorem own : ownKnob Tryd.prog.godebug = none := by kernel_rfl
theorem laidOut : laidOutB Tryd.prog = true := by kernel_rfl
end Go.Proofs.YtgpmngcemnnpmaaDoor

namespace Go.Proofs.YtgpmngcemnnpmaaDoor
open Go.RowKit Go.ChangeShapes Go.WideShapes Go.ChangeAt
section
variable {H : Type} {enc : TypeId × Value → H} {w : World} {base : Nat} {spare : Nat → Bool} {held : Bool} {fuel : Nat} {cs : List Value} {x : DataW H × List MemPlace}
theorem cellsU8 : Tryd.prog.cellsOf 5 = 1 := by kernel_rfl
theorem byteV_of (z : Int) (h0 : 0 ≤ z) (h1 : z ≤ 255) : Value.int .u8 z = byteV (UInt8.ofNat z.toNat) := by
  unfold byteV
  congr 1
  rw [UInt8.toNat_ofNat']
  omega
theorem rd_bytes (h : DataW.trod enc Tryd.prog w base spare held fuel 22 cs = some x) : ∃ A n c bs, cs = [.slice A n c] ∧ RB w A n bs ∧ n ≤ 9223372036854775807 := by
  rcases open_ints Tryd.underlying22 Tryd.underlying5 cellsU8 h with ⟨rfl, _⟩ | ⟨a, len, cap, zs, rfl, _, hl, hm, hz, _, hcell, hwf⟩
  · exact ⟨none, 0, 0, [], rfl, ⟨rfl, fun h => absurd h (by omega)⟩, by omega⟩
  · have hlen : len ≤ zs.length := by rw [hz]; split <;> omega
    have hw : ∀ z ∈ zs, 0 ≤ z ∧ z ≤ 255 := fun z hz => by
      have h := hwf z hz
      have h1 : IntKind.u8.min = 0 := by decide
      have h2 : IntKind.u8.max = 255 := by decide
      simp [Lit.wf] at h
      omega
    refine ⟨some a, len, cap, (zs.take len).map (fun z => UInt8.ofNat z.toNat), rfl, ⟨by simp; omega, fun h0 => ⟨a, rfl, ?_, fun j u hu => ?_⟩⟩, by simp only [maxLen] at hm; omega⟩
    · have := World.block_lt_of_cell? w _ (hcell 0 (by omega)); rwa [block_of_add] at this
    · rw [List.getElem?_map, List.getElem?_take] at hu
      split at hu
      · have hj : j < zs.length := by omega
        rw [List.getElem?_eq_getElem hj] at hu
        have hu' : UInt8.ofNat zs[j].toNat = u := by simpa using hu
        obtain ⟨z0, z1⟩ := hw zs[j] (List.getElem_mem _)
        rw [hcell j hj, ← hu', ← byteV_of _ z0 z1]
        simp [List.getD, List.getElem?_eq_getElem hj]
      · simp at hu
end
end Go.Proofs.YtgpmngcemnnpmaaDoor
