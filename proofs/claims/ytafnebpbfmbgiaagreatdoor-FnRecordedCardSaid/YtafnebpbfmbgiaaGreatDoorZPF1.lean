/- For every input the law FnRecorded returns true and leaves its arguments as they were: a recorded session is replayed to the machine at which its program ends, and its strokes are those of the program. Condition: the tables of strconv hold what the program's text lays (tied by the card). -/
import Derived.Test.YtafnebpbfmbgiaaGreatDoorZC1
import Derived.Test.YtafnebpbfmbgiaaGreatDoorZC2
import Derived.Test.YtafnebpbfmbgiaaGreatDoorZC3
import Derived.Test.YtafnebpbfmbgiaaGreatDoorZC4
import Derived.Test.YtafnebpbfmbgiaaGreatDoorZC5
import Derived.Test.YtafnebpbfmbgiaaGreatDoorZC6
import Derived.Test.YtafnebpbfmbgiaaGreatDoorZC7
import Derived.Test.YtafnebpbfmbgiaaGreatDoorZC8
import Derived.Test.YtafnebpbfmbgiaaGreatDoorZC9
import Derived.Test.YtafnebpbfmbgiaaGreatDoorZC10
import Derived.Test.YtafnebpbfmbgiaaGreatDoorZC11
import Derived.OpenShut
import Derived.ProofKit
import Derived.Carry
import Derived.ChangeMaps5
namespace Go.Proofs.YtafnebpbfmbgiaaGreatDoor
open Go.RowKit Go.Sort
/-! recorded sessions, plainly -/
def strokesT (ks : List Int) (t : Tri) : Tri := ks.foldl (fun m k => (strokeT k m).1) t
theorem strokesT_append (a b : List Int) (t : Tri) : strokesT (a ++ b) t = strokesT b (strokesT a t) := by unfold strokesT; rw [List.foldl_append]
def TaskOk (L : List Ins) : Task → Prop
  | .run i tt => Seg L i tt
  | .loop _ _ i e _ => Seg L i e
  | .str k _ => 1 ≤ k ∧ k ≤ 6
theorem instr_kind {L : List Ins} (hv : vprog L = true) {i : Nat} (hl : i < L.length) (ho : opens L[i].op = false) (h1 : ¬ L[i].op = 1) (h10 : ¬ L[i].op = 10) : 1 ≤ L[i].op - 1 ∧ L[i].op - 1 ≤ 6 := by
  have h := (dep_step hv hl).1
  rcases op_cases L[i].op with h2 | h2 | h2 | h2 | h2 | h2 | h2 | h2 | h2 | h2 | h2
  · exact absurd h2 h1
  all_goals first
    | (rw [h2]; decide)
    | (exfalso; rw [h2] at ho; revert ho; decide)
    | exact absurd h2 h10
    | (rw [instrOk_else h2] at h; cases h)
/-- what a part of a program without settings does -/
theorem ev_noset {L : List Ins} (hv : vprog L = true) (hs : hasSet L = false) {T : Task} {s s' : RS} {b : Bool} (h : Ev L T s s' b) (hT : TaskOk L T) :
    ∃ ks, s'.tr = s.tr ++ ks ∧ s'.m = strokesT ks s.m ∧ ∀ k ∈ ks, 1 ≤ k ∧ k ≤ 6 := by
  have same : ∀ {s s' : RS}, s'.tr = s.tr → s'.m = s.m → ∃ ks : List Int, s'.tr = s.tr ++ ks ∧ s'.m = strokesT ks s.m ∧ ∀ k ∈ ks, 1 ≤ k ∧ k ≤ 6 :=
    fun h1 h2 => ⟨[], by rw [h1, List.append_nil], h2, fun k hk => by cases hk⟩
  have both : ∀ {s s1 s' : RS}, (∃ ks : List Int, s1.tr = s.tr ++ ks ∧ s1.m = strokesT ks s.m ∧ ∀ k ∈ ks, 1 ≤ k ∧ k ≤ 6) → (∃ ks : List Int, s'.tr = s1.tr ++ ks ∧ s'.m = strokesT ks s1.m ∧ ∀ k ∈ ks, 1 ≤ k ∧ k ≤ 6) → ∃ ks : List Int, s'.tr = s.tr ++ ks ∧ s'.m = strokesT ks s.m ∧ ∀ k ∈ ks, 1 ≤ k ∧ k ≤ 6 := by
    rintro s s1 s' ⟨k1, a1, a2, a3⟩ ⟨k2, b1, b2, b3⟩
    refine ⟨k1 ++ k2, by rw [b1, a1, List.append_assoc], by rw [b2, a2, strokesT_append], fun k hk => ?_⟩
    rcases List.mem_append.1 hk with hk | hk
    · exact a3 k hk
    · exact b3 k hk
  have noset : ∀ {i : Nat} (hl : i < L.length), ¬ L[i].op = 1 := fun hl h1 => by
    have := hasSet_at hl (beq_iff_eq.2 h1)
    rw [hs] at this; cases this
  induction h with
  | s0 => exact same rfl rfl
  | sFull h => exact same rfl rfl
  | @sStep kind n s s' b h he ih =>
    refine both (s1 := ⟨(strokeT kind s.m).1, s.tr ++ [kind], s.done + 1, 0⟩) ⟨[kind], rfl, rfl, fun k hk => ?_⟩ (ih hT)
    rw [List.mem_singleton.1 hk]; exact hT
  | rEnd h => exact same rfl rfl
  | rCode hi h => exact same rfl rfl
  | rSetFull hi hl hc ho h => exact absurd ho (noset hl)
  | rSetBad hi hl hc ho h hf => exact absurd ho (noset hl)
  | rSet hi hl hc ho h hf he ih => exact absurd ho (noset hl)
  | rLoop hi hl hc ho hm h1 he ih1 ih2 =>
    have hS := Seg.loop hv hT hi ho hm
    exact both (ih1 hS.2.2.1) (ih2 hS.2.2.2)
  | rStr hi hl hc ho h1' h1 he ih1 ih2 =>
    exact both (ih1 (instr_kind hv hl ho h1' (Seg.noEnd hv hT hi))) (ih2 (Seg.next hv hT hi ho))
  | lEnd h8 hk => exact same rfl rfl
  | lFull h8 h => exact same rfl rfl
  | lOut h8 h h1 ho ih => exact both (same rfl rfl) (ih hT)
  | lStep h8 h h1 ho he ih1 ih2 => exact both (both (same rfl rfl) (ih1 hT)) (ih2 hT)
/-- the lines of strokes -/
theorem goS_strokes : ∀ (ks : List Int) (s : SS) (i : Int) (rest : List (List UInt8)), (∀ k ∈ ks, 1 ≤ k ∧ k ≤ 6) → s.ended = false →
    ∃ s', goS s i ((ks.map sname).map strB ++ rest) = goS s' (i + ks.length) rest ∧ s'.m = strokesT ks s.m ∧ s'.str = s.str ++ ks ∧ s'.ended = false
  | [], s, i, rest, _, he => ⟨s, by simp, rfl, by simp, he⟩
  | k :: ks, s, i, rest, h, he => by
    have hk := h k (List.mem_cons_self ..)
    have h1 : lineS s i (strB (sname k)) = (⟨s.start, (strokeT k s.m).1, s.str ++ [k], if (strokeT k s.m).2 then s.bel ++ [i] else s.bel, false⟩, 0) := by
      unfold lineS
      rw [he, if_neg (by decide), kindOf_sname hk, if_pos (by omega)]
    obtain ⟨s', e1, e2, e3, e4⟩ := goS_strokes ks ⟨s.start, (strokeT k s.m).1, s.str ++ [k], if (strokeT k s.m).2 then s.bel ++ [i] else s.bel, false⟩ (i + 1) rest (fun x hx => h x (List.mem_cons_of_mem _ hx)) rfl
    refine ⟨s', ?_, e2, by rw [e3]; simp, e4⟩
    show goS s i (strB (sname k) :: ((ks.map sname).map strB ++ rest)) = _
    rw [goS_cons, h1, if_neg (by simp), e1, List.length_cons]
    congr 1
    omega
theorem show_begins {t : Tri} (hv : vmach t = true) : begins showB (strB (showT t)) = true ∧ (strB (showT t)).drop 5 = strB (mtextL t) := by
  have e1 : mtext t = mtextL t := by unfold mtext; rw [if_pos hv]
  have e2 : strB (showT t) = showB ++ strB (mtextL t) := by unfold showT; rw [e1, strB_app]; rfl
  have hne : 0 < (strB (mtextL t)).length := by
    rcases Nat.eq_zero_or_pos (strB (mtextL t)).length with h0 | h0
    · have h1 := (rdM_text hv).1
      rw [List.length_eq_zero_iff.1 h0, rdM_nil] at h1; cases h1
    · exact h0
  rw [e2]
  refine ⟨?_, by simp [showB]⟩
  unfold begins
  rw [Bool.and_eq_true, decide_eq_true_eq, decide_eq_true_eq]
  refine ⟨by rw [List.length_append]; omega, by rw [List.take_left]⟩
theorem goS_end {s : SS} {i : Int} (he : s.ended = false) (hv : vmach s.m = true) : goS s i [strB (showT s.m), strB endW] = (⟨s.start, s.m, s.str, s.bel, true⟩, -1, 0) := by
  obtain ⟨h1, h2⟩ := show_begins hv
  have hlen : 5 < (strB (showT s.m)).length := by
    unfold begins at h1
    rw [Bool.and_eq_true, decide_eq_true_eq] at h1
    exact h1.1
  have hk : kindOf (strB (showT s.m)) = 0 := by
    rcases Int.decEq (kindOf (strB (showT s.m))) 0 with h | h
    · have h3 := kindOf_name h
      have h4 := sname_len (kindOf (strB (showT s.m)))
      rw [← strB_len, h3] at h4
      omega
    · exact h
  have l1 : lineS s i (strB (showT s.m)) = (s, 0) := by
    unfold lineS
    rw [he, if_neg (by decide), if_neg (by rw [hk]; simp), if_neg (begins_ne h1 (by decide)), show_not_set h1, if_neg (by decide), h1, if_pos rfl, if_pos h2]
  have l2 : lineS s (i + 1) (strB endW) = ({ s with ended := true }, 0) := by
    unfold lineS
    rw [he, if_neg (by decide), if_neg (by rw [show kindOf (strB endW) = 0 from kind_end]; simp), if_pos (show strB endW = endB from rfl)]
  rw [goS_cons, l1, if_neg (by simp), goS_cons, l2, if_neg (by simp), goS_nil, if_pos rfl]
theorem start_ok {t : Tri} (hv : vmach t = true) : startOk (strB (startT t)) = true ∧ rdMach ((strB (startT t)).drop 6) = t := by
  have e1 : mtext t = mtextL t := by unfold mtext; rw [if_pos hv]
  have e2 : strB (startT t) = startB ++ strB (mtextL t) := by unfold startT; rw [e1, strB_app]; rfl
  have hne : 0 < (strB (mtextL t)).length := by
    rcases Nat.eq_zero_or_pos (strB (mtextL t)).length with h0 | h0
    · have h1 := (rdM_text hv).1
      rw [List.length_eq_zero_iff.1 h0, rdM_nil] at h1; cases h1
    · exact h0
  have e3 : (startB ++ strB (mtextL t)).drop 6 = strB (mtextL t) := by simp [startB]
  have hr := rdm_some (rdM_text hv).1
  rw [e2, e3]
  refine ⟨?_, hr.1⟩
  unfold startOk
  rw [e3, hr.2, Bool.and_true]
  unfold begins
  rw [Bool.and_eq_true, decide_eq_true_eq, decide_eq_true_eq]
  exact ⟨by rw [List.length_append]; omega, by rw [List.take_left]⟩
/-- a recorded session: its end is the run's, and its strokes are those of the run -/
theorem rec_law {L : List Ins} {t : Tri} {s' : RS} {b' : Bool} (he : Ev L (.run 0 L.length) (startR t) s' b') (hg : s'.Good) (h : rcC L t = 0) :
    rpC L t = 0 ∧ rpM L t = s'.m ∧ rpT L t = s'.tr ∧ wholeC ((rcR L t).map strB) = 0 ∧ (runS ((rcR L t).map strB)).1.m = s'.m ∧ (runS ((rcR L t).map strB)).1.str = s'.tr := by
  have hvp : (vmach t && vprog L) = true := by
    rcases hx : (vmach t && vprog L) with _ | _
    · rw [(rc_bad hx).1] at h; cases h
    · rfl
  have hv := hvp
  rw [Bool.and_eq_true] at hv
  have hset : hasSet L = false := by
    rcases hx : hasSet L with _ | _
    · rfl
    · rw [(rc_set hvp hx).1] at h; cases h
  have hc : s'.code = 0 := by
    rcases Int.decEq s'.code 0 with hx | hx
    · rw [(rc_code hvp hset he hx).1] at h; exact absurd h hx
    · exact hx
  have hf := rc_fine hvp hset he hc
  have hlen : ¬ (recL t s').length > 100 := by
    intro hx
    rw [hf.1, if_pos hx] at h; cases h
  have hR : rcR L t = recL t s' := by rw [hf.2, if_neg hlen]
  obtain ⟨p1, p2, p3⟩ := rp_fine hv.1 hv.2 he hg hc
  obtain ⟨ks, k1, k2, k3⟩ := ev_noset hv.2 hset he (Seg.all hv.2)
  have k1' : s'.tr = ks := k1
  have k2' : s'.m = strokesT ks t := k2
  have hso := start_ok hv.1
  obtain ⟨q, q1, q2, q3, q4⟩ := goS_strokes ks ⟨t, t, [], [], false⟩ 1 [strB (showT s'.m), strB endW] k3 rfl
  have q2' : q.m = s'.m := by rw [q2, k2']
  have hq : goS q (1 + (ks.length : Int)) [strB (showT s'.m), strB endW] = (⟨q.start, q.m, q.str, q.bel, true⟩, -1, 0) := by
    rw [← q2']
    exact goS_end q4 (by rw [q2']; exact hg.m)
  have hrun : runS ((rcR L t).map strB) = (⟨q.start, q.m, q.str, q.bel, true⟩, -1, 0) := by
    rw [hR]
    show runS (strB (startT t) :: (s'.tr.map sname ++ [showT s'.m, endW]).map strB) = _
    rw [runS_cons, if_pos hso.1, hso.2, List.map_append, k1']
    show goS _ 1 ((ks.map sname).map strB ++ [strB (showT s'.m), strB endW]) = _
    rw [q1, hq]
  refine ⟨p1, p2, p3, ?_, by rw [hrun]; exact q2', by rw [hrun]; show q.str = _; rw [q3, k1']; rfl⟩
  unfold wholeC
  rw [if_neg (by rw [List.length_map, hR]; exact hlen), hrun, if_pos rfl]
end Go.Proofs.YtafnebpbfmbgiaaGreatDoor

namespace Go.Proofs.YtafnebpbfmbgiaaGreatDoor
open Go.RowKit Go.Sort
set_option maxHeartbeats 1600000 in
theorem f6texts_same (A B : Option Addr) (n c d : Nat) (xs : List ByteArray) (w : World) (hr : RL StrM 1 w A n xs) (hs : RL StrM 1 w B n xs) (hm : n ≤ 1048576) :
    Calls Tryz.prog 23 #[.slice A n c, .slice B n d] w fun e w' => e = .returned (.bool true) ∧ ∃ q, w' = w.drewN q := by
  have HR := Lib.hid hr
  have HS := Lib.hid hs
  clear hr hs
  go_enter Tryz.func23, Tryz.ntmps23
  go_wp2_with fail
  go_loopw [5] (fun i wr => ∃ (k : Nat), k ≤ n ∧ i = .int .i64 k ∧ ∃ q, wr = w.drewN q) (fun i _ => n - (intOf i).toNat)
  case atStart => exact ⟨0, Nat.zero_le _, rfl, 0, rfl⟩
  case round =>
    obtain ⟨k, hk, rfl, q, rfl⟩ := hrel
    by_cases hkn : k < n
    · obtain ⟨ad, hA, hlt, hkl, hx⟩ := HR.out.at_ hkn
      obtain ⟨bd, hB, hlt2, hkl2, hy⟩ := HS.out.at_ hkn
      unfold StrM at hx hy
      rw [Nat.mul_one] at hx hy
      obtain ⟨x, hxe⟩ : ∃ x, xs[k] = x := ⟨_, rfl⟩
      rw [hxe] at hx hy
      have hi0 : (0 : Int) ≤ (k : Int) := by omega
      have hi1 : (k : Int) < (n : Int) := by omega
      have hxx : (x.toList == x.toList) = true := by simp
      subst hA
      subst hB
      clear hxe hlt hlt2
      go_wp2_with fail
      go_quiet (fail)
      go_wp2_with fail
      go_roundw
      case rel => exact ⟨k + 1, by omega, by go_num, by first | exact ⟨_, rfl⟩ | exact ⟨_, World.drewN_drewN _ _ _⟩⟩
      case measure => simp [intOf]; omega
    · have hi1 : ¬ (k : Int) < (n : Int) := by omega
      go_wp2_with fail
      go_ret
      exact ⟨rfl, q, rfl⟩
set_option maxRecDepth 100000 in
set_option maxHeartbeats 6400000 in
theorem DrawRecordSession_any (A : Option Addr) (n c : Nat) (bs : List UInt8) (w : World) (hb : RB w A n bs) (hn : n ≤ 9223372036854775807) :
    Calls Tryz.prog 28 #[.slice A n c] w (DrawsRun w) := by
  unfold DrawsRun
  have HB := Lib.hid hb
  clear hb
  go_enter Tryz.func28, Tryz.ntmps28
  go_wp2_with fail
  refine Calls.kn ((Kn.nil w).al [.int .i64 0, .slice none 0 0, .int .i64 0, .slice none 0 0, .int .i64 0, .slice none 0 0, .int .i64 0] 32) ?_; intro w1 K1
  refine (l00From_any A n c bs w1 (HB.out.below K1.below) hn).mono ?_; rintro e w2 ⟨rfl, hs, hb2⟩
  have D2 := DR.nil hs
  clear HB hs
  go_wp2_with fail
  have KD := Lib.hid (l10Bent_dr _ _ w2 D2.src (by omega))
  unfold DBent at KD
  refine KD.out.mono ?_; rintro e w3 ⟨t, A1, c1, A2, c2, A3, c3, rfl, hl, h3⟩
  have D3 := D2.add h3
  clear D2 h3 KD
  go_wp2_with fail
  obtain ⟨g, hg⟩ : ∃ g, w3.heap.size = g := ⟨_, rfl⟩
  have D4 := D3.al [.int .i64 t.a.base, .slice A1 t.a.digits.length c1, .int .i64 t.b.base, .slice A2 t.b.digits.length c2, .int .i64 t.s.base, .slice A3 t.s.digits.length c3, .int .i64 t.carry] 32
  rw [hg] at D4
  try rw [hg]
  refine Calls.dr D4 ?_; clear D3 D4 hg; intro w4 D4
  refine (one_dr _ _ 2 w4 D4.src (by omega)).mono ?_; rintro e w5 ⟨z, rfl, h1⟩
  have D5 := D4.add h1
  clear D4 h1
  rcases z with _ | _
  rotate_left
  · have HG := Lib.hid (D5.drew.box7at 0 rfl)
    have HT := HG
    have HP := Lib.hid (pick_dr _ _ 3 _ D5.drew.src (by omega))
    go_wp2_with fail
    go_region_held3 (fun W => W.cell? ⟨g, 0, none⟩ = some (.int .i64 t.a.base) ∧ W.cell? ⟨g, 1, none⟩ = some (.slice A1 t.a.digits.length c1) ∧ W.cell? ⟨g, 2, none⟩ = some (.int .i64 t.b.base) ∧ W.cell? ⟨g, 3, none⟩ = some (.slice A2 t.b.digits.length c2) ∧ W.cell? ⟨g, 4, none⟩ = some (.int .i64 t.s.base) ∧ W.cell? ⟨g, 5, none⟩ = some (.slice A3 t.s.digits.length c3) ∧ W.cell? ⟨g, 6, none⟩ = some (.int .i64 t.carry)) (first | with_reducible exact HG.out | with_reducible exact HT.out) (first
      | (go_at_call 35; (refine HP.out.mono ?_); rintro e w6 ⟨p, rfl, hp, h5⟩; have D6 := D5.drew.add h5; have K6 : Kn w [.blk g [.int .i64 t.a.base, .slice A1 t.a.digits.length c1, .int .i64 t.b.base, .slice A2 t.b.digits.length c2, .int .i64 t.s.base, .slice A3 t.s.digits.length c3, .int .i64 t.carry] 32, rowI A3 c3 t.s.digits, rowI A2 c2 t.b.digits, rowI A1 c1 t.a.digits, .blk w.heap.size [.int .i64 0, .slice none 0 0, .int .i64 0, .slice none 0 0, .int .i64 0, .slice none 0 0, .int .i64 0] 32] w6 := K1.join (Kn.ofDR hb2 (Nat.le_refl _) D6); clear HG; have HG := Lib.hid (Go.Proofs.YtafnebpbfmbgiaaGreatDoor.box7at K6 0 rfl); obtain ⟨q, rfl⟩ : ∃ q : Nat, p = q := ⟨p.toNat, by omega⟩; have hq : q ≤ 2 := by { rcases hp.2 with h | h <;> omega }; have hw1 : IntKind.i64.wrap (1 + (q : Int)) = (q : Int) + 1 := by { rw [wrapI64 (by omega)]; omega }; clear hp)
      | (go_at_call 56; (refine (show Calls Tryz.prog 56 #[.int .i64 ((q : Int) + 1)] w6 _ from l12Divide_any (q + 1) w6 (by omega) (by omega)).mono ?_); rintro e w7 ⟨h, d, rfl, h7⟩; have hxl := divUpto_len (q + 1) (q + 1); obtain ⟨xs, hxs⟩ : ∃ xs, divProg (q + 1) = xs := ⟨_, rfl⟩; have hxl : xs.length ≤ 20 := by { rw [← hxs]; unfold divProg; omega }; rw [hxs] at h7; try rw [hxs]; have K5 : Kn w [rowIns (.slice h xs.length d) xs, .blk g [.int .i64 t.a.base, .slice A1 t.a.digits.length c1, .int .i64 t.b.base, .slice A2 t.b.digits.length c2, .int .i64 t.s.base, .slice A3 t.s.digits.length c3, .int .i64 t.carry] 32, rowI A3 c3 t.s.digits, rowI A2 c2 t.b.digits, rowI A1 c1 t.a.digits, .blk w.heap.size [.int .i64 0, .slice none 0 0, .int .i64 0, .slice none 0 0, .int .i64 0, .slice none 0 0, .int .i64 0] 32] w7 := K6.join h7; clear hxs h7; obtain ⟨x1, x2, x3, -⟩ := (K5.front 5 rfl).cells; clear HG; have HG := Lib.hid (Go.Proofs.YtafnebpbfmbgiaaGreatDoor.box7at K5 1 rfl); have K8 := ((((((((K5.front 5 rfl).st 0 (.int .i64 t.a.base)).st 1 (.slice A1 t.a.digits.length c1)).st 2 (.int .i64 t.b.base)).st 3 (.slice A2 t.b.digits.length c2)).st 4 (.int .i64 t.s.base)).st 5 (.slice A3 t.s.digits.length c3)).st 6 (.int .i64 t.carry)); clear HT; have HT := Lib.hid (Go.Proofs.YtafnebpbfmbgiaaGreatDoor.box7at K8 2 rfl)))
    all_goals
      go_wp2_with fail
      refine bodyPost.kn K8 ?_; intro w9 K9
      clear x1 x2 x3
      obtain ⟨a1, a2, a3, -⟩ := K9.cells
      exact bodyPost_ret (v := .tuple #[.agg #[.int .i64 t.a.base, .slice A1 t.a.digits.length c1, .int .i64 t.b.base, .slice A2 t.b.digits.length c2, .int .i64 t.s.base, .slice A3 t.s.digits.length c3, .int .i64 t.carry], .slice h xs.length d]) (by simp [results, Tryz.results28, go_sem, a1]) rfl ⟨t, A1, c1, A2, c2, A3, c3, _, _, _, rfl, ⟨hl, by omega⟩, K9.sel [3, 4, 5, 1] 99 (by decide) (by decide)⟩
  go_wp2_with fail
  refine (one_dr _ _ 10 w5 D5.src (by omega)).mono ?_; rintro e w6 ⟨z, rfl, h1⟩
  have D6 := D5.add h1
  clear D5 h1
  rcases z with _ | _
  rotate_left
  · go_wp2_with fail
    have HG := Lib.hid (D6.drew.box7at 0 rfl)
    have HT := HG
    have HU := HG
    have HW := HG
    have HP := Lib.hid (pick_dr _ _ 4 _ D6.drew.src (by omega))
    go_region_held3 (fun W => W.cell? ⟨g, 0, none⟩ = some (.int .i64 t.a.base) ∧ W.cell? ⟨g, 1, none⟩ = some (.slice A1 t.a.digits.length c1) ∧ W.cell? ⟨g, 2, none⟩ = some (.int .i64 t.b.base) ∧ W.cell? ⟨g, 3, none⟩ = some (.slice A2 t.b.digits.length c2) ∧ W.cell? ⟨g, 4, none⟩ = some (.int .i64 t.s.base) ∧ W.cell? ⟨g, 5, none⟩ = some (.slice A3 t.s.digits.length c3) ∧ W.cell? ⟨g, 6, none⟩ = some (.int .i64 t.carry)) (first | with_reducible exact HG.out | with_reducible exact HT.out | with_reducible exact HU.out | with_reducible exact HW.out) (first
      | (go_at_call 35; (refine HP.out.mono ?_); rintro e w7 ⟨p, rfl, hp, h5⟩; have D7 := D6.drew.add h5; have K6 : Kn w [.blk g [.int .i64 t.a.base, .slice A1 t.a.digits.length c1, .int .i64 t.b.base, .slice A2 t.b.digits.length c2, .int .i64 t.s.base, .slice A3 t.s.digits.length c3, .int .i64 t.carry] 32, rowI A3 c3 t.s.digits, rowI A2 c2 t.b.digits, rowI A1 c1 t.a.digits, .blk w.heap.size [.int .i64 0, .slice none 0 0, .int .i64 0, .slice none 0 0, .int .i64 0, .slice none 0 0, .int .i64 0] 32] w7 := K1.join (Kn.ofDR hb2 (Nat.le_refl _) D7); clear HG; have HG := Lib.hid (Go.Proofs.YtafnebpbfmbgiaaGreatDoor.box7at K6 0 rfl); obtain ⟨q, rfl⟩ : ∃ q : Nat, p = q := ⟨p.toNat, by omega⟩; have hq : q ≤ 3 := by { rcases hp.2 with h | h <;> omega }; have hw1 : IntKind.i64.wrap (96 + (q : Int)) = 96 + (q : Int) := wrapI64 (by omega); clear hp; obtain ⟨x1, x2, x3, -⟩ := (K6.front 4 rfl).cells; clear HU HT HW; have HU := Lib.hid (Go.Proofs.YtafnebpbfmbgiaaGreatDoor.box7at (K6.al [.int .i64 2, .int .i64 (96 + (q : Int))] 93) 1 rfl); have K7 := ((((((((K6.front 4 rfl).st 0 (.int .i64 t.a.base)).st 1 (.slice A1 t.a.digits.length c1)).st 2 (.int .i64 t.b.base)).st 3 (.slice A2 t.b.digits.length c2)).st 4 (.int .i64 t.s.base)).st 5 (.slice A3 t.s.digits.length c3)).st 6 (.int .i64 t.carry)); have HT := Lib.hid (Go.Proofs.YtafnebpbfmbgiaaGreatDoor.box7at K7 1 rfl); have K8 := K7.al [.int .i64 2, .int .i64 (96 + (q : Int))] 93; have HW := Lib.hid (Go.Proofs.YtafnebpbfmbgiaaGreatDoor.box7at K8 2 rfl)))
    all_goals
      go_wp2_with fail
      refine bodyPost.kn K8 ?_; clear HU HT HW HG; intro w9 K9
      clear x1 x2 x3
      simp only [World.size_setCell] at K9
      have K10 : Kn w [rowIns (.slice (some ⟨w7.heap.size, 0, none⟩) [(⟨2, 96 + (q : Int)⟩ : Ins)].length 1) [⟨2, 96 + (q : Int)⟩], .blk w.heap.size _ _, .blk g [.int .i64 t.a.base, .slice A1 t.a.digits.length c1, .int .i64 t.b.base, .slice A2 t.b.digits.length c2, .int .i64 t.s.base, .slice A3 t.s.digits.length c3, .int .i64 t.carry] 32, rowI A3 c3 t.s.digits, rowI A2 c2 t.b.digits, rowI A1 c1 t.a.digits] w9 := K9.litRow (size := 2) (n := 1) rfl (by decide)
      obtain ⟨a1, a2, a3, -⟩ := K10.cells
      exact bodyPost_ret (v := .tuple #[.agg #[.int .i64 t.a.base, .slice A1 t.a.digits.length c1, .int .i64 t.b.base, .slice A2 t.b.digits.length c2, .int .i64 t.s.base, .slice A3 t.s.digits.length c3, .int .i64 t.carry], .slice (some ⟨w7.heap.size, 0, none⟩) 1 1]) (by simp [results, Tryz.results28, go_sem, a1]) rfl ⟨t, A1, c1, A2, c2, A3, c3, _, _, [⟨2, 96 + (q : Int)⟩], rfl, ⟨hl, by simp⟩, K10.sel [3, 4, 5, 0] 99 (by decide) (by decide)⟩
  · go_wp2_with fail
    have HG := Lib.hid (D6.drew.box7at 0 rfl)
    have HT := HG
    have HV := Lib.hid (l11Bent_dr _ _ _ D6.drew.src (by omega))
    unfold DIns at HV
    go_region_held3 (fun W => W.cell? ⟨g, 0, none⟩ = some (.int .i64 t.a.base) ∧ W.cell? ⟨g, 1, none⟩ = some (.slice A1 t.a.digits.length c1) ∧ W.cell? ⟨g, 2, none⟩ = some (.int .i64 t.b.base) ∧ W.cell? ⟨g, 3, none⟩ = some (.slice A2 t.b.digits.length c2) ∧ W.cell? ⟨g, 4, none⟩ = some (.int .i64 t.s.base) ∧ W.cell? ⟨g, 5, none⟩ = some (.slice A3 t.s.digits.length c3) ∧ W.cell? ⟨g, 6, none⟩ = some (.int .i64 t.carry)) (first | with_reducible exact HG.out | with_reducible exact HT.out | exact HG.out | exact HT.out) (first
      | (go_at_call 57; (refine HV.out.mono ?_); rintro e w7 ⟨h, d, xs, rfl, hxl, h5⟩; have D7 := D6.drew.add h5; clear HG; have HG := Lib.hid (D7.box7at 1 rfl); have K5 : Kn w [rowIns (.slice (some ⟨h, 0, none⟩) xs.length d) xs, .blk g [.int .i64 t.a.base, .slice A1 t.a.digits.length c1, .int .i64 t.b.base, .slice A2 t.b.digits.length c2, .int .i64 t.s.base, .slice A3 t.s.digits.length c3, .int .i64 t.carry] 32, rowI A3 c3 t.s.digits, rowI A2 c2 t.b.digits, rowI A1 c1 t.a.digits, .blk w.heap.size [.int .i64 0, .slice none 0 0, .int .i64 0, .slice none 0 0, .int .i64 0, .slice none 0 0, .int .i64 0] 32] w7 := K1.join (Kn.ofDR hb2 (Nat.le_refl _) D7); obtain ⟨x1, x2, x3, -⟩ := (K5.front 5 rfl).cells; have K8 := ((((((((K5.front 5 rfl).st 0 (.int .i64 t.a.base)).st 1 (.slice A1 t.a.digits.length c1)).st 2 (.int .i64 t.b.base)).st 3 (.slice A2 t.b.digits.length c2)).st 4 (.int .i64 t.s.base)).st 5 (.slice A3 t.s.digits.length c3)).st 6 (.int .i64 t.carry)); clear HT; have HT := Lib.hid (Go.Proofs.YtafnebpbfmbgiaaGreatDoor.box7at K8 2 rfl)))
    all_goals
      go_wp2_with fail
      refine bodyPost.kn K8 ?_; intro w9 K9
      clear x1 x2 x3
      obtain ⟨a1, a2, a3, -⟩ := K9.cells
      exact bodyPost_ret (v := .tuple #[.agg #[.int .i64 t.a.base, .slice A1 t.a.digits.length c1, .int .i64 t.b.base, .slice A2 t.b.digits.length c2, .int .i64 t.s.base, .slice A3 t.s.digits.length c3, .int .i64 t.carry], .slice (some ⟨h, 0, none⟩) xs.length d]) (by simp [results, Tryz.results28, go_sem, a1]) rfl ⟨t, A1, c1, A2, c2, A3, c3, _, _, _, rfl, ⟨hl, by omega⟩, K9.sel [3, 4, 5, 1] 99 (by decide) (by decide)⟩
end Go.Proofs.YtafnebpbfmbgiaaGreatDoor

namespace Go.Proofs.YtafnebpbfmbgiaaGreatDoor
open Go.RowKit Go.Sort
theorem sname_small (k : Int) : (sname k).size ≤ 1048576 := Nat.le_trans (sname_len k) (by omega)
/-- all that the law asks of a recorded session -/
theorem rec_all {L : List Ins} {n lc : Nat} {LA : Option Addr} (t : Tri) (A1 A2 A3 : Option Addr) (w : World) (r1 : RI w A1 t.a.digits.length t.a.digits) (r2 : RI w A2 t.b.digits.length t.b.digits) (r3 : RI w A3 t.s.digits.length t.s.digits) (hr : RL InsM 2 w LA n L) (h : rcC L t = 0) :
    rpC L t = 0 ∧ rsM ((rcR L t).map strB) = rpM L t ∧ wholeC ((rcR L t).map strB) = 0 ∧ ssL ((rcR L t).map strB) = rpT L t ∧ ∀ s ∈ rcR L t, s.size ≤ 1048576 := by
  have hvp : (vmach t && vprog L) = true := by
    rcases hx : (vmach t && vprog L) with _ | _
    · rw [(rc_bad hx).1] at h; cases h
    · rfl
  have hv := hvp
  rw [Bool.and_eq_true] at hv
  obtain ⟨e0, w0, fr0, ⟨g0, s', b', -, he, -, hg⟩, -⟩ := runProgram_any (lc := lc) t A1 A2 A3 0 0 0 w r1 r2 r3 hv.1 hv.2 hr []
  obtain ⟨q1, q2, q3, q4, q5, q6⟩ := rec_law he hg h
  refine ⟨q1, ?_, q4, ?_, ?_⟩
  · unfold rsM
    rw [if_pos q4, q5, q2]
  · unfold ssL
    rw [if_pos q4, q6, q3]
  · have hset : hasSet L = false := by
      rcases hx : hasSet L with _ | _
      · rfl
      · rw [(rc_set hvp hx).1] at h; cases h
    have hR : rcR L t = recL t s' := by
      unfold rcR
      rw [if_pos h, endR_eq he]
    intro s hs
    rw [hR] at hs
    have sz1 := mtext_size hv.1
    have sz2 := mtext_size hg.m
    rcases List.mem_cons.1 hs with rfl | hs
    · unfold startT
      rw [ByteArray.size_append, show startW.size = 6 from rfl]; omega
    · rcases List.mem_append.1 hs with hs | hs
      · obtain ⟨k, -, rfl⟩ := List.mem_map.1 hs
        exact sname_small k
      · rcases List.mem_cons.1 hs with rfl | hs
        · unfold showT
          rw [ByteArray.size_append, show showW.size = 5 from rfl]; omega
        · rw [List.mem_singleton.1 hs]; decide
set_option maxRecDepth 100000 in
set_option maxHeartbeats 12800000 in
theorem law_Recorded (A : Option Addr) (n c : Nat) (bs : List UInt8) (w : World) (hb : RB w A n bs) (hn : n ≤ 9223372036854775807) (ht : TB w) :
    Calls Tryz.prog 4 #[.slice A n c] w fun e w' => e = .returned (.bool true) ∧ Below w.heap.size w w' := by
  have KD := Lib.hid (DrawRecordSession_any A n c bs w hb hn)
  have HTB := Lib.hid (fun W (hW : Below w.heap.size w W) => TB.below ht hW)
  unfold DrawsRun at KD
  clear hb ht
  have KG := (fun W => f6big_any A n c W)
  obtain ⟨bg, hbg⟩ : ∃ b, decide ((n : Int) > 4096) = b := ⟨_, rfl⟩
  rw [hbg] at KG
  replace KG := Lib.hid KG
  clear hbg
  rcases bg with _ | _
  rotate_left
  · go_enter Tryz.func4, Tryz.ntmps4
    go_wp2_with (go_at_call 5; refine (KG.out _).mono ?_; rintro e w' ⟨rfl, hww⟩; obtain rfl := hww.symm)
    go_ret
    exact ⟨rfl, Below.refl _ _⟩
  go_enter Tryz.func4, Tryz.ntmps4
  go_wp2_with (go_at_call 5; refine (KG.out _).mono ?_; rintro e w' ⟨rfl, hww⟩; obtain rfl := hww.symm)
  refine KD.out.mono ?_; rintro e w1 ⟨t, A1, c1, A2, c2, A3, c3, B, d, L, rfl, ⟨hl, hLl⟩, K1⟩
  clear KD
  have hs : SmallTri t := ⟨by unfold SmallReg; omega, by unfold SmallReg; omega, by unfold SmallReg; omega⟩
  have hrl := (Kn.rlIns (K1.front 3 rfl)).2
  have hall := (fun h => rec_all (lc := d) t A1 A2 A3 w1 (K1.front 2 rfl).riv (K1.front 1 rfl).riv (K1.front 0 rfl).riv hrl h)
  have KA := (fun W (hW : Below w.heap.size w W) r1 r2 r3 hr => RecordSession_any (L := L) (n := L.length) (lc := d) (LA := B) t A1 A2 A3 c1 c2 c3 W r1 r2 r3 hs hr (by omega) (HTB.out W hW))
  have KB := (fun W r1 r2 r3 hr => specRecordSession_any (L := L) (n := L.length) (lc := d) (LA := B) t A1 A2 A3 c1 c2 c3 W r1 r2 r3 hs hr (by omega))
  have KP := (fun W r1 r2 r3 hr => RunProgram_any (L := L) (n := L.length) (lc := d) (LA := B) t A1 A2 A3 c1 c2 c3 W r1 r2 r3 hs hr (by omega))
  have KT := (fun W r1 r2 r3 hr => TraceProgram_any (L := L) (n := L.length) (lc := d) (LA := B) t A1 A2 A3 c1 c2 c3 W r1 r2 r3 hs hr (by omega))
  have hTl := rpT_len L t
  have hRl := rcR_len L t
  unfold SCRet at KA KB
  unfold RPRet at KP
  unfold TPRet at KT
  obtain ⟨C, hC⟩ : ∃ v, rcC L t = v := ⟨_, rfl⟩
  obtain ⟨R, hR⟩ : ∃ v, rcR L t = v := ⟨_, rfl⟩
  obtain ⟨M, hM⟩ : ∃ v, rpM L t = v := ⟨_, rfl⟩
  obtain ⟨T, hT⟩ : ∃ v, rpT L t = v := ⟨_, rfl⟩
  obtain ⟨C2, hC2⟩ : ∃ v, rpC L t = v := ⟨_, rfl⟩
  simp only [hC, hR, hM, hT, hC2] at KA KB KP KT hTl hRl hall
  have KA := Lib.hid KA
  have KB := Lib.hid KB
  have KP := Lib.hid KP
  have KT := Lib.hid KT
  have HALL := Lib.hid hall
  clear hM hT hC hR hC2 hs hrl hall
  obtain ⟨g, hg⟩ : ∃ g, w1.heap.size = g := ⟨_, rfl⟩
  go_wp2_with fail
  refine Calls.kn (K1.al [.int .i64 t.a.base, .slice A1 t.a.digits.length c1, .int .i64 t.b.base, .slice A2 t.b.digits.length c2, .int .i64 t.s.base, .slice A3 t.s.digits.length c3, .int .i64 t.carry] 32) ?_; intro w2 K2
  rw [hg] at K2
  try rw [hg]
  clear K1 hg
  refine (KA.out _ K2.below (K2.front 3 rfl).riv (K2.front 2 rfl).riv (K2.front 1 rfl).riv (Kn.rlIns (K2.front 4 rfl)).2).mono ?_; rintro e w3 ⟨X, x, rfl, hK⟩
  have K3 := K2.join hK
  clear KA hK K2
  obtain ⟨a1, a2, a3, -⟩ := (K3.front 1 rfl).cells
  go_wp2_with fail
  refine (KB.out _ (K3.front 4 rfl).riv (K3.front 3 rfl).riv (K3.front 2 rfl).riv (Kn.rlIns (K3.front 5 rfl)).2).mono ?_; rintro e w4 ⟨Y, y, rfl, hK⟩
  have K4 := K3.join hK
  clear KB hK K3 a1 a2 a3
  go_wp2_with fail
  refine (f6texts_same X Y R.length x y R w4 (Kn.rlSN (K4.front 1 rfl)).2 (Kn.rlSN (K4.front 0 rfl)).2 (by omega)).mono ?_; rintro e w5 ⟨rfl, q, rfl⟩
  have K5 := (K4.drewN q).sel [1, 2, 3, 4, 5, 6] 99 (by decide) (by decide)
  generalize w4.drewN q = w5 at K5 ⊢
  clear K4
  by_cases hC0 : C = 0
  rotate_left
  · have hC1 : (C == 0) = false := by simpa using hC0
    have hC2 : (C != 0) = true := by simpa using hC0
    go_wp2_with fail
    go_ret
    exact ⟨rfl, K5.below⟩
  subst hC0
  obtain ⟨rfl, hrs, hwc, hss, hsz⟩ := HALL.out rfl
  clear HALL
  have KR := (fun W (hW : Below w.heap.size w W) hr => ReplaySession_any X R.length x R W hr hsz (HTB.out W hW))
  have KS := (fun W (hW : Below w.heap.size w W) hr => SessionStrokes_any X R.length x R W hr hsz (HTB.out W hW))
  unfold RSRet MCRet at KR
  unfold ssRet at KS
  simp only [hrs, hwc, hss] at KR KS
  have KR := Lib.hid KR
  have KS := Lib.hid KS
  clear hrs hwc hss hsz
  go_wp2_with fail
  refine (KR.out _ K5.below (Kn.rlSN (K5.front 0 rfl)).2).mono ?_; rintro e w6 ⟨E1, f1, E2, f2, E3, f3, rfl, hK⟩
  have K6 := K5.join hK
  clear KR hK K5
  obtain ⟨g2, hg2⟩ : ∃ g, w6.heap.size = g := ⟨_, rfl⟩
  go_upto_region 11 with fail
  refine Code.wp.kn (K6.al [.int .i64 M.a.base, .slice E1 M.a.digits.length f1, .int .i64 M.b.base, .slice E2 M.b.digits.length f2, .int .i64 M.s.base, .slice E3 M.s.digits.length f3, .int .i64 M.carry] 32) ?_; intro w7 K7
  rw [hg2] at K7
  try rw [hg2]
  clear K6 hg2
  obtain ⟨a1, a2, a3, -⟩ := (K7.front 5 rfl).cells
  go_wp2_with fail
  refine (KP.out _ (K7.front 8 rfl).riv (K7.front 7 rfl).riv (K7.front 6 rfl).riv (Kn.rlIns (K7.front 9 rfl)).2).mono ?_; rintro e w8 ⟨G1, h1, G2, h2, G3, h3, rfl, hK⟩
  have K8 := K7.join hK
  clear KP hK K7 a1 a2 a3
  obtain ⟨g3, hg3⟩ : ∃ g, w8.heap.size = g := ⟨_, rfl⟩
  go_upto_region 12 with fail
  refine Code.wp.kn (K8.al [.int .i64 M.a.base, .slice G1 M.a.digits.length h1, .int .i64 M.b.base, .slice G2 M.b.digits.length h2, .int .i64 M.s.base, .slice G3 M.s.digits.length h3, .int .i64 M.carry] 32) ?_; intro w9 K9
  rw [hg3] at K9
  try rw [hg3]
  clear K8 hg3
  go_wp2_with fail
  refine (KS.out _ K9.below (Kn.rlSN (K9.front 8 rfl)).2).mono ?_; rintro e w10 ⟨SA, sa, rfl, hK⟩
  have K10 := K9.join hK
  clear KS hK K9
  obtain ⟨a1, a2, a3, -⟩ := (K10.front 10 rfl).cells
  go_wp2_with fail
  refine (KT.out _ (K10.front 13 rfl).riv (K10.front 12 rfl).riv (K10.front 11 rfl).riv (Kn.rlIns (K10.front 14 rfl)).2).mono ?_; rintro e w11 ⟨TA, ta, rfl, hK⟩
  have K11 := K10.join hK
  clear KT hK K10 a1 a2 a3
  obtain ⟨a1, a2, a3, -⟩ := (K11.front 2 rfl).cells
  obtain ⟨b1, b2, b3, -⟩ := (K11.front 6 rfl).cells
  go_wp2_with fail
  have hsm : SmallTri M := ⟨Kn.rowSmall (K11.front 5 rfl), Kn.rowSmall (K11.front 4 rfl), Kn.rowSmall (K11.front 3 rfl)⟩
  have hsame := specSameMachine_any M M E1 E2 E3 G1 G2 G3 f1 f2 f3 h1 h2 h3 w11 (K11.front 9 rfl).riv (K11.front 8 rfl).riv (K11.front 7 rfl).riv (K11.front 5 rfl).riv (K11.front 4 rfl).riv (K11.front 3 rfl).riv hsm hsm
  rw [sameM_refl] at hsame
  refine hsame.mono ?_; rintro e w12 ⟨rfl, hw⟩
  have K12 := K11.keep hw
  clear K11 hw hsame hsm a1 a2 a3 b1 b2 b3
  go_wp2_with fail
  have hfi := f6ints_any SA TA T.length sa T.length ta T T w12 (K12.front 1 rfl).riv (K12.front 0 rfl).riv (by omega) (by omega)
  rw [show decide (T = T) = true from decide_eq_true rfl] at hfi
  refine hfi.mono ?_; rintro e w13 ⟨rfl, q, rfl⟩
  have K13 := K12.drewN q
  generalize w12.drewN q = w13 at K13 ⊢
  clear hfi K12
  go_wp2_with fail
  go_ret
  exact ⟨by simp, K13.below⟩
end Go.Proofs.YtafnebpbfmbgiaaGreatDoor

namespace Go.Proofs.YtafnebpbfmbgiaaGreatDoor.fnRecorded
open Go.ChangeShapes Go.WideShapes Go.ChangeAt Go.RowKit
set_option maxRecDepth 100000 in
theorem contract (H : Type) (enc : TypeId × Value → H) (W : World) (base : Nat) (args : Array Value) (ds gs : List (DataW H)) (before : List MemPlace)
    (hval : ∀ (j : Nat) t v, Tryz.f4.params[j]? = some t → args[j]? = some v → Value.okWide Tryz.prog W .any base t v)
    (hW : DataW.Whole enc Tryz.prog Tryz.f4.params.toList Rows.fnRecordedSpec.vars false W args.toList ds gs before) (hL : laidMetH Tryz.prog Rows.fnRecordedRow.laid W) :
    Calls Tryz.prog 4 args W fun e W' => ∃ v, e = .returned v ∧ Rows.fnRecordedSpec.post enc Tryz.prog Tryz.f4 false true false false W args v W' := by
  have hW' := hW
  obtain ⟨p, q, hA0, hV, rfl, hfz, hnd⟩ := hW
  have hA : DataW.TrodAll enc Tryz.prog W 0 (fun _ => true) true Tryz.f4.params.toList args.toList ds p := hA0
  rw [Tryz.params4] at hA hval
  obtain ⟨v0, vs0, d0, ds0, p0, q0, hargs, rfl, rfl, h0, r0⟩ := trodAll_cons hA
  obtain ⟨rfl, rfl, rfl⟩ := trodAll_nil r0
  obtain rfl : args = #[v0] := by cases args; simp_all
  obtain ⟨rfl, rfl⟩ := trodVars_none hV
  clear hA0
  simp only [List.append_nil] at hW'
  have hlt : ∀ x ∈ p0, x.block < W.heap.size := fun x hx => by
    have := hW'.lt x (by simpa using hx)
    simpa using this
  obtain ⟨Y0A, Y0n, Y0c, rfl⟩ := okWide_slice Tryz.underlying22 (hval 0 _ _ rfl rfl)
  have t0 := h0
  obtain ⟨fuel0, hf0⟩ := h0
  obtain ⟨QA0, Qn0, Qc0, Y0xs, hcs0, hr0, hn0⟩ := rd_bytes hf0
  obtain ⟨rfl, rfl, rfl⟩ : QA0 = Y0A ∧ Qn0 = Y0n ∧ Qc0 = Y0c := by
    have : [Value.slice Y0A Y0n Y0c] = [.slice QA0 Qn0 Qc0] := hcs0
    injection this with this
    injection this with e1 e2 e3
    exact ⟨e1.symm, e2.symm, e3.symm⟩
  have walk : Calls Tryz.prog 4 #[.slice QA0 Qn0 Qc0] W fun e w' => e = .returned (.bool true) ∧ Below W.heap.size W w' :=
    law_Recorded QA0 Qn0 Qc0 Y0xs W hr0 hn0 (tb_of_laid hL)
  refine walk.mono fun e W' ⟨he, hb⟩ => ?_
  subst he
  have u0 := Below.trod laidOut (by kernel_rfl) (of_decide_eq_true (by kernel_rfl)) t0 hb hlt
  exact ⟨_, rfl, [d0], [], p0 ++ [], [], p0 ++ [], [], by simpa using hW', trodAll_cons_mk (shut_bool Tryz.underlying4 _) trodAll_mk0, (trodAll_cons_mk u0 trodAll_mk0), rfl, hb.frame _, fun h => by cases h⟩
theorem reads (os : Os) {H : Type} (enc : TypeId × Value → H) : ∃ places, DataW.whole enc Tryz.prog ((laidWorld os).forCall (fun _ _ => 0) ⟨#[], #[.slice none 0 0], []⟩).memory Tryz.f4.params.toList Rows.fnRecordedSpec.vars false (#[.slice none 0 0] : Array Value).toList 8 = some ([.nil], [], places) :=
  ⟨[], by kernel_rfl⟩
set_option maxRecDepth 100000 in
theorem lifted (os : Os) (started : os.Started) (H : Type) (enc : TypeId × Value → H) (F : Stop.Interp) :
    ReturnsInHanded {} Tryz.checked os 4 .any ((OpenSpec.ofChange Rows.fnRecordedSpec).preRow enc Tryz.prog Tryz.f4 Rows.fnRecordedRow.domain false Rows.fnRecordedRow.laid) (((OpenSpec.ofChange Rows.fnRecordedSpec).at F).post enc Tryz.prog Tryz.f4 false true false false) := by
  obtain ⟨places, hx⟩ := reads os enc
  refine returnsInHanded_of_row (C := Tryz.checked) (s := OpenSpec.ofChange Rows.fnRecordedSpec) own started (by kernel_rfl) Tryz.func4
    (witness_row_at (enc := enc) (C := Tryz.checked) false (laidWorld os) #[.slice none 0 0] rfl (by kernel_rfl) (by kernel_rfl) (by kernel_rfl)
      (OpenSpec.preRow_of_cond 8 hx (by kernel_rfl) (fun k hk => by cases hk) (by kernel_rfl) (laid_met os _))) ?_
  intro W base args ds gs before hval hW _ _ _ hL _ _
  exact contract H enc W base args ds gs before hval hW hL
set_option maxRecDepth 100000 in
set_option maxHeartbeats 20000000 in
theorem closed : joinedFacts Tryz.pinned.checked.prog 4 Tryz.f4 (OpenSpec.ofChange Rows.fnRecordedSpec).bare Rows.fnRecordedRow = true := by
  unfold joinedFacts
  simp only [Bool.and_eq_true]
  repeat' apply And.intro
  all_goals (as_aux_lemma => kernel_rfl)
theorem said : Rows.FnRecordedSaid :=
  OpenClaim.holds_of_cond 4 Tryz.f4 rfl rfl rfl rfl rfl rfl rfl ⟨rfl, rfl, rfl, rfl, rfl⟩ rfl rfl rfl rfl rfl (by kernel_rfl) Tryz.func4 closed
    (of_decide_eq_true (by kernel_rfl)) (by unfold Func.isWrapper; first | (rw [if_pos (by decide +kernel)]; kernel_rfl) | (rw [if_neg (by decide +kernel)]; exact ⟨rfl, rfl⟩))
    (fun os started H enc _ F => by rw [OpenClaim.pre_eq_preRow]; exact lifted os started H enc F)
theorem plain (f : FuncId) (fn : Func) (hf : Tryz.pinned.checked.prog.funcNamed "loop.example/g00930/laws.FnRecorded" = some f) (hfn : Tryz.pinned.checked.prog.funcs[f]? = some fn) :
    false = Tryz.pinned.checked.prog.looks [] ∧ ∀ (j : Nat) t, fn.params[j]? = some t → Tryz.pinned.checked.prog.wantsStandIn t = false := by
  obtain rfl : f = 4 := Option.some.inj ((show Tryz.prog.funcNamed "loop.example/g00930/laws.FnRecorded" = some 4 by kernel_rfl).symm.trans hf) |>.symm
  obtain rfl : fn = Tryz.f4 := (Option.some.inj (Tryz.func4.symm.trans hfn)).symm
  refine ⟨by kernel_rfl, fun j t ht => ?_⟩
  rw [Tryz.params4] at ht
  have s0 : Tryz.prog.wantsStandIn 22 = false := by kernel_rfl
  have hm := Array.mem_of_getElem? ht
  obtain rfl : t = 22 := by simpa using hm
  exact s0
/-- THE CARD. -/
theorem card : Rows.FnRecordedCardSaid :=
  Claim7.holds_tied_plain_at .later [] _ _ _ _ said (fun _ h => by cases h) (by kernel_rfl) (fun _ h => by cases h) fnRecorded_row_tie rfl ⟨rfl, rfl⟩ (by kernel_rfl) rfl plain (by kernel_rfl)
end Go.Proofs.YtafnebpbfmbgiaaGreatDoor.fnRecorded
