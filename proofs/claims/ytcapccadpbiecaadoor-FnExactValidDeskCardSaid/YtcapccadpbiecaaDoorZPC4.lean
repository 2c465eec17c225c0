/- For every input the law FnExactValidDesk returns true and leaves its arguments as they were: the program's test of a console's state answers as the reference's. Condition: the tables of strconv hold what the program's text lays (tied by the card). -/
import Derived.Test.YtcapccadpbiecaaDoorZC1
import Derived.Test.YtcapccadpbiecaaDoorZC2
import Derived.Test.YtcapccadpbiecaaDoorZC3
import Derived.Test.YtcapccadpbiecaaDoorZC4
import Derived.Test.YtcapccadpbiecaaDoorZC5
import Derived.Test.YtcapccadpbiecaaDoorZC6
import Derived.Test.YtcapccadpbiecaaDoorZC7
import Derived.Test.YtcapccadpbiecaaDoorZC8
import Derived.Test.YtcapccadpbiecaaDoorZC9
import Derived.Deep.RegionLaw
import Derived.Deep.AppendLies
import Derived.Maps.OwnOps
import Derived.Maps.OwnSet
import Derived.Maps.Views
import Derived.WalkSmall
import Derived.Laws.Bits64b
import Derived.Deep.DeepCutAuto
import Derived.Deep.RegionHeld3
import Derived.Deep.Slices
import Derived.SliceStrings
import Derived.ChangeMaps5
import Derived.OpenShut
import Derived.ProofKit
import Derived.Carry
namespace Go.Proofs.YtcapccadpbiecaaDoor
open Go.RowKit Go.Sort
structure Flt where
  kind : Int
  lever : Int
def FltM (w : World) (p : Addr) (f : Flt) : Prop := w.cell? p = some (.int .i64 f.kind) ∧ w.cell? ⟨p.block, p.off + 1, none⟩ = some (.int .i64 f.lever)
theorem steady_FltM : Steady FltM := by
  rintro w w' p f hp hb ⟨h1, h2⟩
  exact ⟨by rw [hb.cell hp]; exact h1, by rw [hb.cell (by exact hp)]; exact h2⟩
def kindAt (fs : List Flt) (j : Int) : Int := fs.foldl (fun a f => if f.lever = j then f.kind else a) 0
theorem kindAt_succ {fs : List Flt} {k : Nat} (h : k < fs.length) (j : Int) : kindAt (fs.take (k + 1)) j = if fs[k].lever = j then fs[k].kind else kindAt (fs.take k) j := by
  unfold kindAt
  rw [List.take_succ_eq_append_getElem h, List.foldl_append]; rfl
def kindsL (fs : List Flt) (n : Nat) : List Int := (List.range n).map (fun (i : Nat) => kindAt fs (i : Int))
theorem kindsL_set {fs : List Flt} {k n l : Nat} (h : k < fs.length) (hl : fs[k].lever = (l : Int)) : ((kindsL (fs.take k) n).map (Value.int .i64)).set l (.int .i64 fs[k].kind) = (kindsL (fs.take (k + 1)) n).map (Value.int .i64) := by
  apply List.ext_getElem
  · simp [kindsL]
  · intro i h1 h2
    rw [List.getElem_set]
    simp only [kindsL, List.map_map, List.getElem_map, List.getElem_range, Function.comp, kindAt_succ h, hl]
    by_cases g : l = i
    · subst g; simp
    · have : ¬ (l : Int) = (i : Int) := by omega
      rw [if_neg g, if_neg this]
theorem kindsL_nil (n : Nat) : (kindsL [] n).map (Value.int .i64) = List.replicate n (.int .i64 0) := by
  apply List.ext_getElem
  · simp [kindsL]
  · intro i h1 h2; simp [kindsL, kindAt]
def GoodF (n : Nat) (fs : List Flt) : Prop := ∀ f ∈ fs, 1 ≤ f.kind ∧ f.kind ≤ 3 ∧ 0 ≤ f.lever ∧ f.lever < n
end Go.Proofs.YtcapccadpbiecaaDoor

namespace Go.Proofs.YtcapccadpbiecaaDoor
open Go.RowKit Go.Sort
def carryAt (base : Int) (A B : List Int) (fs : List Flt) : Nat → Int
  | 0 => 0
  | k + 1 => cstep base (A.getD k 0 + B.getD k 0) (carryAt base A B fs k) (kindAt fs k)
def sumD (base : Int) (A B : List Int) (fs : List Flt) (k : Nat) : Int := (A.getD k 0 + B.getD k 0 + carryAt base A B fs k).tmod base
def sumL (base : Int) (A B : List Int) (fs : List Flt) (n : Nat) : List Int := (List.range n).map (sumD base A B fs)
theorem sumL_succ (base : Int) (A B : List Int) (fs : List Flt) (n : Nat) : sumL base A B fs (n + 1) = sumL base A B fs n ++ [sumD base A B fs n] := by simp [sumL, List.range_succ]
theorem sumL_len (base : Int) (A B : List Int) (fs : List Flt) (n : Nat) : (sumL base A B fs n).length = n := by simp [sumL]
theorem cstep_bd (base t c k : Int) : 0 ≤ cstep base t c k ∧ cstep base t c k ≤ 1 := by unfold cstep; split <;> (try split) <;> (try split) <;> (try split) <;> omega
theorem carryAt_bd (base : Int) (A B : List Int) (fs : List Flt) (k : Nat) : 0 ≤ carryAt base A B fs k ∧ carryAt base A B fs k ≤ 1 := by
  cases k with
  | zero => simp [carryAt]
  | succ k => exact cstep_bd _ _ _ _
end Go.Proofs.YtcapccadpbiecaaDoor

namespace Go.Proofs.YtcapccadpbiecaaDoor
open Go.RowKit Go.Sort Go.Maps
theorem law_i64 : Keyed Tryd.prog 2 := int_keyed Tryd.underlying2
theorem zero_i64 (w : World) : (zeroValue 2).run Tryd.prog w = .ok (.int .i64 0) w := by kernel_rfl
def MapIs (D : DataW Unit) (fs : List Flt) : Prop := IsMap D ∧ ∀ j : Int, D.atKey (.int .i64 j) (.lit (.int .i64 0)) = .lit (.int .i64 (kindAt fs j))
theorem MapIs.nil : MapIs (.map []) [] := ⟨⟨_, rfl⟩, fun _ => rfl⟩
theorem MapIs.put {D : DataW Unit} {fs : List Flt} {k : Nat} (h : MapIs D (fs.take k)) (hk : k < fs.length) : MapIs (D.put (.int .i64 fs[k].lever) (.lit (.int .i64 fs[k].kind))) (fs.take (k + 1)) := by
  obtain ⟨h1, h2⟩ := h
  refine ⟨?_, fun j => ?_⟩
  · obtain ⟨es, rfl⟩ := h1
    exact ⟨_, rfl⟩
  · rw [kindAt_succ hk]
    by_cases g : fs[k].lever = j
    · rw [if_pos g, g, atKey_put_same h1 (by trivial)]
    · rw [if_neg g, atKey_put_other (by intro e; injection e with _ e; exact g e.symm), h2]
theorem qstep (base t c : Int) (h0 : 0 ≤ t + c) (h1 : t + c < 2 * base) : (t + c) / base = if t + c < base then 0 else 1 := by
  split
  · rename_i h; exact Int.ediv_eq_zero_of_lt h0 h
  · rename_i h
    have hb : 0 < base := by omega
    rw [show t + c = (t + c - base) + 1 * base by omega, Int.add_mul_ediv_right _ _ (by omega), Int.ediv_eq_zero_of_lt (by omega) (by omega)]; rfl
theorem carry_1 {base t c cc : Int} (h : (cc == 1) = true) : cstep base t c cc = 0 := by unfold cstep; rw [if_pos (by simpa using h)]
theorem carry_2 {base t c cc : Int} (h1 : (cc == 1) = false) (h : (cc == 2) = true) : cstep base t c cc = 1 := by unfold cstep; rw [if_neg (by simpa using h1), if_pos (by simpa using h)]
theorem carry_3 {base t c cc : Int} (h1 : (cc == 1) = false) (h2 : (cc == 2) = false) (h : (cc == 3) = true) (hq : t / base = if t < base then 0 else 1) : cstep base t c cc = t / base := by
  unfold cstep; rw [if_neg (by simpa using h1), if_neg (by simpa using h2), if_pos (by simpa using h), hq]
theorem carry_4 {base t c cc : Int} (h1 : (cc == 1) = false) (h2 : (cc == 2) = false) (h : (cc == 3) = false) (hq : (t + c) / base = if t + c < base then 0 else 1) : cstep base t c cc = (t + c) / base := by
  unfold cstep; rw [if_neg (by simpa using h1), if_neg (by simpa using h2), if_neg (by simpa using h), hq]
theorem ownsMap_below {w w' : World} {k e : TypeId} {b n : Nat} {D : DataW Unit} (h : w.ownsMap Tryd.prog k (plainElem Tryd.prog e) b n D) (hb : Below w.heap.size w w') : w'.ownsMap Tryd.prog k (plainElem Tryd.prog e) b n D := by
  have hlt := h.lt
  obtain ⟨es, clock, h1, F, hs, hD⟩ := h
  exact ⟨es, clock, (hb.block b hlt).trans h1, F, hs, hD⟩
end Go.Proofs.YtcapccadpbiecaaDoor

namespace Go.Proofs.YtcapccadpbiecaaDoor
open Go.RowKit Go.Sort
def TOK (t : Tri) : Prop := t.a.digits.length = t.b.digits.length ∧ t.a.digits.length ≤ 16 ∧ 2 ≤ t.a.base ∧ t.a.base ≤ 16 ∧ (∀ d ∈ t.a.digits, 0 ≤ d ∧ d < t.a.base) ∧ (∀ d ∈ t.b.digits, 0 ≤ d ∧ d < t.a.base) ∧ SmallTri t
theorem tok_of {r0 : Reg} {t : Tri} (h : triGood r0 t = true) (hs : SmallTri t) : TOK t := by
  simp only [triGood, vlike, Bool.and_eq_true, decide_eq_true_eq, beq_iff_eq] at h
  obtain ⟨⟨⟨⟨⟨h1, h2⟩, h3⟩, ⟨h4, h5⟩, h6⟩, -⟩, -⟩ := h
  obtain ⟨⟨p1, p2⟩, ⟨-, p4⟩, p5, -⟩ := vreg_iff.1 h1
  obtain ⟨-, -, q5, -⟩ := vreg_iff.1 h4
  refine ⟨by omega, by omega, p1, p2, p5, ?_, hs⟩
  rw [h2, ← h5]; exact q5
def sumReg (t : Tri) (fs : List Flt) : Reg := ⟨t.a.base, sumL t.a.base t.a.digits t.b.digits fs t.a.digits.length⟩
def expl (t : Tri) (fs : List Flt) : Bool := sameR (sumReg t fs) t.s && (carryAt t.a.base t.a.digits t.b.digits fs t.a.digits.length == t.carry)
end Go.Proofs.YtcapccadpbiecaaDoor

namespace Go.Proofs.YtcapccadpbiecaaDoor
open Go.RowKit Go.Sort
def Asc (fs : List Flt) : Prop := ∀ (k : Nat) (h : k + 1 < fs.length), (fs[k]'(by omega)).lever < fs[k + 1].lever
def vexpl (ts : List Tri) (fs : List Flt) : Bool := ts.all (fun t => expl t fs)
theorem between_b (a b c : Int) (w : World) : Calls Tryd.prog 127 #[.int .i64 a, .int .i64 b, .int .i64 c] w fun e w' => e = .returned (.bool (betB a b c)) ∧ Below w.heap.size w w' :=
  (between_any a b c w).mono fun _ _ ⟨h, e⟩ => ⟨h, e ▸ Below.refl _ _⟩
theorem isFault_any (n : Nat) (f : Flt) (w : World) (hn : n ≤ 16) (h1 : 1 ≤ f.kind) (h2 : f.kind ≤ 3) (h3 : 0 ≤ f.lever) (h4 : f.lever < n) :
    Calls Tryd.prog 193 #[.int .i64 n, .agg #[.int .i64 f.kind, .int .i64 f.lever]] w fun e w' => e = .returned (.bool true) ∧ Below w.heap.size w w' := by
  have k1 : betB f.kind 1 3 = true := betB_iff.2 ⟨h1, h2⟩
  have k2 : betB f.lever 0 (n - 1) = true := betB_iff.2 ⟨h3, by omega⟩
  have K1 := Lib.hid k1; have K2 := Lib.hid k2
  clear k1 k2
  go_enter Tryd.func193, Tryd.ntmps193
  go_wp2_with (go_at_call 127; refine (between_any _ _ _ _).mono ?_; rintro e w' ⟨rfl, rfl⟩; first | rw [K1.out] | rw [K2.out])
  go_ret
  exact ⟨rfl, (Below.refl _ _).alloc (Nat.le_refl _) _⟩
set_option maxHeartbeats 1600000 in
theorem ValidFaults_true (n : Nat) (A : Option Addr) (m c : Nat) (fs : List Flt) (w : World) (hr : RL FltM 2 w A m fs) (hg : GoodF n fs) (ha : Asc fs) (hn1 : 1 ≤ n) (hn : n ≤ 16) (hm : m ≤ 1000000) :
    Calls Tryd.prog 141 #[.int .i64 n, .slice A m c] w fun e w' => e = .returned (.bool true) ∧ Below w.heap.size w w' := by
  have HL := Lib.hid hr.1
  go_enter Tryd.func141, Tryd.ntmps141
  go_wp2
  go_loopw [9] (fun i wr => ∃ k : Nat, k ≤ m ∧ i = .int .i64 k ∧ Below w.heap.size w wr) (fun i _ => m - (intOf i).toNat)
  case atStart => exact ⟨0, Nat.zero_le _, rfl, Below.refl _ _⟩
  case round =>
    obtain ⟨k, hk, rfl, hbr⟩ := hrel
    by_cases hkn : k < m
    · obtain ⟨ad, hA, hlt, hkl, f1, f2⟩ := (hr.below steady_FltM hbr).at_ hkn
      obtain ⟨q1, q2, q3, q4⟩ := hg fs[k] (List.getElem_mem _)
      have KF := Lib.hid (fun (W : World) => isFault_any n fs[k] W hn q1 q2 q3 q4)
      have hi0 : (0 : Int) ≤ (k : Int) := by omega
      have hi1 : (k : Int) < (m : Int) := by omega
      have hfb : Below wr.heap.size wr (wr.alloc (.cells #[.int .i64 fs[k].kind, .int .i64 fs[k].lever] 204)) := (Below.refl _ _).alloc (Nat.le_refl _) _
      have x1 := cell_regrown (show (wr.alloc (.cells #[.int .i64 fs[k].kind, .int .i64 fs[k].lever] 204)).cell? ⟨wr.heap.size, 0, none⟩ = some (.int .i64 fs[k].kind) by go_simp)
      have x2 := cell_regrown (show (wr.alloc (.cells #[.int .i64 fs[k].kind, .int .i64 fs[k].lever] 204)).cell? ⟨wr.heap.size, 1, none⟩ = some (.int .i64 fs[k].lever) by go_simp)
      rcases Nat.eq_zero_or_pos k with hk0 | hk0
      · subst hk0
        rw [Nat.zero_mul, addr_add_zero] at f1 f2
        subst hA
        go_wp2_with fail
        refine wp_region_quiet_below (by kernel_rfl) (by kernel_rfl) ?_
        repeat (go_big_quiet_step ((go_at_call 193; exact quietB (fun W _ => KF.out W))))
        refine wpQuiet_nil ?_
        intro W1 hw'
        have hB1 : Below wr.heap.size wr W1 := by
          obtain ⟨⟨dq, osq⟩, hw''⟩ := hw'
          rw [hw'']; exact hfb.trans ((below_regrown _ dq osq).mono hfb.size)
        clear hw'
        go_wp2
        go_roundw
        case rel => exact ⟨1, by omega, by go_num, hbr.trans (hB1.mono hbr.size)⟩
        case measure => simp [intOf]; omega
      · obtain ⟨ad', hA', -, hkl', g1, g2⟩ := (hr.below steady_FltM hbr).at_ (show k - 1 < m by omega)
        obtain rfl : ad = ad' := by rw [hA] at hA'; injection hA'
        clear hA'
        have hasc := ha (k - 1) (by omega)
        have he : fs[k - 1 + 1] = fs[k] := by congr 1; omega
        rw [he] at hasc
        obtain ⟨lv, hlv⟩ : ∃ lv, lv = fs[k - 1].lever := ⟨_, rfl⟩
        rw [← hlv] at g2 hasc
        clear hlv he g1
        have y2 := cell_regrown ((hfb.cell (by rw [show (⟨(ad.add ((k - 1) * 2)).block, (ad.add ((k - 1) * 2)).off + 1, none⟩ : Addr).block = ad.block from block_of_add _ _]; exact hlt)).trans g2)
        have hd : decide ((0 : Int) < (k : Int)) = true := decide_eq_true (by omega)
        have hd2 : decide (fs[k].lever ≤ lv) = false := decide_eq_false (by omega)
        have hi2 : (0 : Int) < (k : Int) := by omega
        subst hA
        go_wp2_with fail
        refine wp_region_quiet_below (by kernel_rfl) (by kernel_rfl) ?_
        repeat (go_big_quiet_step ((go_at_call 193; exact quietB (fun W _ => KF.out W))))
        refine wpQuiet_nil ?_
        intro W1 hw'
        have hB1 : Below wr.heap.size wr W1 := by
          obtain ⟨⟨dq, osq⟩, hw''⟩ := hw'
          rw [hw'']; exact hfb.trans ((below_regrown _ dq osq).mono hfb.size)
        clear hw'
        go_wp2
        go_roundw
        case rel => exact ⟨k + 1, by omega, by go_num, hbr.trans (hB1.mono hbr.size)⟩
        case measure => simp [intOf]; omega
    · have K1 : betB (n : Int) 1 16 = true := betB_iff.2 ⟨by omega, by omega⟩
      have KK := Lib.hid K1; clear K1
      go_wp2_with (go_at_call 181; refine (isRegisterWidth_any _ _).mono ?_; rintro e w' ⟨rfl, rfl⟩; rw [KK.out])
      go_ret
      exact ⟨rfl, hbr⟩
end Go.Proofs.YtcapccadpbiecaaDoor

namespace Go.Proofs.YtcapccadpbiecaaDoor
open Go.RowKit Go.Sort
end Go.Proofs.YtcapccadpbiecaaDoor

namespace Go.Proofs.YtcapccadpbiecaaDoor
open Go.RowKit Go.Sort
/-- the first lever behind a list of faults -/
def nextL (l : List Flt) : Nat := match l.getLast? with
  | none => 0
  | some f => f.lever.toNat + 1
def grown3 (l : List Flt) (k : Nat) : List (List Flt) := [l ++ [⟨1, k⟩], l ++ [⟨2, k⟩], l ++ [⟨3, k⟩]]
def grownL (n : Nat) (l : List Flt) : List (List Flt) := (List.range' (nextL l) (n - nextL l)).flatMap (grown3 l)
def fsets (n : Nat) : Nat → List (List Flt)
  | 0 => [[]]
  | m + 1 => (fsets n m).flatMap (grownL n)
/-- lists of faults of a width, rising -/
def FOK (n : Nat) (fs : List Flt) : Prop := GoodF n fs ∧ Asc fs ∧ fs.length ≤ 2
end Go.Proofs.YtcapccadpbiecaaDoor

namespace Go.Proofs.YtcapccadpbiecaaDoor
open Go.RowKit Go.Sort
theorem tpF : TP 84 204 (.agg #[.int .i64 0, .int .i64 0]) 2 16 := ⟨Tryd.underlying84, by kernel_rfl, rfl, by decide⟩
def fcells (fs : List Flt) : List Value := fs.flatMap (fun f => [Value.int .i64 f.kind, .int .i64 f.lever])
theorem fcells_len (fs : List Flt) : (fcells fs).length = fs.length * 2 := by
  induction fs with
  | nil => rfl
  | cons f fs ih => simp only [fcells, List.flatMap_cons, List.length_append, List.length_cons, List.length_nil] at ih ⊢; omega
theorem fcells_app (fs gs : List Flt) : fcells (fs ++ gs) = fcells fs ++ fcells gs := by simp [fcells]
theorem fcells_one (fs : List Flt) : ∀ u ∈ fcells fs, u.oneCell' = true := by
  intro u hu
  simp only [fcells, List.mem_flatMap, List.mem_cons, List.not_mem_nil, or_false] at hu
  obtain ⟨f, -, rfl | rfl⟩ := hu <;> rfl
theorem fcells_get (fs : List Flt) (k : Nat) (h : k < fs.length) : (fcells fs)[k * 2]? = some (.int .i64 fs[k].kind) ∧ (fcells fs)[k * 2 + 1]? = some (.int .i64 fs[k].lever) := by
  induction fs generalizing k with
  | nil => simp at h
  | cons f fs ih =>
    cases k with
    | zero => exact ⟨rfl, rfl⟩
    | succ k =>
      have h' : k < fs.length := by simpa using h
      obtain ⟨h1, h2⟩ := ih k h'
      refine ⟨?_, ?_⟩
      · rw [show (k + 1) * 2 = k * 2 + 1 + 1 by omega]; exact h1
      · rw [show (k + 1) * 2 + 1 = k * 2 + 1 + 1 + 1 by omega]; exact h2
theorem row_kept {w w' : World} {base : Nat} {e : TypeId} {size : Nat} {v : Value} {n : Nat} {xs : List Value} (h : w.ownsRow base e size v n xs) (hb : ∀ g, v.ownBlock = some g → w'.heap[g]? = w.heap[g]?) : w'.ownsRow base e size v n xs := by
  refine ⟨h.1, ?_⟩
  rcases h.2 with hn | ⟨g, cap, cur, rfl, hbg, hg, rest⟩
  · exact .inl hn
  · exact .inr ⟨g, cap, cur, rfl, hbg, by rw [hb g rfl]; exact hg, rest⟩
theorem row_mono {w : World} {base b' : Nat} {e : TypeId} {size : Nat} {v : Value} {n : Nat} {xs : List Value} (h : w.ownsRow base e size v n xs) (hb : b' ≤ base) : w.ownsRow b' e size v n xs := by
  refine ⟨h.1, ?_⟩
  rcases h.2 with hn | ⟨g, cap, cur, rfl, hbg, hg, rest⟩
  · exact .inl hn
  · exact .inr ⟨g, cap, cur, rfl, by omega, hg, rest⟩
/-- a list of faults in an own row at block g, which is not the row's -/
def Inner (w : World) (base : Nat) (row : Option Nat) (u : Value) (fs : List Flt) : Prop := ∃ g c, u = .slice (some ⟨g, 0, none⟩) fs.length c ∧ base ≤ g ∧ g < w.heap.size ∧ some g ≠ row ∧ w.ownsRow base 204 2 u fs.length (fcells fs)
theorem Inner.rl {w : World} {base : Nat} {row : Option Nat} {u : Value} {fs : List Flt} (h : Inner w base row u fs) : ∃ g c, u = .slice (some ⟨g, 0, none⟩) fs.length c ∧ RL FltM 2 w (some ⟨g, 0, none⟩) fs.length fs := by
  obtain ⟨g, c, rfl, h0, h1, h2, h3⟩ := h
  refine ⟨g, c, rfl, rfl, fun hn => ⟨_, rfl, h1, fun k hk => ?_⟩⟩
  obtain ⟨e1, e2⟩ := fcells_get fs k hk
  have f1 := h3.cells (g := g) rfl _ _ e1
  have f2 := h3.cells (g := g) rfl _ _ e2
  rw [add_zero_block] at f1 f2 ⊢
  exact ⟨f1, f2⟩
theorem Inner.kept {w w' : World} {base : Nat} {row row' : Option Nat} {u : Value} {fs : List Flt} (h : Inner w base row u fs) (hs : w.heap.size ≤ w'.heap.size) (hb : ∀ g, base ≤ g → g < w.heap.size → some g ≠ row → w'.heap[g]? = w.heap[g]? ∧ some g ≠ row') : Inner w' base row' u fs := by
  obtain ⟨g, c, rfl, h0, h1, h2, h3⟩ := h
  obtain ⟨b1, b2⟩ := hb g h0 h1 h2
  exact ⟨g, c, rfl, h0, Nat.lt_of_lt_of_le h1 hs, b2, row_kept h3 (fun k hk => by simp only [Value.ownBlock, Option.some.injEq] at hk; rw [← hk]; exact b1)⟩
/-- lists of faults in an own row of own rows -/
def Sets (w : World) (base : Nat) (v : Value) (L : List (List Flt)) : Prop := ∃ us : List Value, w.ownsRow base 84 1 v L.length us ∧ us.length = L.length ∧ ∀ (i : Nat) (h : i < L.length) (h' : i < us.length), Inner w base v.ownBlock us[i] L[i]
theorem Sets.below {w w' : World} {base : Nat} {v : Value} {L : List (List Flt)} (h : Sets w base v L) (hb : Below w.heap.size w w') : Sets w' base v L := by
  obtain ⟨us, h1, h2, h3⟩ := h
  refine ⟨us, ⟨h1.1, ?_⟩, h2, fun i hi hi' => (h3 i hi hi').kept hb.size (fun g _ hg hne => ⟨hb.block g hg, hne⟩)⟩
  rcases h1.2 with hn | ⟨g, cap, cur, rfl, hbg, hg, rest⟩
  · exact .inl hn
  · exact .inr ⟨g, cap, cur, rfl, hbg, by rw [hb.block g (Array.getElem?_eq_some_iff.1 hg).1]; exact hg, rest⟩
theorem own_lt {w : World} {base : Nat} {e : TypeId} {size : Nat} {v : Value} {n : Nat} {xs : List Value} (h : w.ownsRow base e size v n xs) : ∀ k, v.ownBlock = some k → base ≤ k ∧ k < w.heap.size := by
  intro k hk
  rcases h.2 with ⟨rfl, _⟩ | ⟨g, cap, cur, rfl, hbg, hg, _⟩
  · simp [Value.ownBlock] at hk
  · have : g = k := by simpa [Value.ownBlock] using hk
    subst this
    exact ⟨hbg, (Array.getElem?_eq_some_iff.1 hg).1⟩
theorem Sets.above {w w' : World} {base : Nat} {v : Value} {L : List (List Flt)} (h : Sets w base v L) (hs : w.heap.size ≤ w'.heap.size) (hb : ∀ g, base ≤ g → g < w.heap.size → w'.heap[g]? = w.heap[g]?) : Sets w' base v L := by
  obtain ⟨us, h1, h2, h3⟩ := h
  refine ⟨us, ⟨h1.1, ?_⟩, h2, fun i hi hi' => (h3 i hi hi').kept hs (fun g hb0 hg hne => ⟨hb g hb0 hg, hne⟩)⟩
  rcases h1.2 with hn | ⟨g, cap, cur, rfl, hbg, hg, rest⟩
  · exact .inl hn
  · exact .inr ⟨g, cap, cur, rfl, hbg, by rw [hb g hbg (Array.getElem?_eq_some_iff.1 hg).1]; exact hg, rest⟩
/-- one list more -/
theorem sets_push {wr w5 w6 : World} {B : Nat} {v v' : Value} {L : List (List Flt)} {us : List Value} {fs : List Flt} {g2 c2 : Nat} (hS : wr.ownsRow B 84 1 v L.length us) (hl : us.length = L.length)
    (hI : ∀ (i : Nat) (h : i < L.length) (h' : i < us.length), Inner wr B v.ownBlock us[i] L[i]) (hb : Below wr.heap.size wr w5) (hBz : B ≤ wr.heap.size) (hg1 : wr.heap.size ≤ g2) (hg2 : g2 < w5.heap.size)
    (hc : w5.ownsRow B 204 2 (.slice (some ⟨g2, 0, none⟩) fs.length c2) fs.length (fcells fs)) (ho : w6.ownsRow B 84 1 v' (L.length + 1) (us ++ [.slice (some ⟨g2, 0, none⟩) fs.length c2])) (hg : w5.grownBy w6 v.ownBlock)
    (hv : v'.ownBlock = v.ownBlock ∨ v'.ownBlock = some w5.heap.size) : Sets w6 B v' (L ++ [fs]) := by
  refine ⟨_, by simpa using ho, by simp [hl], fun i h h' => ?_⟩
  have hne2 : some g2 ≠ v.ownBlock := fun e => by have := (own_lt hS g2 e.symm).2; omega
  by_cases hi : i < L.length
  · rw [List.getElem_append_left (by omega), List.getElem_append_left hi]
    refine (hI i hi (by omega)).kept (Nat.le_trans hb.size hg.size) fun g _ hgl hne => ⟨?_, ?_⟩
    · rw [hg.block g (Nat.lt_of_lt_of_le hgl hb.size) hne, hb.block g hgl]
    · rcases hv with e | e
      · rw [e]; exact hne
      · rw [e]; intro e'; injection e' with e'; have := hb.size; omega
  · have : i = L.length := by simp at h; omega
    subst this
    rw [List.getElem_append_right (by omega), List.getElem_append_right (by omega)]
    simp only [hl, Nat.sub_self, List.getElem_cons_zero]
    refine ⟨g2, c2, rfl, by omega, Nat.lt_of_lt_of_le hg2 hg.size, ?_, row_kept hc (fun k hk => ?_)⟩
    · rcases hv with e | e
      · rw [e]; exact hne2
      · rw [e]; intro e'; injection e' with e'; omega
    · simp only [Value.ownBlock, Option.some.injEq] at hk
      rw [← hk]; exact hg.block g2 hg2 hne2
theorem mem_grownL {n : Nat} {l l' : List Flt} (h : l' ∈ grownL n l) : ∃ (q : Int) (k : Nat), l' = l ++ [⟨q, k⟩] ∧ 1 ≤ q ∧ q ≤ 3 ∧ nextL l ≤ k ∧ k < n := by
  simp only [grownL, List.mem_flatMap, List.mem_range'_1, grown3, List.mem_cons, List.not_mem_nil, or_false] at h
  obtain ⟨k, ⟨h1, h2⟩, h3⟩ := h
  rcases h3 with rfl | rfl | rfl
  · exact ⟨1, k, rfl, by omega, by omega, h1, by omega⟩
  · exact ⟨2, k, rfl, by omega, by omega, h1, by omega⟩
  · exact ⟨3, k, rfl, by omega, by omega, h1, by omega⟩
theorem nextL_last {l : List Flt} (h : 0 < l.length) : nextL l = (l[l.length - 1]'(by omega)).lever.toNat + 1 := by
  unfold nextL
  rw [List.getLast?_eq_getElem?, List.getElem?_eq_getElem (by omega)]
theorem fsets_ok (n : Nat) : ∀ (m : Nat) (l : List Flt), l ∈ fsets n m → GoodF n l ∧ Asc l ∧ l.length = m := by
  intro m
  induction m with
  | zero =>
    intro l h
    simp only [fsets, List.mem_cons, List.not_mem_nil, or_false] at h
    subst h
    exact ⟨fun f hf => (by cases hf), fun k hk => (by simp at hk), rfl⟩
  | succ m ih =>
    intro l' h
    simp only [fsets, List.mem_flatMap] at h
    obtain ⟨l, hl, hl'⟩ := h
    obtain ⟨g1, g2, g3⟩ := ih l hl
    obtain ⟨q, k, rfl, q1, q2, q3, q4⟩ := mem_grownL hl'
    refine ⟨fun f hf => ?_, fun i hi => ?_, by simp [g3]⟩
    · rcases List.mem_append.1 hf with h1 | h1
      · exact g1 f h1
      · simp only [List.mem_cons, List.not_mem_nil, or_false] at h1
        subst h1
        exact ⟨q1, q2, by simp, by simp; omega⟩
    · simp only [List.length_append, List.length_cons, List.length_nil] at hi
      by_cases hlast : i + 1 < l.length
      · rw [List.getElem_append_left (by omega), List.getElem_append_left hlast]; exact g2 i hlast
      · have hi' : i = l.length - 1 := by omega
        subst hi'
        have hpos : 0 < l.length := by omega
        rw [List.getElem_append_left (by omega), List.getElem_append_right (by omega)]
        have h0 := (g1 (l[l.length - 1]'(by omega)) (List.getElem_mem _)).2.2.1
        rw [nextL_last hpos] at q3
        simp only [show l.length - 1 + 1 - l.length = 0 by omega, List.getElem_cons_zero]
        omega
theorem grownL_len (n : Nat) (l : List Flt) : (grownL n l).length ≤ 3 * n := by
  unfold grownL
  have : ∀ (ks : List Nat), (ks.flatMap (grown3 l)).length = 3 * ks.length := by
    intro ks
    induction ks with
    | nil => rfl
    | cons k ks ih => simp only [List.flatMap_cons, List.length_append, ih, grown3, List.length_cons, List.length_nil]; omega
  rw [this, List.length_range']; omega
theorem flat_len (n : Nat) (S : List (List Flt)) : (S.flatMap (grownL n)).length ≤ 3 * n * S.length := by
  induction S with
  | nil => simp
  | cons l S ih =>
    have := grownL_len n l
    simp only [List.flatMap_cons, List.length_append, List.length_cons, Nat.mul_succ]; omega
theorem fsets_len (n m : Nat) : (fsets n (m + 1)).length ≤ 3 * n * (fsets n m).length := flat_len n _
end Go.Proofs.YtcapccadpbiecaaDoor

namespace Go.Proofs.YtcapccadpbiecaaDoor
open Go.RowKit Go.Sort
/-- a list of faults in an own row -/
def OwnF (w : World) (base : Nat) (v : Value) (fs : List Flt) : Prop := w.ownsRow base 204 2 v fs.length (fcells fs)
theorem OwnF.nil (w : World) (base : Nat) : OwnF w base (.slice none 0 0) [] := ⟨rfl, .inl ⟨rfl, rfl⟩⟩
theorem OwnF.below {w w' : World} {base : Nat} {v : Value} {fs : List Flt} (h : OwnF w base v fs) (hb : Below w.heap.size w w') : OwnF w' base v fs := row_below h hb
theorem OwnF.reads {w : World} {base : Nat} {v : Value} {fs : List Flt} (h : OwnF w base v fs) : ∃ A c, v = .slice A fs.length c ∧ RL FltM 2 w A fs.length fs := by
  rcases h.2 with ⟨rfl, hn⟩ | ⟨g, cap, cur, rfl, hb, hg, -⟩
  · exact ⟨none, 0, by rw [hn], rfl, fun h => by omega⟩
  · refine ⟨_, cap, rfl, rfl, fun hn => ⟨_, rfl, (Array.getElem?_eq_some_iff.1 hg).1, fun k hk => ?_⟩⟩
    obtain ⟨e1, e2⟩ := fcells_get fs k hk
    have f1 := World.ownsRow.cells h (g := g) rfl _ _ e1
    have f2 := World.ownsRow.cells h (g := g) rfl _ _ e2
    rw [add_zero_block] at f1 f2 ⊢
    exact ⟨f1, f2⟩
def cellsI (fs : List Flt) : List Int := fs.flatMap (fun f => [f.kind, f.lever])
theorem fcells_ints (fs : List Flt) : fcells fs = (cellsI fs).map (Value.int .i64) := by
  induction fs with
  | nil => rfl
  | cons f fs ih => simp only [fcells, cellsI, List.flatMap_cons, List.map_append, List.map_cons, List.map_nil] at ih ⊢; rw [ih]
theorem cellsI_len (fs : List Flt) : (cellsI fs).length = fs.length * 2 := by
  have h := fcells_len fs
  rw [fcells_ints, List.length_map] at h
  exact h
set_option maxHeartbeats 800000 in
theorem eqLeverFault_same (x y : Int) (w : World) :
    Calls Tryd.prog 194 #[.agg #[.int .i64 x, .int .i64 y], .agg #[.int .i64 x, .int .i64 y]] w fun e w' => e = .returned (.bool true) ∧ Below w.heap.size w w' := by
  go_enter Tryd.func194, Tryd.ntmps194
  go_wp2
  go_ret
  exact ⟨rfl, by first | exact Below.refl _ _ | exact ((Below.refl _ _).alloc (Nat.le_refl _) _).alloc (by simp) _⟩
set_option maxRecDepth 100000 in
set_option maxHeartbeats 1600000 in
theorem eqLeverFaultS_same (A B : Option Addr) (n c d : Nat) (fs : List Flt) (w : World) (hr : RL FltM 2 w A n fs) (hq : RL FltM 2 w B n fs) (hm : n ≤ 1048576) :
    Calls Tryd.prog 142 #[.slice A n c, .slice B n d] w fun e w' => e = .returned (.bool true) ∧ Below w.heap.size w w' := by
  have HL := Lib.hid hr.1
  go_enter Tryd.func142, Tryd.ntmps142
  go_wp2
  go_loopw [5] (fun i wr => ∃ k : Nat, k ≤ n ∧ i = .int .i64 k ∧ Below w.heap.size w wr) (fun i _ => n - (intOf i).toNat)
  case atStart => exact ⟨0, Nat.zero_le _, rfl, Below.refl _ _⟩
  case round =>
    obtain ⟨k, hk, rfl, hbr⟩ := hrel
    by_cases hkn : k < n
    · obtain ⟨ad, hA, hlt, hkl, g1, g2⟩ := (hr.below steady_FltM hbr).at_ hkn
      obtain ⟨ad2, hB, hlt2, hkl2, q1, q2⟩ := (hq.below steady_FltM hbr).at_ hkn
      have hi0 : (0 : Int) ≤ (k : Int) := by omega
      have hi1 : (k : Int) < (n : Int) := by omega
      have KT := Lib.hid (fun W => eqLeverFault_same fs[k].kind fs[k].lever W)
      subst hA; subst hB
      go_wp2_with fail
      go_region_with (go_at_call 194; refine (KT.out _).mono ?_; rintro e w1 ⟨rfl, hw1⟩)
      all_goals
        have hbz : Below w.heap.size w w1 := hbr.drew.trans (hw1.mono hbr.size)
        have HB := Lib.hid hbz; clear hbz
        go_wp2
        go_roundw
        case rel => exact ⟨k + 1, by omega, by go_num, HB.out⟩
        case measure => simp [intOf]; omega
    · go_wp2
      go_ret
      exact ⟨rfl, hbr⟩
/-- the cells of a marked list of faults -/
def MarkF (w : World) (base : Nat) (v : Value) (n : Nat) (k : Int) : Prop := w.ownsRow base 204 2 v n ((upto k (n * 2)).map (Value.int .i64))
end Go.Proofs.YtcapccadpbiecaaDoor

namespace Go.Proofs.YtcapccadpbiecaaDoor
open Go.RowKit Go.Sort
def cellsFl (xs : List Flt) : List Value := xs.flatMap fun x => [.int .i64 x.kind, .int .i64 x.lever]
theorem cellsFl_len (xs : List Flt) : (cellsFl xs).length = xs.length * 2 := by
  induction xs with
  | nil => rfl
  | cons x xs ih => unfold cellsFl at *; rw [List.flatMap_cons, List.length_append, ih]; simp; omega
theorem cellsFl_snoc (xs : List Flt) (x : Flt) : cellsFl (xs ++ [x]) = cellsFl xs ++ [.int .i64 x.kind, .int .i64 x.lever] := by simp [cellsFl]
theorem cellsFl_get : ∀ (xs : List Flt) (k : Nat) (h : k < xs.length), (cellsFl xs)[k * 2]? = some (.int .i64 xs[k].kind) ∧ (cellsFl xs)[k * 2 + 1]? = some (.int .i64 xs[k].lever)
  | [], k, h => by simp at h
  | x :: xs, 0, h => by simp [cellsFl]
  | x :: xs, k + 1, h => by
    have h1 := cellsFl_get xs k (by simpa using h)
    have h2 : cellsFl (x :: xs) = .int .i64 x.kind :: .int .i64 x.lever :: cellsFl xs := by simp [cellsFl]
    rw [h2, show (k + 1) * 2 = k * 2 + 1 + 1 by omega]
    simp only [List.getElem?_cons_succ, List.getElem_cons_succ]
    exact h1
theorem cellsFl_one (xs : List Flt) : ∀ u ∈ cellsFl xs, u.oneCell' = true := by
  intro u hu
  obtain ⟨x, -, h⟩ := List.mem_flatMap.1 hu
  simp at h
  rcases h with rfl | rfl <;> rfl
def rowFl (v : Value) (xs : List Flt) : Ent := .row v 204 2 xs.length (cellsFl xs)
theorem tpFl : TP 84 204 (.agg #[.int .i64 0, .int .i64 0]) 2 16 := ⟨Tryd.underlying84, by kernel_rfl, rfl, by decide⟩
theorem Kn.rlFl {w0 w : World} {m : List Ent} {A : Option Addr} {n c : Nat} {xs : List Flt} (h : Kn w0 (rowFl (.slice A n c) xs :: m) w) : n = xs.length ∧ RL FltM 2 w A n xs := by
  have h0 : w.ownsRow 0 204 2 (.slice A n c) xs.length (cellsFl xs) := h.at0
  rcases h0.2 with ⟨hv, hn⟩ | ⟨g, cap, cur, hv, -, hg, -⟩
  · injection hv with h1 h2 h3
    exact ⟨by omega, by omega, fun h => by omega⟩
  · injection hv with h1 h2 h3
    refine ⟨h2, h2.symm, fun h => ⟨_, h1, (Array.getElem?_eq_some_iff.1 hg).1, fun k hk => ?_⟩⟩
    obtain ⟨c1, c2⟩ := cellsFl_get xs k hk
    rw [h1] at h0
    have d1 := h0.cells (g := g) rfl _ _ c1
    have d2 := h0.cells (g := g) rfl _ _ c2
    refine ⟨d1, ?_⟩
    rw [add_zero_block] at d2 ⊢
    exact d2
theorem Kn.nilFl {w0 w : World} {m : List Ent} (h : Kn w0 m w) : Kn w0 (rowFl (.slice none 0 0) [] :: m) w := h.nilRow _ _
theorem szLeverFaultS_any (A : Option Addr) (n c : Nat) (left : Int) (w : World) (h1 : 0 ≤ left) (h2 : left ≤ 1048576) (hn : n ≤ 9223372036854775807) :
    Calls Tryd.prog 138 #[.slice A n c, .int .i64 left] w fun e w' => e = .returned (.int .i64 (if (n : Int) ≤ left then left - n else -1)) ∧ w = w' := by
  by_cases h : (n : Int) ≤ left
  · have hi : ¬ left - (n : Int) < 0 := by omega
    go_enter Tryd.func138, Tryd.ntmps138
    go_wp2
    go_ret
    exact ⟨ret_int (by first | rfl | (split <;> omega)), rfl⟩
  · have hi : left - (n : Int) < 0 := by omega
    go_enter Tryd.func138, Tryd.ntmps138
    go_wp2
    go_ret
    exact ⟨ret_int (by first | rfl | (split <;> omega)), rfl⟩
theorem toLeverFault_any (x : Flt) (w : World) : Calls Tryd.prog 192 #[.agg #[.int .i64 x.kind, .int .i64 x.lever]] w fun e w' => e = .returned (.agg #[.int .i64 x.kind, .int .i64 x.lever]) ∧ Below w.heap.size w w' := by
  go_enter Tryd.func192, Tryd.ntmps192
  go_wp2_with fail
  refine bodyPost.kn ((((Kn.nil w).al [.int .i64 x.kind, .int .i64 x.lever] 206).al [.int .i64 x.kind, .int .i64 x.lever] 204).al_ _) ?_; intro w7 hK7
  simp only [World.size_alloc] at hK7
  obtain ⟨a1, a2, a3, -⟩ := hK7.cells
  exact bodyPost_ret (v := .agg #[.int .i64 x.kind, .int .i64 x.lever]) (by simp [results, Tryd.results192, go_sem, a1]) rfl ⟨rfl, hK7.below⟩
theorem info_flt : (Tryd.prog.info? 204).map (fun i => (i.zero, i.size, i.bytes)) = some (some (.agg #[.int .i64 0, .int .i64 0]), 2, 16) := by kernel_rfl
theorem cellsFl_ext {xs : List Flt} {cs : List Value} (hl : cs.length = xs.length * 2) (h : ∀ (i : Nat) (h : i < xs.length), cs[i * 2]? = some (.int .i64 xs[i].kind) ∧ cs[i * 2 + 1]? = some (.int .i64 xs[i].lever)) : cs = cellsFl xs := by
  apply List.ext_getElem?
  intro j
  by_cases hj : j < xs.length * 2
  · obtain ⟨h1, h2⟩ := h (j / 2) (by omega)
    obtain ⟨h3, h4⟩ := cellsFl_get xs (j / 2) (by omega)
    rcases Nat.mod_two_eq_zero_or_one j with he | he
    · have e : j / 2 * 2 = j := by omega
      rw [e] at h1 h3; rw [h1, h3]
    · have e : j / 2 * 2 + 1 = j := by omega
      rw [e] at h2 h4; rw [h2, h4]
  · rw [List.getElem?_eq_none (by omega), List.getElem?_eq_none (by rw [cellsFl_len]; omega)]
def rowFlN (A : Option Addr) (n c : Nat) (xs : List Flt) : Ent := .row (.slice A n c) 204 2 n (cellsFl xs)
theorem Kn.rlFlN {w0 w : World} {m : List Ent} {A : Option Addr} {n c : Nat} {xs : List Flt} (h : Kn w0 (rowFlN A n c xs :: m) w) (hl : xs.length = n) : RL FltM 2 w A n xs := by
  subst hl
  exact (Kn.rlFl (m := m) h).2
set_option maxRecDepth 100000 in
set_option maxHeartbeats 1600000 in
theorem toLeverFaultS_kn (A : Option Addr) (n c : Nat) (xs : List Flt) (w : World) (hr : RL FltM 2 w A n xs) (hm : n ≤ 1048576) :
    Calls Tryd.prog 140 #[.slice A n c] w fun e w' => ∃ X x, e = .returned (.slice X n x) ∧ Kn w [rowFlN X n x xs] w' := by
  have HL := Lib.hid hr.1
  have HR := Lib.hid hr
  obtain ⟨i0, hi, hz0, hz1, hz2⟩ := info_parts info_flt
  clear hr
  go_enter Tryd.func140, Tryd.ntmps140
  go_wp2_with (at_make; refine wpList_make_full _ rfl _ _ 84 rfl w.heap.size 204 i0 _ 2 Tryd.underlying84 hi hz0 hz1 _ _ _ _ n rfl rfl rfl rfl (by rw [hz2]; omega) (by unfold maxLen; omega) (Nat.le_refl _) ?_; intro w1 hown1 hg1)
  have hb1 : Below w.heap.size w w1 := (Below.refl _ _).grown hg1 (Nat.le_refl _) (by simp)
  have hK1 : Kn w [.row (.slice (some ⟨w.heap.size, 0, none⟩) n n) 204 2 n _] w1 := (Kn.nil w).add (e := .row (.slice (some ⟨w.heap.size, 0, none⟩) n n) 204 2 n _) hb1 (by
    refine ⟨hown1.1, ?_⟩
    rcases hown1.2 with hn | ⟨g, cap, cur, e, hbg, rest⟩
    · exact .inl hn
    · exact .inr ⟨g, cap, cur, e, Nat.zero_le _, rest⟩) (fun k hk => by
    have hk' : (Value.slice (some ⟨w.heap.size, 0, none⟩) n n).ownBlock = some k := hk
    simp only [Value.ownBlock, Option.some.injEq] at hk'
    omega)
  clear hg1 hown1 hb1 hi hz0 hz1 hz2
  go_loopw [4] (fun i wr => ∃ (k : Nat) (cs : List Value), k ≤ n ∧ i = .int .i64 k ∧ Kn w [.row (.slice (some ⟨w.heap.size, 0, none⟩) n n) 204 2 n cs] wr ∧ (∀ (i : Nat) (h : i < xs.length), i < k → cs[i * 2]? = some (.int .i64 xs[i].kind) ∧ cs[i * 2 + 1]? = some (.int .i64 xs[i].lever))) (fun i _ => n - (intOf i).toNat)
  case atStart => exact ⟨0, _, Nat.zero_le _, rfl, hK1, fun i h h' => by omega⟩
  case round =>
    clear hK1
    obtain ⟨k, cs, hk, rfl, hK, hcs⟩ := hrel
    have hcl : cs.length = n * 2 := (show wr.ownsRow 0 204 2 _ n cs from hK.at0).1
    have HCS := Lib.hid hcs
    have HCL := Lib.hid hcl
    by_cases hkn : k < n
    · obtain ⟨ad, hA, hlt, hkl, hx⟩ := (HR.out.below steady_FltM hK.below).at_ hkn
      obtain ⟨x1, x2⟩ := hx
      obtain ⟨x, hxe⟩ : ∃ x, xs[k] = x := ⟨_, rfl⟩
      rw [hxe] at x1 x2
      have HX := Lib.hid hxe
      have hi0 : (0 : Int) ≤ (k : Int) := by omega
      have hi1 : (k : Int) < (n : Int) := by omega
      have KT := Lib.hid (toLeverFault_any x wr)
      subst hA
      clear hxe hcs
      obtain ⟨u0, hu0⟩ : ∃ u, cs[k * 2]? = some u := ⟨_, List.getElem?_eq_getElem (by omega)⟩
      obtain ⟨u1, hu1⟩ : ∃ u, cs[k * 2 + 1]? = some u := ⟨_, List.getElem?_eq_getElem (by omega)⟩
      have HU0 := Lib.hid hu0
      have HU1 := Lib.hid hu1
      clear hu0 hu1 hcl
      go_wp2_with (go_at_call 192; refine KT.out.mono ?_; rintro e w2 ⟨rfl, hw⟩; have hK2 := hK.keep hw; obtain ⟨y1, y2⟩ := Kn.rowCell hK2 HU0.out; obtain ⟨y3, y4⟩ := Kn.rowCell hK2 HU1.out; clear x1 x2)
      go_roundw
      case rel =>
        refine ⟨k + 1, _, by omega, by go_num, (hK2.rowSt (k * 2) (.int .i64 x.kind)).rowSt (k * 2 + 1) (.int .i64 x.lever), fun i h h' => ?_⟩
        have hcl := HCL.out
        rcases Nat.lt_or_ge i k with h1 | h1
        · rw [List.getElem?_set_ne (by omega), List.getElem?_set_ne (by omega), List.getElem?_set_ne (by omega), List.getElem?_set_ne (by omega)]
          exact HCS.out i h h1
        · obtain rfl : i = k := by omega
          have hx := HX.out
          rw [hx]
          refine ⟨?_, ?_⟩
          · rw [List.getElem?_set_ne (by omega), List.getElem?_set_self (by omega)]
          · rw [List.getElem?_set_self (by rw [List.length_set]; omega)]
      case measure => simp [intOf]; omega
    · have hce := cellsFl_ext (xs := xs) (cs := cs) (by rw [HL.out]; exact hcl) (fun i h => hcs i h (by have := HL.out; omega))
      have HCE := Lib.hid hce
      have hi1 : ¬ (k : Int) < (n : Int) := by omega
      clear hcs hcl hce
      go_wp2_with fail
      go_ret
      exact ⟨_, _, rfl, by unfold rowFlN; rw [← HCE.out]; exact hK⟩
theorem rlFl_N {w0 w : World} {m : List Ent} {A : Option Addr} {n c : Nat} {xs : List Flt} (h : Kn w0 (rowFlN A n c xs :: m) w) (hl : xs.length = n) : RL FltM 2 w A n xs := Kn.rlFlN h hl
/-! faults that are valid, in general -/
def fltOk (n : Nat) (f : Flt) : Bool := betB f.kind 1 3 && betB f.lever 0 ((n : Int) - 1)
def ascAt (fs : List Flt) (k : Nat) : Bool := decide (k = 0) || decide ((fs.getD (k - 1) ⟨0, 0⟩).lever < (fs.getD k ⟨0, 0⟩).lever)
def vfU (n : Nat) (fs : List Flt) : Nat → Bool
  | 0 => true
  | k + 1 => vfU n fs k && (fltOk n (fs.getD k ⟨0, 0⟩) && ascAt fs k)
def vfl (n : Nat) (fs : List Flt) : Bool := vfU n fs fs.length
theorem vfU_false {n : Nat} {fs : List Flt} {k : Nat} (h : vfU n fs k = false) : ∀ {m : Nat}, k ≤ m → vfU n fs m = false := by
  intro m hm
  induction hm with
  | refl => exact h
  | step _ ih => unfold vfU; rw [ih]; rfl
theorem vfl_not {n : Nat} {fs : List Flt} {k : Nat} (hk : k < fs.length) (h : (fltOk n (fs.getD k ⟨0, 0⟩) && ascAt fs k) = false) : vfl n fs = false :=
  vfU_false (k := k + 1) (by unfold vfU; rw [h, Bool.and_false]) hk
theorem isFaultG (n : Nat) (f : Flt) (w : World) (hn : n ≤ 16) :
    Calls Tryd.prog 193 #[.int .i64 n, .agg #[.int .i64 f.kind, .int .i64 f.lever]] w fun e w' => e = .returned (.bool (fltOk n f)) ∧ Below w.heap.size w w' := by
  have K1 := (fun W => between_any f.kind 1 3 W)
  have K2 := (fun W => between_any f.lever 0 ((n : Int) - 1) W)
  unfold fltOk
  rcases h1 : betB f.kind 1 3 with _ | _
  · rw [h1] at K1
    replace K1 := Lib.hid K1
    clear K2 h1
    go_enter Tryd.func193, Tryd.ntmps193
    go_wp2_with (go_at_call 127; refine (K1.out _).mono ?_; rintro e w' ⟨rfl, rfl⟩)
    go_ret
    exact ⟨rfl, (Below.refl _ _).alloc (Nat.le_refl _) _⟩
  · rcases h2 : betB f.lever 0 ((n : Int) - 1) with _ | _
    all_goals
      rw [h1] at K1
      rw [h2] at K2
      replace K1 := Lib.hid K1
      replace K2 := Lib.hid K2
      clear h1 h2
      go_enter Tryd.func193, Tryd.ntmps193
      go_wp2_with (go_at_call 127; first | ((with_reducible refine (K1.out _).mono ?_); rintro e w' ⟨rfl, rfl⟩) | ((with_reducible refine (K2.out _).mono ?_); rintro e w' ⟨rfl, rfl⟩))
      go_ret
      exact ⟨rfl, (Below.refl _ _).alloc (Nat.le_refl _) _⟩
set_option maxHeartbeats 1600000 in
theorem ValidFaultsG (n : Nat) (A : Option Addr) (m c : Nat) (fs : List Flt) (w : World) (hr : RL FltM 2 w A m fs) (hn1 : 1 ≤ n) (hn : n ≤ 16) (hm : m ≤ 1048576) :
    Calls Tryd.prog 141 #[.int .i64 n, .slice A m c] w fun e w' => e = .returned (.bool (vfl n fs)) ∧ Below w.heap.size w w' := by
  have HL := Lib.hid hr.1
  have HV := Lib.hid (show vfl n fs = vfU n fs m by unfold vfl; rw [hr.1])
  have HNOT := Lib.hid (fun (k : Nat) (hk : k < fs.length) (h : (fltOk n (fs.getD k ⟨0, 0⟩) && ascAt fs k) = false) => vfl_not hk h)
  have KR := Lib.hid (fun W => isRegisterWidth_any (n : Int) W)
  have HBW := Lib.hid (show betB (n : Int) 1 16 = true from betB_iff.2 (by omega))
  obtain ⟨R, hR⟩ : ∃ R, vfl n fs = R := ⟨_, rfl⟩
  rw [hR] at HV HNOT ⊢
  clear hR
  go_enter Tryd.func141, Tryd.ntmps141
  go_wp2
  go_loopw [9] (fun i wr => ∃ k : Nat, k ≤ m ∧ i = .int .i64 k ∧ Hid (vfU n fs k = true) ∧ Below w.heap.size w wr) (fun i _ => m - (intOf i).toNat)
  case atStart => exact ⟨0, Nat.zero_le _, rfl, rfl, Below.refl _ _⟩
  case round =>
    obtain ⟨k, hk, rfl, HU, hbr⟩ := hrel
    by_cases hkn : k < m
    · obtain ⟨ad, hA, hlt, hkl, f1, f2⟩ := (hr.below steady_FltM hbr).at_ hkn
      have hgd : fs.getD k ⟨0, 0⟩ = fs[k] := by simp [List.getD, List.getElem?_eq_getElem hkl]
      have KF := (fun (W : World) => isFaultG n fs[k] W hn)
      obtain ⟨o, ho⟩ : ∃ o, fltOk n fs[k] = o := ⟨_, rfl⟩
      rw [ho] at KF
      replace KF := Lib.hid KF
      have HO := Lib.hid ho
      have HGD := Lib.hid hgd
      have hi0 : (0 : Int) ≤ (k : Int) := by omega
      have hi1 : (k : Int) < (m : Int) := by omega
      have hfb : Below wr.heap.size wr (wr.alloc (.cells #[.int .i64 fs[k].kind, .int .i64 fs[k].lever] 204)) := (Below.refl _ _).alloc (Nat.le_refl _) _
      have x1 := cell_regrown (show (wr.alloc (.cells #[.int .i64 fs[k].kind, .int .i64 fs[k].lever] 204)).cell? ⟨wr.heap.size, 0, none⟩ = some (.int .i64 fs[k].kind) by go_simp)
      have x2 := cell_regrown (show (wr.alloc (.cells #[.int .i64 fs[k].kind, .int .i64 fs[k].lever] 204)).cell? ⟨wr.heap.size, 1, none⟩ = some (.int .i64 fs[k].lever) by go_simp)
      have HNX := Lib.hid (show vfU n fs (k + 1) = (o && ascAt fs k) by
        have := HU.out
        unfold vfU; rw [this, Bool.true_and, HGD.out, HO.out])
      have HNK := Lib.hid (fun (h : (o && ascAt fs k) = false) => HNOT.out k hkl (by rw [HGD.out, HO.out]; exact h))
      clear ho hgd
      rcases o with _ | _
      · have HQ := Lib.hid (HNK.out rfl)
        rcases Nat.eq_zero_or_pos k with hk0 | hk0
        · subst hk0
          rw [Nat.zero_mul, addr_add_zero] at f1 f2
          subst hA
          go_wp2_with fail
          refine wp_region_quiet_below (by kernel_rfl) (by kernel_rfl) ?_
          repeat (go_big_quiet_step ((go_at_call 193; exact quietB (fun W _ => KF.out W))))
          refine wpQuiet_nil ?_
          intro W1 hw'
          have hB1 : Below wr.heap.size wr W1 := by
            obtain ⟨⟨dq, osq⟩, hw''⟩ := hw'
            rw [hw'']; exact hfb.trans ((below_regrown _ dq osq).mono hfb.size)
          clear hw'
          go_wp2
          go_ret
          exact ⟨ret_bool HQ.out.symm, hbr.trans (hB1.mono hbr.size)⟩
        · have hi2 : (0 : Int) < (k : Int) := by omega
          subst hA
          go_wp2_with fail
          refine wp_region_quiet_below (by kernel_rfl) (by kernel_rfl) ?_
          repeat (go_big_quiet_step ((go_at_call 193; exact quietB (fun W _ => KF.out W))))
          refine wpQuiet_nil ?_
          intro W1 hw'
          have hB1 : Below wr.heap.size wr W1 := by
            obtain ⟨⟨dq, osq⟩, hw''⟩ := hw'
            rw [hw'']; exact hfb.trans ((below_regrown _ dq osq).mono hfb.size)
          clear hw'
          go_wp2
          go_ret
          exact ⟨ret_bool HQ.out.symm, hbr.trans (hB1.mono hbr.size)⟩
      rcases Nat.eq_zero_or_pos k with hk0 | hk0
      · subst hk0
        rw [Nat.zero_mul, addr_add_zero] at f1 f2
        subst hA
        go_wp2_with fail
        refine wp_region_quiet_below (by kernel_rfl) (by kernel_rfl) ?_
        repeat (go_big_quiet_step ((go_at_call 193; exact quietB (fun W _ => KF.out W))))
        refine wpQuiet_nil ?_
        intro W1 hw'
        have hB1 : Below wr.heap.size wr W1 := by
          obtain ⟨⟨dq, osq⟩, hw''⟩ := hw'
          rw [hw'']; exact hfb.trans ((below_regrown _ dq osq).mono hfb.size)
        clear hw'
        go_wp2
        go_roundw
        case rel => exact ⟨1, by omega, by go_num, by rw [HNX.out]; rfl, hbr.trans (hB1.mono hbr.size)⟩
        case measure => simp [intOf]; omega
      · obtain ⟨ad', hA', -, hkl', g1, g2⟩ := (hr.below steady_FltM hbr).at_ (show k - 1 < m by omega)
        obtain rfl : ad = ad' := by rw [hA] at hA'; injection hA'
        clear hA'
        have hgd2 : fs.getD (k - 1) ⟨0, 0⟩ = fs[k - 1] := by simp [List.getD, List.getElem?_eq_getElem hkl']
        have hasc : ascAt fs k = decide (fs[k - 1].lever < fs[k].lever) := by unfold ascAt; rw [HGD.out, hgd2, decide_eq_false (by omega), Bool.false_or]
        obtain ⟨lv, hlv⟩ : ∃ lv, lv = fs[k - 1].lever := ⟨_, rfl⟩
        rw [← hlv] at g2 hasc
        clear hlv g1 hgd2
        have y2 := cell_regrown ((hfb.cell (by rw [show (⟨(ad.add ((k - 1) * 2)).block, (ad.add ((k - 1) * 2)).off + 1, none⟩ : Addr).block = ad.block from block_of_add _ _]; exact hlt)).trans g2)
        have hd : decide ((0 : Int) < (k : Int)) = true := decide_eq_true (by omega)
        have hi2 : (0 : Int) < (k : Int) := by omega
        subst hA
        by_cases hlt2 : lv < fs[k].lever
        · have HNX2 : Hid (vfU n fs (k + 1) = true) := by simp only [Hid]; rw [HNX.out, hasc, decide_eq_true hlt2]; rfl
          have hd2 : decide (fs[k].lever ≤ lv) = false := decide_eq_false (by omega)
          clear hasc
          go_wp2_with fail
          refine wp_region_quiet_below (by kernel_rfl) (by kernel_rfl) ?_
          repeat (go_big_quiet_step ((go_at_call 193; exact quietB (fun W _ => KF.out W))))
          refine wpQuiet_nil ?_
          intro W1 hw'
          have hB1 : Below wr.heap.size wr W1 := by
            obtain ⟨⟨dq, osq⟩, hw''⟩ := hw'
            rw [hw'']; exact hfb.trans ((below_regrown _ dq osq).mono hfb.size)
          clear hw'
          go_wp2
          go_roundw
          case rel => exact ⟨k + 1, by omega, by go_num, HNX2.out, hbr.trans (hB1.mono hbr.size)⟩
          case measure => simp [intOf]; omega
        · have HQ := Lib.hid (HNK.out (by rw [hasc, decide_eq_false hlt2]; rfl))
          have hd2 : decide (fs[k].lever ≤ lv) = true := decide_eq_true (by omega)
          clear hasc
          go_wp2_with fail
          refine wp_region_quiet_below (by kernel_rfl) (by kernel_rfl) ?_
          repeat (go_big_quiet_step ((go_at_call 193; exact quietB (fun W _ => KF.out W))))
          refine wpQuiet_nil ?_
          intro W1 hw'
          have hB1 : Below wr.heap.size wr W1 := by
            obtain ⟨⟨dq, osq⟩, hw''⟩ := hw'
            rw [hw'']; exact hfb.trans ((below_regrown _ dq osq).mono hfb.size)
          clear hw'
          go_wp2
          go_ret
          exact ⟨ret_bool HQ.out.symm, hbr.trans (hB1.mono hbr.size)⟩
    · obtain rfl : k = m := by omega
      have HQ := Lib.hid (show R = true by rw [HV.out]; exact HU.out)
      go_wp2_with (go_at_call 181; refine (KR.out _).mono ?_; rw [HBW.out]; rintro e w' ⟨rfl, rfl⟩)
      go_ret
      exact ⟨ret_bool HQ.out.symm, hbr⟩
end Go.Proofs.YtcapccadpbiecaaDoor

namespace Go.Proofs.YtcapccadpbiecaaDoor
open Go.RowKit Go.Sort
theorem gtrans {w a b : World} {o : Option Nat} (h1 : w.grownBy a o) (h2 : a.grownBy b o) : w.grownBy b o :=
  ⟨h2.os.trans h1.os, h2.tape.trans h1.tape, h2.output.trans h1.output, Nat.le_trans h1.size h2.size, fun k hk hne => (h2.block k (Nat.lt_of_lt_of_le hk h1.size) hne).trans (h1.block k hk hne)⟩
/-- a source of draws at block b, from which at most N draws were taken -/
def Src (w : World) (b N : Nat) : Prop := ∃ (A : Option Addr) (n c k : Nat) (seed : Int) (bs : List UInt8), w.cell? ⟨b, 0, none⟩ = some (.slice A n c) ∧ w.cell? ⟨b, 1, none⟩ = some (.int .i64 (k : Int)) ∧ w.cell? ⟨b, 2, none⟩ = some (.int .u64 seed) ∧
  w.frozen? ⟨b, 1, none⟩ = false ∧ w.frozen? ⟨b, 2, none⟩ = false ∧ RB w A n bs ∧ k ≤ N ∧ n ≤ 9223372036854775807 ∧ (0 < n → ∀ ad, A = some ad → ad.block < b) ∧ b < w.heap.size
theorem low_byte (x : Int) : 0 ≤ wrap64 (bits .and .u64 (IntKind.u64.wrap x / 1099511627776) 255) ∧ wrap64 (bits .and .u64 (IntKind.u64.wrap x / 1099511627776) 255) ≤ 255 := by
  obtain ⟨a, ha, ha2⟩ : ∃ a : Nat, IntKind.u64.wrap x / 1099511627776 = (a : Int) ∧ a < 18446744073709551616 := by
    rw [IntKind.wrap_u64]
    exact ⟨(x % 18446744073709551616 / 1099511627776).toNat, by omega, by omega⟩
  rw [ha]
  have h := bits_and_u64_nat a 255 ha2 (by omega)
  have h2 : a &&& 255 ≤ 255 := Nat.and_le_right
  have h3 : bits .and .u64 (a : Int) 255 = ((a &&& 255 : Nat) : Int) := h
  rw [h3]
  unfold wrap64
  omega
theorem src_step {w : World} {b N k n c : Nat} {A : Option Addr} {seed : Int} {bs : List UInt8} (c0 : w.cell? ⟨b, 0, none⟩ = some (.slice A n c)) (c1 : w.cell? ⟨b, 1, none⟩ = some (.int .i64 (k : Int))) (c2 : w.cell? ⟨b, 2, none⟩ = some (.int .u64 seed))
    (f1 : w.frozen? ⟨b, 1, none⟩ = false) (f2 : w.frozen? ⟨b, 2, none⟩ = false) (hb : RB w A n bs) (hk : k ≤ N) (hn : n ≤ 9223372036854775807) (hne : 0 < n → ∀ ad, A = some ad → ad.block < b) (hlt : b < w.heap.size) (s : Int) :
    Src ((w.setCell ⟨b, 1, none⟩ (.int .i64 ((k : Int) + 1))).setCell ⟨b, 2, none⟩ (.int .u64 s)) b (N + 1) ∧ w.grownBy ((w.setCell ⟨b, 1, none⟩ (.int .i64 ((k : Int) + 1))).setCell ⟨b, 2, none⟩ (.int .u64 s)) (some b) := by
  refine ⟨⟨A, n, c, k + 1, s, bs, by go_simp, by go_simp, by go_simp, by go_simp, by go_simp, ⟨hb.1, fun h0 => ?_⟩, by omega, hn, hne, by simp [World.setCell]; exact hlt⟩, ⟨rfl, rfl, rfl, by simp [World.setCell], fun g _ hg => ?_⟩⟩
  · obtain ⟨ad, e, hl, hc⟩ := hb.2 h0
    refine ⟨ad, e, by simp [World.setCell]; exact hl, fun j u hu => ?_⟩
    have h1 : ad.block ≠ b := Nat.ne_of_lt (hne h0 ad e)
    rw [World.cell?_setCell_far _ _ _ _ (by rw [block_of_add]; exact Ne.symm h1), World.cell?_setCell_far _ _ _ _ (by rw [block_of_add]; exact Ne.symm h1)]
    exact hc j u hu
  · rw [heap_setCell_other _ _ _ _ (fun e => hg (by rw [e])), heap_setCell_other _ _ _ _ (fun e => hg (by rw [e]))]
theorem Src.drewN {w : World} {b N : Nat} (h : Src w b N) (q : Nat) : Src (w.drewN q) b N := h
theorem gDrew {w w' : World} {o : Option Nat} (h : w.grownBy w' o) (q : Nat) : w.grownBy (w'.drewN q) o := ⟨h.os, h.tape, h.output, h.size, h.block⟩
theorem gDrewL {w w' : World} {o : Option Nat} {q : Nat} (h : (w.drewN q).grownBy w' o) : w.grownBy w' o := ⟨h.os, h.tape, h.output, h.size, h.block⟩
set_option maxHeartbeats 1600000 in
theorem srcNext_any (b N : Nat) (w : World) (h : Src w b N) (hN : N ≤ 1000000) :
    Calls Tryd.prog 178 #[.pointer (some ⟨b, 0, none⟩)] w fun e w' => ∃ x : Int, e = .returned (.int .i64 x) ∧ 0 ≤ x ∧ x ≤ 255 ∧ Src w' b (N + 1) ∧ w.grownBy w' (some b) := by
  obtain ⟨A, n, c, k, seed, bs, c0, c1, c2, f1, f2, hb, hk, hn, hne, hlt⟩ := h
  have HB := Lib.hid hb
  by_cases hkn : k < n
  · obtain ⟨ad, hA, hl, hc⟩ := hb.2 (by omega)
    have hbl : k < bs.length := by have := hb.1; omega
    have hcb := hc k _ (List.getElem?_eq_getElem hbl)
    have hi0 : (0 : Int) ≤ (k : Int) := by omega
    have hi1 : (k : Int) < (n : Int) := by omega
    have hi2 : (k : Int) + 1 ≤ (n : Int) := by omega
    unfold byteV at hcb
    obtain ⟨u, hu⟩ : ∃ u : Nat, u = bs[k].toNat := ⟨_, rfl⟩
    have hu2 : u < 256 := by rw [hu]; exact UInt8.toNat_lt _
    rw [← hu] at hcb
    subst hA
    clear hu hb hc
    go_enter Tryd.func178, Tryd.ntmps178
    go_wp2
    go_quiet (fail)
    go_wp2
    go_quiet (fail)
    go_wp2
    go_quiet (fail)
    go_wp2
    go_ret
    refine ⟨_, rfl, by omega, by omega, ?_⟩
    have z := fun q => src_step (w := w.drewN q) c0 c1 c2 f1 f2 HB.out hk hn hne hlt
    exact ⟨(z _ _).1.drewN _, gDrew (gDrewL (z _ _).2) _⟩
  · have hi1 : ¬ (k : Int) < (n : Int) := by omega
    have hi2 : ¬ (k : Int) + 1 ≤ (n : Int) := by omega
    clear hb
    go_enter Tryd.func178, Tryd.ntmps178
    go_wp2
    go_quiet (fail)
    go_wp2
    go_quiet (fail)
    go_wp2
    go_ret
    obtain ⟨q1, q2⟩ := low_byte (IntKind.u64.wrap (IntKind.u64.wrap (seed * 6364136223846793005)) + 1442695040888963407)
    refine ⟨_, rfl, q1, q2, ?_⟩
    have z := fun q => src_step (w := w.drewN q) c0 c1 c2 f1 f2 HB.out hk hn hne hlt
    exact ⟨(z _ _).1.drewN _, gDrew (gDrewL (z _ _).2) _⟩
theorem Src.keep {w w' : World} {b N : Nat} (h : Src w b N) (hs : w.heap.size ≤ w'.heap.size) (hk : ∀ k, k ≤ b → w'.heap[k]? = w.heap[k]?) : Src w' b N := by
  obtain ⟨A, n, c, k, seed, bs, c0, c1, c2, f1, f2, hb, hkN, hn, hne, hlt⟩ := h
  have hcell : ∀ o, w'.cell? ⟨b, o, none⟩ = w.cell? ⟨b, o, none⟩ := fun o => World.cell?_of_block (hk b (Nat.le_refl _))
  have hfz : ∀ o, w'.frozen? ⟨b, o, none⟩ = w.frozen? ⟨b, o, none⟩ := fun o => World.frozen?_of_block (hk b (Nat.le_refl _))
  refine ⟨A, n, c, k, seed, bs, by rw [hcell]; exact c0, by rw [hcell]; exact c1, by rw [hcell]; exact c2, by rw [hfz]; exact f1, by rw [hfz]; exact f2, ⟨hb.1, fun h0 => ?_⟩, hkN, hn, hne, Nat.lt_of_lt_of_le hlt hs⟩
  obtain ⟨ad, e, hl, hc⟩ := hb.2 h0
  refine ⟨ad, e, Nat.lt_of_lt_of_le hl hs, fun j u hu => ?_⟩
  rw [World.cell?_of_block (w := w) (by rw [block_of_add]; exact hk _ (Nat.le_of_lt (hne h0 ad e)))]
  exact hc j u hu
theorem Src.mono {w : World} {b N M : Nat} (h : Src w b N) (hm : N ≤ M) : Src w b M := by
  obtain ⟨A, n, c, k, seed, bs, c0, c1, c2, f1, f2, hb, hkN, hr⟩ := h
  exact ⟨A, n, c, k, seed, bs, c0, c1, c2, f1, f2, hb, by omega, hr⟩
theorem Src.lt {w : World} {b N : Nat} (h : Src w b N) : b < w.heap.size := by
  obtain ⟨A, n, c, k, seed, bs, c0, c1, c2, f1, f2, hb, hkN, hn, hne, hlt⟩ := h
  exact hlt
theorem gRefl (w : World) (o : Option Nat) : w.grownBy w o := ⟨rfl, rfl, rfl, Nat.le_refl _, fun _ _ _ => rfl⟩
theorem gMore {w a c : World} {o o2 : Option Nat} (h1 : w.grownBy a o) (h2 : a.grownBy c o2) (ho : ∀ k, o2 = some k → w.heap.size ≤ k) : w.grownBy c o :=
  ⟨h2.os.trans h1.os, h2.tape.trans h1.tape, h2.output.trans h1.output, Nat.le_trans h1.size h2.size, fun k hk hne => (h2.block k (Nat.lt_of_lt_of_le hk h1.size) (fun e => by have := ho k e.symm; omega)).trans (h1.block k hk hne)⟩
theorem gBelow {w a c : World} {o : Option Nat} (h1 : w.grownBy a o) (h2 : Below a.heap.size a c) : w.grownBy c o :=
  ⟨h2.os.trans h1.os, h2.tape.trans h1.tape, h2.output.trans h1.output, Nat.le_trans h1.size h2.size, fun k hk hne => (h2.block k (Nat.lt_of_lt_of_le hk h1.size)).trans (h1.block k hk hne)⟩
theorem ofBelow {w c : World} (h2 : Below w.heap.size w c) (o : Option Nat) : w.grownBy c o := gBelow (gRefl w o) h2
/-- from a source's own block on, everything is new -/
theorem belowG {B b : Nat} {a w c : World} (h : Below B a w) (h2 : w.grownBy c (some b)) (hb : B ≤ b) (hs : B ≤ w.heap.size) : Below B a c :=
  h.grown h2 hs (fun k hk => by injection hk with hk; omega)
theorem Src.below {w w' : World} {b N : Nat} (h : Src w b N) (hb : Below w.heap.size w w') : Src w' b N := h.keep hb.size (fun k hk => hb.block k (Nat.lt_of_le_of_lt hk h.lt))
theorem OwnI.grown {w w' : World} {base b : Nat} {v : Value} {ds : List Int} (h : OwnI w base v ds) (hg : w.grownBy w' (some b)) (hb : b < base) : OwnI w' base v ds := by
  refine ⟨h.1, ?_⟩
  rcases h.2 with hn | ⟨g, cap, cur, rfl, hbg, hc, rest⟩
  · exact .inl hn
  · exact .inr ⟨g, cap, cur, rfl, hbg, by rw [hg.block g (Array.getElem?_eq_some_iff.1 hc).1 (fun e => by injection e with e; omega)]; exact hc, rest⟩
theorem ownI_lo {w : World} {base : Nat} {v : Value} {ds : List Int} (h : OwnI w base v ds) : ∀ k, v.ownBlock = some k → base ≤ k := by
  intro k hk
  rcases h.2 with ⟨rfl, -⟩ | ⟨g, cap, cur, rfl, hb, -⟩
  · simp [Value.ownBlock] at hk
  · simp only [Value.ownBlock, Option.some.injEq] at hk; omega
set_option maxHeartbeats 1600000 in
theorem pick_any (b N : Nat) (n : Int) (w : World) (h : Src w b N) (hN : N ≤ 999999) :
    Calls Tryd.prog 112 #[.pointer (some ⟨b, 0, none⟩), .int .i64 n] w fun e w' => ∃ x : Int, e = .returned (.int .i64 x) ∧ 0 ≤ x ∧ (x < n ∨ (n ≤ 1 ∧ x = 0)) ∧ Src w' b (N + 2) ∧ w.grownBy w' (some b) := by
  have H := Lib.hid h; clear h
  by_cases h1 : n ≤ 1
  · go_enter Tryd.func112, Tryd.ntmps112
    go_wp2
    go_ret
    exact ⟨0, rfl, by omega, .inr ⟨h1, rfl⟩, H.out.mono (by omega), gRefl _ _⟩
  · by_cases h2 : 200 < n
    · go_enter Tryd.func112, Tryd.ntmps112
      go_wp2_with fail
      refine (srcNext_any b N w H.out (by omega)).mono ?_; rintro e w1 ⟨x, rfl, x0, x1, hs1, hg1⟩
      have HS1 := Lib.hid hs1; clear hs1
      have HG1 := Lib.hid hg1; clear hg1
      go_wp2_with fail
      refine (srcNext_any b (N + 1) w1 HS1.out (by omega)).mono ?_; rintro e w2 ⟨y, rfl, y0, y1, hs2, hg2⟩
      have HS2 := Lib.hid hs2; clear hs2
      have HG2 := Lib.hid (gtrans HG1.out hg2); clear hg2
      go_wp2
      go_ret
      exact ⟨_, rfl, Int.emod_nonneg _ (by omega), .inl (Int.emod_lt_of_pos _ (by omega)), HS2.out, HG2.out⟩
    · go_enter Tryd.func112, Tryd.ntmps112
      go_wp2_with fail
      refine (srcNext_any b N w H.out (by omega)).mono ?_; rintro e w1 ⟨x, rfl, x0, x1, hs1, hg1⟩
      have HS1 := Lib.hid hs1; clear hs1
      have HG1 := Lib.hid hg1; clear hg1
      go_wp2
      go_ret
      exact ⟨_, rfl, Int.emod_nonneg _ (by omega), .inl (Int.emod_lt_of_pos _ (by omega)), HS1.out.mono (by omega), HG1.out⟩
set_option maxHeartbeats 800000 in
theorem one_any (b N : Nat) (n : Int) (w : World) (h : Src w b N) (hN : N ≤ 999999) :
    Calls Tryd.prog 110 #[.pointer (some ⟨b, 0, none⟩), .int .i64 n] w fun e w' => ∃ x : Bool, e = .returned (.bool x) ∧ Src w' b (N + 2) ∧ w.grownBy w' (some b) := by
  have H := Lib.hid h; clear h
  go_enter Tryd.func110, Tryd.ntmps110
  go_wp2_with fail
  refine (pick_any b N n w H.out hN).mono ?_; rintro e w1 ⟨x, rfl, x0, -, hs1, hg1⟩
  have HS1 := Lib.hid hs1; clear hs1
  have HG1 := Lib.hid hg1; clear hg1
  go_wp2
  go_ret
  exact ⟨_, rfl, HS1.out, HG1.out⟩
set_option maxHeartbeats 800000 in
theorem among_any (b N : Nat) (A : Option Addr) (n c : Nat) (ds : List Int) (w : World) (h : Src w b N) (hN : N ≤ 999999) (hr : RI w A n ds) (hA : ∀ ad, A = some ad → ad.block ≠ b) (hn0 : 0 < n) (hn : n ≤ 1000000) :
    Calls Tryd.prog 126 #[.pointer (some ⟨b, 0, none⟩), .slice A n c] w fun e w' => ∃ x : Int, e = .returned (.int .i64 x) ∧ x ∈ ds ∧ Src w' b (N + 2) ∧ w.grownBy w' (some b) := by
  have H := Lib.hid h; clear h
  go_enter Tryd.func126, Tryd.ntmps126
  go_wp2_with fail
  refine (pick_any b N n w H.out hN).mono ?_; rintro e w1 ⟨x, rfl, x0, xn, hs1, hg1⟩
  have HS1 := Lib.hid hs1; clear hs1
  have HG1 := Lib.hid hg1; clear hg1
  obtain ⟨j, rfl⟩ : ∃ j : Nat, x = j := ⟨x.toNat, by omega⟩
  have hjn : j < n := by omega
  obtain ⟨ad, hAd, hlt, hjl, hc⟩ := hr.at_ hjn
  have hc2 : w1.cell? (ad.add j) = some (.int .i64 ds[j]) := by
    rw [World.cell?_of_block (w := w) (by rw [block_of_add]; exact HG1.out.block _ hlt (fun e => by injection e with e; exact hA ad hAd e))]; exact hc
  have hi1 : (j : Int) < (n : Int) := by omega
  have HM := Lib.hid (List.getElem_mem hjl)
  subst hAd
  clear hc xn
  go_wp2
  go_ret
  exact ⟨_, rfl, HM.out, HS1.out, HG1.out⟩
set_option maxHeartbeats 800000 in
theorem l00From_any (A : Option Addr) (n c : Nat) (bs : List UInt8) (w : World) (hb : RB w A n bs) (hn : n ≤ 9223372036854775807) :
    Calls Tryd.prog 102 #[.slice A n c] w fun e w' => e = .returned (.pointer (some ⟨w.heap.size, 0, none⟩)) ∧ Src w' w.heap.size 0 ∧ Below w.heap.size w w' := by
  have HB := Lib.hid hb; clear hb
  go_enter Tryd.func102, Tryd.ntmps102
  go_wp2
  go_ret
  have hba : Below w.heap.size w (w.alloc (.cells #[.slice A n c, .int .i64 0, .int .u64 0] 196)) := (Below.refl _ _).alloc (Nat.le_refl _) _
  exact ⟨rfl, ⟨A, n, c, 0, 0, bs, by go_simp, by go_simp, by go_simp, by go_simp, by go_simp, HB.out.below hba, Nat.le_refl _, hn, (fun h0 ad e => by obtain ⟨ad', e', hl, -⟩ := HB.out.2 h0; rw [e] at e'; injection e' with e'; rw [e']; exact hl), by simp⟩, hba⟩
set_option maxRecDepth 100000 in
set_option maxHeartbeats 1600000 in
theorem l02DrawDigits_any (b N : Nat) (base : Int) (width : Nat) (w : World) (h : Src w b N) (hN : N + width * 4 ≤ 900000) (hb2 : 2 ≤ base) (hb16 : base ≤ 1000) (hw : width ≤ 1000) :
    Calls Tryd.prog 175 #[.pointer (some ⟨b, 0, none⟩), .int .i64 base, .int .i64 width] w fun e w' => ∃ A c ds, e = .returned (.slice A width c) ∧ OwnI w' w.heap.size (.slice A width c) ds ∧ ds.length = width ∧ (∀ d ∈ ds, 0 ≤ d ∧ d < base) ∧ Src w' b (N + width * 4) ∧ w.grownBy w' (some b) := by
  have H := Lib.hid h
  have hlt := h.lt
  clear h
  go_enter Tryd.func175, Tryd.ntmps175
  go_wp2_with fail
  go_loopw [8, 7] (fun kk out wr => ∃ (k : Nat) (ds : List Int), k ≤ width ∧ kk = .int .i64 k ∧ OwnI wr w.heap.size out ds ∧ ds.length = k ∧ (∀ d ∈ ds, 0 ≤ d ∧ d < base) ∧ Src wr b (N + k * 4) ∧ w.grownBy wr (some b)) (fun kk _ _ => width - (intOf kk).toNat)
  case atStart =>
    have hba : Below w.heap.size w (w.alloc (.cells #[] 2)) := (Below.refl _ _).alloc (Nat.le_refl _) _
    exact ⟨0, [], Nat.zero_le _, rfl, ⟨rfl, .inr ⟨w.heap.size, 0, #[], rfl, Nat.le_refl _, heap_alloc_new _ _, Nat.le_refl _, by decide, rfl, rfl⟩⟩, rfl, (fun d hd => by cases hd), by simpa using H.out.below hba, ofBelow hba _⟩
  case round =>
    obtain ⟨k, ds, hk, rfl, hown, hlen, hds, hsr, hg⟩ := hrel
    have HO := Lib.hid hown
    have HD := Lib.hid hds
    have HS := Lib.hid hsr
    have HG := Lib.hid hg
    have HL := Lib.hid hlen
    have hwz := hg.size
    clear hown hds hsr hg hlen
    by_cases hkn : k < width
    · have hi1 : (k : Int) < (width : Int) := by omega
      go_wp2_with fail
      refine (pick_any b _ base wr HS.out (by omega)).mono ?_; rintro e w1 ⟨x, rfl, x0, xn, hs1, hg1⟩
      have HS1 := Lib.hid hs1
      have HG1 := Lib.hid (gtrans HG.out hg1)
      have HO1 := Lib.hid (HO.out.grown hg1 hlt)
      have hz1 := hg1.size
      have hxb : x < base := by omega
      clear hs1 hg1 xn
      go_wp2_with fail
      refine (one_any b _ 3 w1 HS1.out (by omega)).mono ?_; rintro e w2 ⟨y, rfl, hs2, hg2⟩
      have HS2 := Lib.hid hs2
      have HG2 := Lib.hid (gtrans HG1.out hg2)
      have HO2 := Lib.hid (HO1.out.grown hg2 hlt)
      have hz2 := hg2.size
      have hlen := HL.out
      clear hs2 hg2
      cases y
      · have HOB := Lib.hid (HO2.out.below ((Below.refl _ _).alloc (Nat.le_refl _) (.cells #[.int .i64 x] 2)))
        have hgb := gBelow HG2.out ((Below.refl _ _).alloc (Nat.le_refl _) (.cells #[.int .i64 x] 2))
        have hsb := HS2.out.below ((Below.refl _ _).alloc (Nat.le_refl _) (.cells #[.int .i64 x] 2))
        have HGB := Lib.hid hgb; clear hgb
        have HSB := Lib.hid hsb; clear hsb
        go_wp2_with (at_builtin; refine app1I rfl _ _ rfl w.heap.size _ ds rfl HOB.out w2.heap.size x rfl (heap_alloc_new _ _) (by omega) (by simp; omega) ?_; intro v5 w6 hown5 hg5 hv5)
        have hlo := ownI_lo HOB.out
        have HGF := Lib.hid (gMore HGB.out hg5 hlo)
        have HSF := Lib.hid ((HSB.out.keep hg5.size (fun k hk => hg5.block k (by simp; omega) (fun e => by have := hlo k e.symm; omega))).mono (show N + k * 4 + 2 + 2 ≤ N + (k + 1) * 4 by omega))
        have HOF := Lib.hid hown5; clear hown5
        go_roundw
        case rel => exact ⟨k + 1, ds ++ [x], by omega, by go_num, HOF.out, by rw [List.length_append, HL.out]; rfl, fun d hd => by
          rcases List.mem_append.1 hd with hd | hd
          · exact HD.out d hd
          · rw [List.mem_singleton.1 hd]; omega, HSF.out, HGF.out⟩
        case measure => simp [intOf]; omega
      · have HOB := Lib.hid (HO2.out.below ((Below.refl _ _).alloc (Nat.le_refl _) (.cells #[.int .i64 (base - 1)] 2)))
        have hgb := gBelow HG2.out ((Below.refl _ _).alloc (Nat.le_refl _) (.cells #[.int .i64 (base - 1)] 2))
        have hsb := HS2.out.below ((Below.refl _ _).alloc (Nat.le_refl _) (.cells #[.int .i64 (base - 1)] 2))
        have HGB := Lib.hid hgb; clear hgb
        have HSB := Lib.hid hsb; clear hsb
        go_wp2_with (at_builtin; refine app1I rfl _ _ rfl w.heap.size _ ds rfl HOB.out w2.heap.size (base - 1) rfl (heap_alloc_new _ _) (by omega) (by simp; omega) ?_; intro v5 w6 hown5 hg5 hv5)
        have hlo := ownI_lo HOB.out
        have HGF := Lib.hid (gMore HGB.out hg5 hlo)
        have HSF := Lib.hid ((HSB.out.keep hg5.size (fun k hk => hg5.block k (by simp; omega) (fun e => by have := hlo k e.symm; omega))).mono (show N + k * 4 + 2 + 2 ≤ N + (k + 1) * 4 by omega))
        have HOF := Lib.hid hown5; clear hown5
        go_roundw
        case rel => exact ⟨k + 1, ds ++ [(base - 1)], by omega, by go_num, HOF.out, by rw [List.length_append, HL.out]; rfl, fun d hd => by
          rcases List.mem_append.1 hd with hd | hd
          · exact HD.out d hd
          · rw [List.mem_singleton.1 hd]; omega, HSF.out, HGF.out⟩
        case measure => simp [intOf]; omega
    · have HK : Hid (k = width) := by simp only [Hid]; omega
      obtain ⟨AO, cO, rfl, -⟩ := HO.out.reads
      have HE : Hid (ds.length = width) := by simp only [Hid]; have := HL.out; have := HK.out; omega
      have HOW : Hid (OwnI wr w.heap.size (.slice AO width cO) ds) := by have h := HO.out; rw [HE.out] at h; exact h
      have HSF : Hid (Src wr b (N + width * 4)) := HS.out.mono (by have := HK.out; omega)
      rw [HE.out]
      go_wp2
      go_ret
      exact ⟨AO, cO, ds, rfl, HOW.out, HE.out, HD.out, HSF.out, HG.out⟩
end Go.Proofs.YtcapccadpbiecaaDoor

namespace Go.Proofs.YtcapccadpbiecaaDoor
open Go.RowKit Go.Sort
theorem l07Size_any (n : Int) (w : World) : Calls Tryd.prog 210 #[.int .i64 n] w fun e w' => e = .returned (.bool (betB n 1 16)) ∧ w = w' := by
  go_enter Tryd.func210, Tryd.ntmps210
  go_wp2_with (go_at_call 128; refine (l00In_any _ _ _ _).mono ?_; rintro e w' ⟨rfl, rfl⟩)
  go_ret
  exact ⟨rfl, rfl⟩
set_option maxHeartbeats 1600000 in
theorem l08Ok_true (n : Nat) (A : Option Addr) (m c : Nat) (fs : List Flt) (w : World) (hr : RL FltM 2 w A m fs) (hg : GoodF n fs) (ha : Asc fs) (hn1 : 1 ≤ n) (hn : n ≤ 16) (hm : m ≤ 1000000) :
    Calls Tryd.prog 191 #[.int .i64 n, .slice A m c] w fun e w' => e = .returned (.bool true) ∧ ∃ q, w' = w.drewN q := by
  have HL := Lib.hid hr.1
  have HB : Hid (betB (n : Int) 1 16 = true) := by simp only [Hid]; rw [betB_iff]; omega
  go_enter Tryd.func191, Tryd.ntmps191
  go_wp2_with (go_at_call 210; refine (l07Size_any _ _).mono ?_; rintro e w' ⟨rfl, rfl⟩; rw [HB.out])
  go_loopw [5] (fun i wr => ∃ k : Nat, k ≤ m ∧ i = .int .i64 k ∧ ∃ q, wr = w.drewN q) (fun i _ => m - (intOf i).toNat)
  case atStart => exact ⟨0, Nat.zero_le _, rfl, 0, rfl⟩
  case round =>
    obtain ⟨k, hk, rfl, q, rfl⟩ := hrel
    by_cases hkn : k < m
    · obtain ⟨ad, hA, hlt, hkl, f1, f2⟩ := hr.at_ hkn
      obtain ⟨q1, q2, q3, q4⟩ := hg fs[k] (List.getElem_mem _)
      have hb1 : betB fs[k].kind 1 3 = true := by rw [betB_iff]; omega
      have hb2 : betB fs[k].lever 0 ((n : Int) - 1) = true := by rw [betB_iff]; omega
      have hi0 : (0 : Int) ≤ (k : Int) := by omega
      have hi1 : (k : Int) < (m : Int) := by omega
      rcases Nat.eq_zero_or_pos k with hk0 | hk0
      · subst hk0
        rw [Nat.zero_mul, addr_add_zero] at f1 f2
        subst hA
        go_wp2_with fail
        go_quiet ((go_at_call 128; first | exact quiet_left (l00In_any _ _ _ _) | exact quiet_add_left (l00In_any _ _ _ _)))
        go_wp2
        go_roundw
        case rel => exact ⟨1, by omega, by go_num, by first | exact ⟨_, rfl⟩ | exact ⟨_, World.drewN_drewN _ _ _⟩⟩
        case measure => simp [intOf]; omega
      · obtain ⟨ad', hA', -, hkl', g1, g2⟩ := hr.at_ (show k - 1 < m by omega)
        obtain rfl : ad = ad' := by rw [hA] at hA'; injection hA'
        clear hA'
        have hasc := ha (k - 1) (by omega)
        have he : fs[k - 1 + 1] = fs[k] := by congr 1; omega
        rw [he] at hasc
        obtain ⟨lv, hlv⟩ : ∃ lv, lv = fs[k - 1].lever := ⟨_, rfl⟩
        rw [← hlv] at g2 hasc
        clear hlv he g1
        have hd : decide ((0 : Int) < (k : Int)) = true := decide_eq_true (by omega)
        have hd2 : decide (fs[k].lever ≤ lv) = false := decide_eq_false (by omega)
        have hi2 : (0 : Int) < (k : Int) := by omega
        subst hA
        go_wp2_with fail
        go_quiet ((go_at_call 128; first | exact quiet_left (l00In_any _ _ _ _) | exact quiet_add_left (l00In_any _ _ _ _)))
        go_wp2
        go_roundw
        case rel => exact ⟨k + 1, by omega, by go_num, by first | exact ⟨_, rfl⟩ | exact ⟨_, World.drewN_drewN _ _ _⟩⟩
        case measure => simp [intOf]; omega
    · go_wp2
      go_ret
      exact ⟨rfl, q, rfl⟩
end Go.Proofs.YtcapccadpbiecaaDoor

namespace Go.Proofs.YtcapccadpbiecaaDoor
open Go.RowKit Go.Sort
set_option maxHeartbeats 3200000 in
theorem l08OkG (n : Nat) (A : Option Addr) (m c : Nat) (fs : List Flt) (w : World) (hr : RL FltM 2 w A m fs) (hn1 : 1 ≤ n) (hn : n ≤ 16) (hm : m ≤ 1048576) :
    Calls Tryd.prog 191 #[.int .i64 n, .slice A m c] w fun e w' => e = .returned (.bool (vfl n fs)) ∧ ∃ q, w' = w.drewN q := by
  have HL := Lib.hid hr.1
  have HB : Hid (betB (n : Int) 1 16 = true) := by simp only [Hid]; rw [betB_iff]; omega
  have HV := Lib.hid (show vfl n fs = vfU n fs m by unfold vfl; rw [hr.1])
  have HNOT := Lib.hid (fun (k : Nat) (hk : k < fs.length) (h : (fltOk n (fs.getD k ⟨0, 0⟩) && ascAt fs k) = false) => vfl_not hk h)
  obtain ⟨R, hR⟩ : ∃ R, vfl n fs = R := ⟨_, rfl⟩
  rw [hR] at HV HNOT ⊢
  clear hR
  go_enter Tryd.func191, Tryd.ntmps191
  go_wp2_with (go_at_call 210; refine (l07Size_any _ _).mono ?_; rintro e w' ⟨rfl, rfl⟩; rw [HB.out])
  go_loopw [5] (fun i wr => ∃ k : Nat, k ≤ m ∧ i = .int .i64 k ∧ Hid (vfU n fs k = true) ∧ ∃ q, wr = w.drewN q) (fun i _ => m - (intOf i).toNat)
  case atStart => exact ⟨0, Nat.zero_le _, rfl, rfl, 0, rfl⟩
  case round =>
    obtain ⟨k, hk, rfl, HU, q, rfl⟩ := hrel
    by_cases hkn : k < m
    · obtain ⟨ad, hA, hlt, hkl, f1, f2⟩ := hr.at_ hkn
      have hgd : fs.getD k ⟨0, 0⟩ = fs[k] := by simp [List.getD, List.getElem?_eq_getElem hkl]
      have hi0 : (0 : Int) ≤ (k : Int) := by omega
      have hi1 : (k : Int) < (m : Int) := by omega
      have HNX := Lib.hid (show vfU n fs (k + 1) = (fltOk n fs[k] && ascAt fs k) by
        have := HU.out
        unfold vfU; rw [this, Bool.true_and, hgd])
      have HNK := Lib.hid (fun (h : (fltOk n fs[k] && ascAt fs k) = false) => HNOT.out k hkl (by rw [hgd]; exact h))
      have HGD := Lib.hid hgd
      clear hgd
      rcases hb1 : betB fs[k].kind 1 3 with _ | _
      · have HQ := Lib.hid (HNK.out (by unfold fltOk; rw [hb1]; rfl))
        rcases Nat.eq_zero_or_pos k with hk0 | hk0
        · subst hk0
          rw [Nat.zero_mul, addr_add_zero] at f1 f2
          subst hA
          go_wp2_with fail
          go_quiet ((go_at_call 128; first | exact quiet_left (l00In_any _ _ _ _) | exact quiet_add_left (l00In_any _ _ _ _)))
          go_wp2
          go_ret
          exact ⟨ret_bool HQ.out.symm, by first | exact ⟨_, rfl⟩ | exact ⟨_, World.drewN_drewN _ _ _⟩⟩
        · subst hA
          go_wp2_with fail
          go_quiet ((go_at_call 128; first | exact quiet_left (l00In_any _ _ _ _) | exact quiet_add_left (l00In_any _ _ _ _)))
          go_wp2
          go_ret
          exact ⟨ret_bool HQ.out.symm, by first | exact ⟨_, rfl⟩ | exact ⟨_, World.drewN_drewN _ _ _⟩⟩
      rcases hb2 : betB fs[k].lever 0 ((n : Int) - 1) with _ | _
      · have HQ := Lib.hid (HNK.out (by unfold fltOk; rw [hb1, hb2]; rfl))
        rcases Nat.eq_zero_or_pos k with hk0 | hk0
        · subst hk0
          rw [Nat.zero_mul, addr_add_zero] at f1 f2
          subst hA
          go_wp2_with fail
          go_quiet ((go_at_call 128; first | exact quiet_left (l00In_any _ _ _ _) | exact quiet_add_left (l00In_any _ _ _ _)))
          go_wp2
          go_ret
          exact ⟨ret_bool HQ.out.symm, by first | exact ⟨_, rfl⟩ | exact ⟨_, World.drewN_drewN _ _ _⟩⟩
        · subst hA
          go_wp2_with fail
          go_quiet ((go_at_call 128; first | exact quiet_left (l00In_any _ _ _ _) | exact quiet_add_left (l00In_any _ _ _ _)))
          go_wp2
          go_ret
          exact ⟨ret_bool HQ.out.symm, by first | exact ⟨_, rfl⟩ | exact ⟨_, World.drewN_drewN _ _ _⟩⟩
      have HF := Lib.hid (show fltOk n fs[k] = true by unfold fltOk; rw [hb1, hb2]; rfl)
      rcases Nat.eq_zero_or_pos k with hk0 | hk0
      · subst hk0
        rw [Nat.zero_mul, addr_add_zero] at f1 f2
        subst hA
        go_wp2_with fail
        go_quiet ((go_at_call 128; first | exact quiet_left (l00In_any _ _ _ _) | exact quiet_add_left (l00In_any _ _ _ _)))
        go_wp2
        go_roundw
        case rel => exact ⟨1, by omega, by go_num, by rw [HNX.out, HF.out]; rfl, by first | exact ⟨_, rfl⟩ | exact ⟨_, World.drewN_drewN _ _ _⟩⟩
        case measure => simp [intOf]; omega
      · obtain ⟨ad', hA', -, hkl', g1, g2⟩ := hr.at_ (show k - 1 < m by omega)
        obtain rfl : ad = ad' := by rw [hA] at hA'; injection hA'
        clear hA'
        have hgd2 : fs.getD (k - 1) ⟨0, 0⟩ = fs[k - 1] := by simp [List.getD, List.getElem?_eq_getElem hkl']
        have hasc : ascAt fs k = decide (fs[k - 1].lever < fs[k].lever) := by unfold ascAt; rw [HGD.out, hgd2, decide_eq_false (by omega), Bool.false_or]
        obtain ⟨lv, hlv⟩ : ∃ lv, lv = fs[k - 1].lever := ⟨_, rfl⟩
        rw [← hlv] at g2 hasc
        clear hlv g1 hgd2
        have hd : decide ((0 : Int) < (k : Int)) = true := decide_eq_true (by omega)
        have hi2 : (0 : Int) < (k : Int) := by omega
        subst hA
        by_cases hlt2 : lv < fs[k].lever
        · have HNX2 : Hid (vfU n fs (k + 1) = true) := by simp only [Hid]; rw [HNX.out, HF.out, hasc, decide_eq_true hlt2]; rfl
          have hd2 : decide (fs[k].lever ≤ lv) = false := decide_eq_false (by omega)
          clear hasc
          go_wp2_with fail
          go_quiet ((go_at_call 128; first | exact quiet_left (l00In_any _ _ _ _) | exact quiet_add_left (l00In_any _ _ _ _)))
          go_wp2
          go_roundw
          case rel => exact ⟨k + 1, by omega, by go_num, HNX2.out, by first | exact ⟨_, rfl⟩ | exact ⟨_, World.drewN_drewN _ _ _⟩⟩
          case measure => simp [intOf]; omega
        · have HQ := Lib.hid (HNK.out (by rw [HF.out, hasc, decide_eq_false hlt2]; rfl))
          have hd2 : decide (fs[k].lever ≤ lv) = true := decide_eq_true (by omega)
          clear hasc
          go_wp2_with fail
          go_quiet ((go_at_call 128; first | exact quiet_left (l00In_any _ _ _ _) | exact quiet_add_left (l00In_any _ _ _ _)))
          go_wp2
          go_ret
          exact ⟨ret_bool HQ.out.symm, by first | exact ⟨_, rfl⟩ | exact ⟨_, World.drewN_drewN _ _ _⟩⟩
    · obtain rfl : k = m := by omega
      have HQ := Lib.hid (show R = true by rw [HV.out]; exact HU.out)
      go_wp2
      go_ret
      exact ⟨ret_bool HQ.out.symm, q, rfl⟩
/-! the console's state, in the statement's own shape -/
set_option maxRecDepth 100000 in
set_option maxHeartbeats 1600000 in
theorem szDesk_any (b1 b2 b3 cy : Int) (A1 A2 A3 FA : Option Addr) (n1 n2 n3 c1 c2 c3 fn fc : Nat) (J : ByteArray) (w : World) (hm1 : n1 ≤ 9223372036854775807) (hm2 : n2 ≤ 9223372036854775807) (hm3 : n3 ≤ 9223372036854775807) (hmf : fn ≤ 9223372036854775807) (hmj : J.size ≤ 9223372036854775807) :
    Calls Tryd.prog 63 #[.agg #[.int .i64 b1, .slice A1 n1 c1, .int .i64 b2, .slice A2 n2 c2, .int .i64 b3, .slice A3 n3 c3, .int .i64 cy, .slice FA fn fc, .string J], .int .i64 1048576] w fun e w' => (∃ x : Int, e = .returned (.int .i64 x) ∧ (x < 0 ∨ (0 ≤ x ∧ n1 ≤ 1048576 ∧ n2 ≤ 1048576 ∧ n3 ≤ 1048576 ∧ fn ≤ 1048576 ∧ J.size ≤ 1048576))) ∧ Below w.heap.size w w' := by
  have KM := Lib.hid (fun W => szMachine_any b1 b2 b3 cy A1 A2 A3 n1 n2 n3 c1 c2 c3 1048576 W (by omega) (by omega) hm1 hm2 hm3)
  obtain ⟨v1, v2⟩ := lf3_lo n1 n2 n3 (by omega) (by omega) (by omega)
  by_cases hneg : lft3 1048576 n1 n2 n3 < 0
  · go_enter Tryd.func63, Tryd.ntmps63
    go_wp2_with fail
    refine Calls.kn ((Kn.nil w).al [.int .i64 b1, .slice A1 n1 c1, .int .i64 b2, .slice A2 n2 c2, .int .i64 b3, .slice A3 n3 c3, .int .i64 cy, .slice FA fn fc, .string J] 81) ?_; intro w1 hK0
    refine (KM.out _).mono ?_; rintro e w2 ⟨rfl, hw⟩
    have hK1 := hK0.keep hw
    go_wp2_with fail
    go_ret
    exact ⟨⟨-1, rfl, .inl (by omega)⟩, hK1.below⟩
  obtain ⟨s1, s2, s3⟩ := lf3_small (by omega) (by omega) (by omega) hneg
  obtain ⟨l, hl⟩ : ∃ l, lft3 1048576 n1 n2 n3 = l := ⟨_, rfl⟩
  rw [hl] at KM v1 v2 hneg
  clear hl
  have KF := (fun W => szLeverFaultS_any FA fn fc l W (by omega) (by omega) hmf)
  by_cases hf : (fn : Int) ≤ l
  · rw [if_pos hf] at KF
    have KF := Lib.hid KF
    have hf2 : ¬ (l - (fn : Int) < 0) := by omega
    have hwr : IntKind.i64.wrap (l - (fn : Int) - (J.size : Int)) = l - (fn : Int) - (J.size : Int) := wrapI64 (by omega)
    by_cases hj : l - (fn : Int) - (J.size : Int) < 0
    · go_enter Tryd.func63, Tryd.ntmps63
      go_wp2_with fail
      refine Calls.kn ((Kn.nil w).al [.int .i64 b1, .slice A1 n1 c1, .int .i64 b2, .slice A2 n2 c2, .int .i64 b3, .slice A3 n3 c3, .int .i64 cy, .slice FA fn fc, .string J] 81) ?_; intro w1 hK0
      refine (KM.out _).mono ?_; rintro e w2 ⟨rfl, hw⟩
      have hK1 := hK0.keep hw
      obtain ⟨a1, a2, a3, -⟩ := hK1.cells
      go_wp2_with fail
      refine (KF.out _).mono ?_; rintro e w3 ⟨rfl, hww⟩; subst hww
      go_wp2_with fail
      go_ret
      exact ⟨⟨-1, rfl, .inl (by omega)⟩, hK1.below⟩
    · go_enter Tryd.func63, Tryd.ntmps63
      go_wp2_with fail
      refine Calls.kn ((Kn.nil w).al [.int .i64 b1, .slice A1 n1 c1, .int .i64 b2, .slice A2 n2 c2, .int .i64 b3, .slice A3 n3 c3, .int .i64 cy, .slice FA fn fc, .string J] 81) ?_; intro w1 hK0
      refine (KM.out _).mono ?_; rintro e w2 ⟨rfl, hw⟩
      have hK1 := hK0.keep hw
      obtain ⟨a1, a2, a3, -⟩ := hK1.cells
      go_wp2_with fail
      refine (KF.out _).mono ?_; rintro e w3 ⟨rfl, hww⟩; subst hww
      go_wp2_with fail
      go_ret
      exact ⟨⟨l - (fn : Int) - (J.size : Int), rfl, .inr (by omega)⟩, hK1.below⟩
  · rw [if_neg hf] at KF
    have KF := Lib.hid KF
    go_enter Tryd.func63, Tryd.ntmps63
    go_wp2_with fail
    refine Calls.kn ((Kn.nil w).al [.int .i64 b1, .slice A1 n1 c1, .int .i64 b2, .slice A2 n2 c2, .int .i64 b3, .slice A3 n3 c3, .int .i64 cy, .slice FA fn fc, .string J] 81) ?_; intro w1 hK0
    refine (KM.out _).mono ?_; rintro e w2 ⟨rfl, hw⟩
    have hK1 := hK0.keep hw
    obtain ⟨a1, a2, a3, -⟩ := hK1.cells
    go_wp2_with fail
    refine (KF.out _).mono ?_; rintro e w3 ⟨rfl, hww⟩; subst hww
    go_wp2_with fail
    go_ret
    exact ⟨⟨-1, rfl, .inl (by omega)⟩, hK1.below⟩
set_option maxRecDepth 100000 in
set_option maxHeartbeats 3200000 in
theorem toDesk_kn (b1 b2 b3 cy : Int) (A1 A2 A3 FA : Option Addr) (n1 n2 n3 c1 c2 c3 fn fc : Nat) (J : ByteArray) (d1 d2 d3 : List Int) (fs : List Flt) (w : World) (r1 : RI w A1 n1 d1) (r2 : RI w A2 n2 d2) (r3 : RI w A3 n3 d3) (rf : RL FltM 2 w FA fn fs) (hm1 : n1 ≤ 1048576) (hm2 : n2 ≤ 1048576) (hm3 : n3 ≤ 1048576) (hmf : fn ≤ 1048576) :
    Calls Tryd.prog 65 #[.agg #[.int .i64 b1, .slice A1 n1 c1, .int .i64 b2, .slice A2 n2 c2, .int .i64 b3, .slice A3 n3 c3, .int .i64 cy, .slice FA fn fc, .string J]] w fun e w' => ∃ X1 x1 X2 x2 X3 x3 XF xf, e = .returned (.agg #[.int .i64 b1, .slice X1 n1 x1, .int .i64 b2, .slice X2 n2 x2, .int .i64 b3, .slice X3 n3 x3, .int .i64 cy, .slice XF fn xf, .string J]) ∧ Kn w [rowFlN XF fn xf fs, rowN X3 n3 x3 d3, rowN X2 n2 x2 d2, rowN X1 n1 x1 d1] w' := by
  have KM := Lib.hid (fun W (hW : Below w.heap.size w W) => toMachine_kn b1 b2 b3 cy A1 A2 A3 n1 n2 n3 c1 c2 c3 d1 d2 d3 W (r1.below hW) (r2.below hW) (r3.below hW) hm1 hm2 hm3)
  have KF := Lib.hid (fun W (hW : Below w.heap.size w W) => toLeverFaultS_kn FA fn fc fs W (rf.below steady_FltM hW) hmf)
  clear r1 r2 r3 rf
  go_enter Tryd.func65, Tryd.ntmps65
  go_wp2_with fail
  refine Calls.kn ((((Kn.nil w).al [.int .i64 b1, .slice A1 n1 c1, .int .i64 b2, .slice A2 n2 c2, .int .i64 b3, .slice A3 n3 c3, .int .i64 cy, .slice FA fn fc, .string J] 81).al [.int .i64 0, .slice none 0 0, .int .i64 0, .slice none 0 0, .int .i64 0, .slice none 0 0, .int .i64 0, .slice none 0 0, .string ⟨#[]⟩] 86).al [.int .i64 0, .slice none 0 0, .int .i64 0, .slice none 0 0, .int .i64 0, .slice none 0 0, .int .i64 0, .slice none 0 0, .string ⟨#[]⟩] 86) ?_; intro w1 hK0
  simp only [World.size_alloc] at hK0
  refine (KM.out _ hK0.below).mono ?_; rintro e w2 ⟨X1, x1, X2, x2, X3, x3, rfl, hKn⟩
  have hK1 := hK0.join hKn
  clear hK0 hKn
  obtain ⟨a1, a2, a3, a4, a5, a6, a7, a8, a9, -⟩ := hK1.cells
  go_upto_region 3 with fail
  refine Code.wp.kn ((((((((hK1.front 3 rfl).st 0 (.int .i64 b1)).st 1 (.slice X1 n1 x1)).st 2 (.int .i64 b2)).st 3 (.slice X2 n2 x2)).st 4 (.int .i64 b3)).st 5 (.slice X3 n3 x3)).st 6 (.int .i64 cy)) ?_; intro w3 hK3
  clear hK1 a1 a2 a3 a4 a5 a6 a7 a8 a9
  obtain ⟨a1, a2, a3, a4, a5, a6, a7, a8, a9, -⟩ := hK3.cells
  go_wp2_with fail
  refine (KF.out _ hK3.below).mono ?_; rintro e w4 ⟨XF, xf, rfl, hKn⟩
  have hK4 := hK3.join hKn
  clear hK3 hKn a1 a2 a3 a4 a5 a6 a7 a8 a9
  obtain ⟨a1, a2, a3, a4, a5, a6, a7, a8, a9, -⟩ := hK4.cells
  go_upto_region 5 with fail
  refine Code.wp.kn (((hK4.front 1 rfl).st 7 (.slice XF fn xf)).st 8 (.string J)) ?_; intro w5 hK5
  clear hK4 a1 a2 a3 a4 a5 a6 a7 a8 a9
  obtain ⟨a1, a2, a3, a4, a5, a6, a7, a8, a9, -⟩ := hK5.cells
  go_wp2_with fail
  refine bodyPost.kn ((((((((((hK5.front 5 rfl).st 0 (.int .i64 b1)).st 1 (.slice X1 n1 x1)).st 2 (.int .i64 b2)).st 3 (.slice X2 n2 x2)).st 4 (.int .i64 b3)).st 5 (.slice X3 n3 x3)).st 6 (.int .i64 cy)).st 7 (.slice XF fn xf)).st 8 (.string J)) ?_; intro w6 hK6
  clear hK5 a1 a2 a3 a4 a5 a6 a7 a8 a9
  obtain ⟨a1, a2, a3, -⟩ := hK6.cells
  refine bodyPost_ret (v := .agg #[.int .i64 b1, .slice X1 n1 x1, .int .i64 b2, .slice X2 n2 x2, .int .i64 b3, .slice X3 n3 x3, .int .i64 cy, .slice XF fn xf, .string J]) (by simp [results, Tryd.results65, go_sem, a1]) rfl ⟨X1, x1, X2, x2, X3, x3, XF, xf, rfl, ?_⟩
  exact hK6.sel [2, 3, 4, 5] 99 (by decide) (by decide)
set_option maxRecDepth 100000 in
set_option maxHeartbeats 1600000 in
theorem eqDesk_same (b1 b2 b3 cy : Int) (A1 A2 A3 FA X1 X2 X3 XF : Option Addr) (n1 n2 n3 c1 c2 c3 fn fc x1 x2 x3 xf : Nat) (J : ByteArray) (d1 d2 d3 : List Int) (fs : List Flt) (w : World) (r1 : RI w A1 n1 d1) (r2 : RI w A2 n2 d2) (r3 : RI w A3 n3 d3) (rf : RL FltM 2 w FA fn fs)
    (s1 : RI w X1 n1 d1) (s2 : RI w X2 n2 d2) (s3 : RI w X3 n3 d3) (sf : RL FltM 2 w XF fn fs) (hm1 : n1 ≤ 1048576) (hm2 : n2 ≤ 1048576) (hm3 : n3 ≤ 1048576) (hmf : fn ≤ 1048576) :
    Calls Tryd.prog 67 #[.agg #[.int .i64 b1, .slice A1 n1 c1, .int .i64 b2, .slice A2 n2 c2, .int .i64 b3, .slice A3 n3 c3, .int .i64 cy, .slice FA fn fc, .string J], .agg #[.int .i64 b1, .slice X1 n1 x1, .int .i64 b2, .slice X2 n2 x2, .int .i64 b3, .slice X3 n3 x3, .int .i64 cy, .slice XF fn xf, .string J]] w fun e w' => e = .returned (.bool true) ∧ Below w.heap.size w w' := by
  have KM := Lib.hid (fun W (hW : Below w.heap.size w W) => eqM_same b1 b2 b3 cy A1 A2 A3 X1 X2 X3 n1 n2 n3 c1 c2 c3 x1 x2 x3 d1 d2 d3 W (r1.below hW) (r2.below hW) (r3.below hW) (s1.below hW) (s2.below hW) (s3.below hW) hm1 hm2 hm3)
  have KF := Lib.hid (fun W (hW : Below w.heap.size w W) => eqLeverFaultS_same FA XF fn fc xf fs W (rf.below steady_FltM hW) (sf.below steady_FltM hW) hmf)
  clear r1 r2 r3 rf s1 s2 s3 sf
  go_enter Tryd.func67, Tryd.ntmps67
  go_wp2_with fail
  refine Calls.kn (((Kn.nil w).al [.int .i64 b1, .slice A1 n1 c1, .int .i64 b2, .slice A2 n2 c2, .int .i64 b3, .slice A3 n3 c3, .int .i64 cy, .slice FA fn fc, .string J] 86).al [.int .i64 b1, .slice X1 n1 x1, .int .i64 b2, .slice X2 n2 x2, .int .i64 b3, .slice X3 n3 x3, .int .i64 cy, .slice XF fn xf, .string J] 86) ?_; intro w1 hK0
  simp only [World.size_alloc] at hK0
  refine (KM.out _ hK0.below).mono ?_; rintro e w2 ⟨rfl, hw⟩
  have hK1 := hK0.keep hw
  clear hK0 hw
  obtain ⟨a1, a2, a3, a4, a5, a6, -⟩ := hK1.cells
  go_wp2_with fail
  refine (KF.out _ hK1.below).mono ?_; rintro e w3 ⟨rfl, hw⟩
  have hK2 := hK1.keep hw
  clear hK1 hw a1 a2 a3 a4 a5 a6
  obtain ⟨a1, a2, a3, a4, a5, a6, -⟩ := hK2.cells
  have hself : (J.toList == J.toList) = true := by simp
  go_wp2_with fail
  go_ret
  exact ⟨rfl, hK2.below⟩
end Go.Proofs.YtcapccadpbiecaaDoor

namespace Go.Proofs.YtcapccadpbiecaaDoor
open Go.RowKit Go.Sort
/-! whole sessions, plainly -/
/-- what a line does to a machine -/
def stepM (t : Tri) (b : List UInt8) : Tri × Int :=
  if kindOf b ≠ 0 then ((strokeT (kindOf b) t).1, 0)
  else if b = endB then (t, 0)
  else if begins setB b then (if (rdDec (b.drop 4)).isSome && decide (0 ≤ rdN (b.drop 4) ∧ rdN (b.drop 4) < pw t.a.base t.a.digits.length) then (setT t (rdN (b.drop 4)), 0) else (t, 3))
  else if begins showB b then (if b.drop 5 = strB (mtextL t) then (t, 0) else (t, 4))
  else (t, 2)
theorem kind_end : kindOf endB = 0 := by decide
theorem lineS_step {s : SS} {i : Int} {b : List UInt8} (h : s.ended = false) : (lineS s i b).1.m = (stepM s.m b).1 ∧ (lineS s i b).2 = (stepM s.m b).2 ∧ (lineS s i b).1.ended = decide (b = endB) ∧ (lineS s i b).1.start = s.start := by
  unfold lineS stepM
  rw [if_neg (by rw [h]; decide)]
  by_cases hk : kindOf b = 0
  · have hk' : ¬ (kindOf b ≠ 0) := fun h => h hk
    rw [if_neg hk', if_neg hk']
    by_cases he : b = endB
    · rw [if_pos he, if_pos he]; simp [he]
    · rw [if_neg he, if_neg he]
      have hd : decide (b = endB) = false := decide_eq_false he
      rw [hd]
      rcases begins setB b with _ | _
      · simp only [Bool.false_eq_true, if_false]
        rcases begins showB b with _ | _
        · simp [h]
        · simp only [if_true]; split <;> simp [h]
      · simp only [if_true]; split <;> simp [h]
  · rw [if_pos hk, if_pos hk]
    have he : b ≠ endB := by rintro rfl; exact hk kind_end
    simp [he]
def foldT (t : Tri) (l : List (List UInt8)) : Tri := l.foldl (fun t b => (stepM t b).1) t
def AllOk : Tri → List (List UInt8) → Prop
  | _, [] => True
  | t, b :: l => (stepM t b).2 = 0 ∧ b ≠ endB ∧ AllOk (stepM t b).1 l
theorem goS_ended {s : SS} {i : Int} {l : List (List UInt8)} (h : s.ended = true) (h0 : (goS s i l).2.2 = 0) : l = [] := by
  cases l with
  | nil => rfl
  | cons b l =>
    rw [goS_cons, lineS_ended i b h] at h0
    rw [if_pos (show (5 : Int) ≠ 0 by decide)] at h0
    cases h0
/-- a whole session: its lines are fine, and the last one ends it -/
theorem goS_valid : ∀ {l : List (List UInt8)} {s : SS} {i : Int}, s.ended = false → (goS s i l).2.2 = 0 → ∃ body, l = body ++ [endB] ∧ AllOk s.m body ∧ (goS s i l).1.m = foldT s.m body ∧ (goS s i l).1.start = s.start
  | [], s, i, h, h0 => by
    rw [goS_nil, h, if_neg (by decide)] at h0
    cases h0
  | b :: l, s, i, h, h0 => by
    obtain ⟨e1, e2, e3, e4⟩ := lineS_step (i := i) (b := b) h
    by_cases hc : (lineS s i b).2 = 0
    · rw [goS_cons, if_neg (fun h => h hc)] at h0 ⊢
      by_cases he : b = endB
      · have hl := goS_ended (by rw [e3, decide_eq_true he]) h0
        subst hl
        refine ⟨[], by rw [he]; rfl, trivial, ?_, ?_⟩
        · rw [goS_nil, e3, decide_eq_true he, if_pos rfl, e1, he]
          show (stepM s.m endB).1 = s.m
          unfold stepM
          rw [if_neg (fun h => h kind_end), if_pos rfl]
        · rw [goS_nil, e3, decide_eq_true he, if_pos rfl, e4]
      · have he' : (lineS s i b).1.ended = false := by rw [e3, decide_eq_false he]
        obtain ⟨body, h1, h2, h3, h4⟩ := goS_valid (l := l) he' h0
        refine ⟨b :: body, by rw [h1]; rfl, ⟨e2.symm.trans hc, he, by rw [← e1]; exact h2⟩, ?_, by rw [h4, e4]⟩
        rw [h3, e1]; rfl
    · rw [goS_cons, if_pos hc] at h0
      exact absurd h0 hc
/-- fine lines without an end: the machine behind them -/
theorem goS_fold : ∀ {l : List (List UInt8)} {s : SS} {i : Int}, s.ended = false → AllOk s.m l → (goS s i l).1.m = foldT s.m l
  | [], s, i, h, _ => by rw [goS_nil, h, if_neg (by decide)]; rfl
  | b :: l, s, i, h, h0 => by
    obtain ⟨e1, e2, e3, e4⟩ := lineS_step (i := i) (b := b) h
    obtain ⟨h1, h2, h3⟩ := h0
    rw [goS_cons, if_neg (fun h => h (e2.trans h1))]
    rw [goS_fold (by rw [e3, decide_eq_false h2]) (by rw [e1]; exact h3), e1]; rfl
theorem foldT_ok : ∀ {l : List (List UInt8)} {t : Tri}, vmach t = true → vmach (foldT t l) = true
  | [], t, h => h
  | b :: l, t, h => by
    show vmach (foldT (stepM t b).1 l) = true
    refine foldT_ok ?_
    have hg : (SS.mk t t [] [] false).Good 0 := ⟨h, h, Nat.le_refl _, Nat.le_refl _⟩
    have := (lineS_good (i := 0) (bs := b) hg).m
    rw [(lineS_step (s := ⟨t, t, [], [], false⟩) (i := 0) (b := b) rfl).1] at this
    exact this
/-- a whole session, from its lines -/
theorem whole_parts {l : List (List UInt8)} (h : wholeC l = 0) : l.length ≤ 100 ∧ ∃ b0 body, l = b0 :: (body ++ [endB]) ∧ startOk b0 = true ∧ vmach (rdMach (b0.drop 6)) = true ∧ AllOk (rdMach (b0.drop 6)) body ∧ (runS l).1.m = foldT (rdMach (b0.drop 6)) body ∧ (runS l).1.start = rdMach (b0.drop 6) := by
  obtain ⟨h1, h2⟩ := wholeC_ok h
  refine ⟨h1, ?_⟩
  match l, h2 with
  | [], h2 => simp [runS] at h2
  | b :: t, h2 =>
    rw [runS_cons] at h2 ⊢
    rcases hs : startOk b with _ | _
    · rw [hs, if_neg (by decide)] at h2; cases h2
    · rw [hs, if_pos rfl] at h2
      obtain ⟨body, e1, e2, e3, e4⟩ := goS_valid (s := ⟨rdMach (b.drop 6), rdMach (b.drop 6), [], [], false⟩) rfl h2
      have hv : vmach (rdMach (b.drop 6)) = true := by
        unfold startOk at hs
        rw [Bool.and_eq_true] at hs
        exact rdm_good hs.2
      rw [if_pos rfl]
      exact ⟨b, body, by rw [e1], hs, hv, e2, e3, e4⟩
theorem show_step {t : Tri} {b : List UInt8} (h : begins showB b = true) (h0 : (stepM t b).2 = 0) : (stepM t b).1 = t := by
  have h0 := h0
  unfold stepM at h0 ⊢
  by_cases hk : kindOf b = 0
  · have hk' : ¬ (kindOf b ≠ 0) := fun h => h hk
    rw [if_neg hk'] at h0 ⊢
    rw [if_neg (begins_ne h (by decide)), show_not_set h, if_neg (by decide), if_pos h] at h0 ⊢
    split <;> rfl
  · have hkk := kindOf_name hk
    have hb := (begins_iff.1 h).1
    have : b.length ≤ 5 := by rw [← hkk, strB_len]; exact sname_len _
    change 5 < b.length at hb
    omega
/-- the bytes "show " alone are no line of a session -/
theorem show_alone {t : Tri} (h : (stepM t showB).2 = 0) : False := by
  have : stepM t showB = (t, 2) := by
    unfold stepM
    rw [if_neg (by decide), if_neg (by decide), if_neg (by decide), if_neg (by decide)]
  rw [this] at h
  cases h
/-- is a line one that shows? (the reference's test) -/
def isShow (b : List UInt8) : Bool := decide (5 ≤ b.length) && decide (b.take 5 = showB)
theorem isShow_eq {t : Tri} {b : List UInt8} (h : (stepM t b).2 = 0) : isShow b = begins showB b := by
  unfold isShow begins
  by_cases h5 : b.length = 5
  · by_cases hb : b.take 5 = showB
    · rw [List.take_of_length_le (by omega)] at hb
      subst hb
      exact (show_alone h).elim
    · show (_ && decide (b.take 5 = showB)) = (_ && decide (b.take 5 = showB))
      rw [decide_eq_false hb]; simp
  · show (decide (5 ≤ b.length) && _) = (decide (5 < b.length) && _)
    have : decide (5 ≤ b.length) = decide (5 < b.length) := by
      by_cases h6 : 5 < b.length
      · rw [decide_eq_true h6, decide_eq_true (by omega)]
      · rw [decide_eq_false h6, decide_eq_false (by omega)]
    rw [this]; rfl
theorem isShow_end : isShow endB = false := by decide
theorem start_not_show {b : List UInt8} (h : startOk b = true) : begins showB b = false ∧ isShow b = false := by
  unfold startOk at h
  rw [Bool.and_eq_true] at h
  have h1 := (begins_iff.1 h.1).2
  have h2 : b.take 5 = startB.take 5 := by rw [← h1, List.take_take]; rfl
  constructor
  · unfold begins
    have : ¬ b.take showB.length = showB := by
      show ¬ b.take 5 = showB
      rw [h2]; decide
    rw [decide_eq_false this]; simp
  · unfold isShow
    rw [h2]
    have : decide (startB.take 5 = showB) = false := by decide
    rw [this]; simp
end Go.Proofs.YtcapccadpbiecaaDoor

namespace Go.Proofs.YtcapccadpbiecaaDoor
open Go.RowKit Go.Sort
/-! the shown session, plainly -/
def endW : ByteArray := ⟨#[101, 110, 100]⟩
def showT (t : Tri) : ByteArray := showW ++ mtext t
/-- what follows in the shown session, behind the first line -/
def restL (t : Tri) : List ByteArray → List ByteArray
  | [] => []
  | b :: r => if r = [] then [b] else if begins showB (strB b) then restL t r else b :: showT (stepM t (strB b)).1 :: restL (stepM t (strB b)).1 r
/-- the same of lines none of which shows -/
def restP (t : Tri) : List ByteArray → List ByteArray
  | [] => []
  | b :: r => if r = [] then [b] else b :: showT (stepM t (strB b)).1 :: restP (stepM t (strB b)).1 r
def notShow (b : ByteArray) : Bool := !isShow (strB b)
/-- lines that are fine, and the end behind them -/
def OkEnd (t : Tri) (l : List ByteArray) : Prop := ∃ body, l = body ++ [endW] ∧ AllOk t (body.map strB)
theorem endW_of {E : ByteArray} (h : strB E = endB) : E = endW := by
  have : endW = E := str_eq.2 (show ([101, 110, 100] : List UInt8) = strB E from h.symm)
  exact this.symm
theorem OkEnd.cons {t : Tri} {b : ByteArray} {r : List ByteArray} (h : OkEnd t (b :: r)) (hr : r ≠ []) : (stepM t (strB b)).2 = 0 ∧ strB b ≠ endB ∧ OkEnd (stepM t (strB b)).1 r := by
  obtain ⟨body, h1, h2⟩ := h
  cases body with
  | nil =>
    simp only [List.nil_append, List.cons.injEq] at h1
    exact absurd h1.2 hr
  | cons c body =>
    simp only [List.cons_append, List.cons.injEq] at h1
    obtain ⟨rfl, rfl⟩ := h1
    exact ⟨h2.1, h2.2.1, body, rfl, h2.2.2⟩
theorem OkEnd.last {t : Tri} {b : ByteArray} (h : OkEnd t [b]) : b = endW := by
  obtain ⟨body, h1, h2⟩ := h
  cases body with
  | nil => simpa using h1
  | cons c body => simp at h1
theorem OkEnd.ne {t : Tri} {l : List ByteArray} (h : OkEnd t l) : l ≠ [] := by
  obtain ⟨body, h1, -⟩ := h
  rw [h1]; simp
theorem whole_lines {ss : List ByteArray} (h : wholeC (ss.map strB) = 0) : ss.length ≤ 100 ∧ ∃ L tl, ss = L :: tl ∧ startOk (strB L) = true ∧ vmach (rdMach ((strB L).drop 6)) = true ∧ OkEnd (rdMach ((strB L).drop 6)) tl ∧ (runS (ss.map strB)).1.start = rdMach ((strB L).drop 6) := by
  obtain ⟨h1, b0, body, h2, h3, h4, h5, h6, h7⟩ := whole_parts h
  rw [List.length_map] at h1
  refine ⟨h1, ?_⟩
  match ss, h2, h7 with
  | L :: tl, g2, h7 =>
    simp only [List.map_cons, List.cons.injEq] at g2
    obtain ⟨rfl, g3⟩ := g2
    refine ⟨L, tl, rfl, h3, h4, ?_, h7⟩
    obtain ⟨l1, l2, rfl, e1, e2⟩ := List.map_eq_append_iff.1 g3
    have hl2 : l2.length = 1 := by have := congrArg List.length e2; simpa using this
    obtain ⟨E, rfl⟩ := List.length_eq_one_iff.1 hl2
    have e3 : strB E = endB := by simpa using e2
    exact ⟨l1, by rw [endW_of e3], by rw [e1]; exact h5⟩
theorem endW_notShow : notShow endW = true := by decide
/-- the lines that do not show, and the machine -/
theorem rest_plain : ∀ {l : List ByteArray} {t : Tri}, OkEnd t l → restL t l = restP t (l.filter notShow) ∧ OkEnd t (l.filter notShow)
  | [], t, h => absurd rfl h.ne
  | [b], t, h => by
    have hb := h.last
    subst hb
    have hf : [endW].filter notShow = [endW] := by rw [List.filter_cons_of_pos endW_notShow, List.filter_nil]
    rw [hf]
    exact ⟨by unfold restL restP; simp, h⟩
  | b :: c :: r, t, h => by
    obtain ⟨h1, h2, h3⟩ := h.cons (by simp)
    obtain ⟨ih1, ih2⟩ := rest_plain h3
    have hs : notShow b = !begins showB (strB b) := by unfold notShow; rw [isShow_eq h1]
    rcases hb : begins showB (strB b) with _ | _
    · rw [hb] at hs
      rw [List.filter_cons_of_pos (by rw [hs]; rfl)]
      have hne := ih2.ne
      refine ⟨?_, ?_⟩
      · have e1 : restL t (b :: c :: r) = b :: showT (stepM t (strB b)).1 :: restL (stepM t (strB b)).1 (c :: r) := by
          conv => lhs; unfold restL
          rw [if_neg (by simp), hb, if_neg (by decide)]
        have e2 : restP t (b :: (c :: r).filter notShow) = b :: showT (stepM t (strB b)).1 :: restP (stepM t (strB b)).1 ((c :: r).filter notShow) := by
          conv => lhs; unfold restP
          rw [if_neg hne]
        rw [e1, e2, ih1]
      · obtain ⟨body, e, ok⟩ := ih2
        exact ⟨b :: body, by rw [e]; rfl, h1, h2, ok⟩
    · rw [hb] at hs
      rw [List.filter_cons_of_neg (by rw [hs]; decide)]
      have ht := show_step hb h1
      rw [ht] at ih1 ih2
      refine ⟨?_, ih2⟩
      have e1 : restL t (b :: c :: r) = restL t (c :: r) := by
        conv => lhs; unfold restL
        rw [if_neg (by simp), hb, if_pos rfl]
      rw [e1, ih1]
/-- the shown session, and its code -/
def shL (ss : List ByteArray) : List ByteArray := match ss with | [] => [] | L :: tl => L :: restL (rdMach ((strB L).drop 6)) tl
def shC (ss : List ByteArray) : Int := if wholeC (ss.map strB) = 0 then (if (shL ss).length > 100 then 5 else 0) else wholeC (ss.map strB)
def shR (ss : List ByteArray) : List ByteArray := if shC ss = 0 then shL ss else []
theorem shR_len (ss : List ByteArray) : (shR ss).length ≤ 100 := by
  unfold shR
  split
  · rename_i h
    unfold shC at h
    split at h
    · split at h
      · cases h
      · omega
    · rename_i h'; exact absurd h h'
  · simp
/-- a row of strings, of its own length -/
def rowT (A : Option Addr) (c : Nat) (ss : List ByteArray) : Ent := rowSN A ss.length c ss
/-- strings and a code -/
def SCRet (l : List ByteArray) (C : Int) (w : World) (e : Ending) (w' : World) : Prop := ∃ X x, e = .returned (.tuple #[.slice X l.length x, .int .i64 C]) ∧ Kn w [rowT X x l] w'
theorem SCRet.none {C : Int} {w w' : World} (h : Below w.heap.size w w') : SCRet [] C w (.returned (.tuple #[.slice none 0 0, .int .i64 C])) w' :=
  ⟨_, _, rfl, ((Kn.nil w).keep h).nilRow _ _⟩
theorem AllOk.take : ∀ {l : List (List UInt8)} {t : Tri} (k : Nat), AllOk t l → AllOk t (l.take k)
  | [], t, k, h => by rw [List.take_nil]; trivial
  | b :: l, t, 0, h => trivial
  | b :: l, t, k + 1, h => ⟨h.1, h.2.1, AllOk.take k h.2.2⟩
theorem restL_len : ∀ (l : List ByteArray) (t : Tri), (restL t l).length ≤ 2 * l.length
  | [], t => by simp [restL]
  | b :: r, t => by
    unfold restL
    have h1 := restL_len r t
    have h2 := restL_len r (stepM t (strB b)).1
    split
    · simp; omega
    · split
      · simp only [List.length_cons]; omega
      · simp only [List.length_cons]; omega
end Go.Proofs.YtcapccadpbiecaaDoor

namespace Go.Proofs.YtcapccadpbiecaaDoor
open Go.RowKit Go.Sort
instance : Inhabited RS := ⟨⟨default, [], 0, 0⟩⟩
/-- where a run ends -/
noncomputable def endR (L : List Ins) (t : Tri) : RS := Classical.epsilon (fun s' => ∃ b', Ev L (.run 0 L.length) (startR t) s' b')
theorem endR_eq {L : List Ins} {t : Tri} {s' : RS} {b' : Bool} (h : Ev L (.run 0 L.length) (startR t) s' b') : endR L t = s' := by
  obtain ⟨b2, h2⟩ := Classical.epsilon_spec (p := fun s' => ∃ b', Ev L (.run 0 L.length) (startR t) s' b') ⟨s', b', h⟩
  exact (h2.one h).1
noncomputable def rpC (L : List Ins) (t : Tri) : Int := if vmach t && vprog L then (endR L t).code else 1
noncomputable def rpM (L : List Ins) (t : Tri) : Tri := if rpC L t = 0 ∧ vmach (endR L t).m = true then (endR L t).m else zTri
noncomputable def rpT (L : List Ins) (t : Tri) : List Int := if rpC L t = 0 ∧ (endR L t).tr.length ≤ 3001 then (endR L t).tr else []
theorem rp_bad {L : List Ins} {t : Tri} (h : (vmach t && vprog L) = false) : rpC L t = 1 ∧ rpM L t = zTri ∧ rpT L t = [] := by
  have h1 : rpC L t = 1 := by unfold rpC; rw [h]; rfl
  refine ⟨h1, ?_, ?_⟩
  · unfold rpM; rw [h1, if_neg (fun h => absurd h.1 (by decide))]
  · unfold rpT; rw [h1, if_neg (fun h => absurd h.1 (by decide))]
theorem rp_code {L : List Ins} {t : Tri} (h1 : vmach t = true) (h2 : vprog L = true) {s' : RS} {b' : Bool} (h : Ev L (.run 0 L.length) (startR t) s' b') (hc : ¬ s'.code = 0) : rpC L t = s'.code ∧ rpM L t = zTri ∧ rpT L t = [] := by
  have h3 : rpC L t = s'.code := by unfold rpC; rw [h1, h2, endR_eq h]; rfl
  refine ⟨h3, ?_, ?_⟩
  · unfold rpM; rw [h3, if_neg (fun h => hc h.1)]
  · unfold rpT; rw [h3, if_neg (fun h => hc h.1)]
theorem rp_fine {L : List Ins} {t : Tri} (h1 : vmach t = true) (h2 : vprog L = true) {s' : RS} {b' : Bool} (h : Ev L (.run 0 L.length) (startR t) s' b') (hg : s'.Good) (hc : s'.code = 0) : rpC L t = 0 ∧ rpM L t = s'.m ∧ rpT L t = s'.tr := by
  have h3 : rpC L t = 0 := by unfold rpC; rw [h1, h2, endR_eq h]; exact hc
  refine ⟨h3, ?_, ?_⟩
  · unfold rpM; rw [h3, endR_eq h, if_pos ⟨rfl, hg.m⟩]
  · unfold rpT; rw [h3, endR_eq h, if_pos ⟨rfl, by have := hg.tr; have := hg.top; omega⟩]
theorem rpM_len (L : List Ins) (t : Tri) : (rpM L t).a.digits.length ≤ 16 ∧ (rpM L t).b.digits.length ≤ 16 ∧ (rpM L t).s.digits.length ≤ 16 := by
  unfold rpM
  split
  · rename_i h
    have := sized_of h.2
    exact ⟨this.a, this.b, this.s⟩
  · simp [zTri]
theorem rpT_len (L : List Ins) (t : Tri) : (rpT L t).length ≤ 3001 := by
  unfold rpT
  split
  · rename_i h; exact h.2
  · simp
/-- what RunProgram returns -/
def RPRet (L : List Ins) (t : Tri) (w : World) (e : Ending) (w' : World) : Prop := ∃ A1 c1 A2 c2 A3 c3, e = .returned (.tuple #[.agg #[.int .i64 (rpM L t).a.base, .slice A1 (rpM L t).a.digits.length c1, .int .i64 (rpM L t).b.base, .slice A2 (rpM L t).b.digits.length c2, .int .i64 (rpM L t).s.base, .slice A3 (rpM L t).s.digits.length c3, .int .i64 (rpM L t).carry], .int .i64 ((rpT L t).length : Int), .int .i64 (rpC L t)]) ∧
  Kn w [rowI A3 c3 (rpM L t).s.digits, rowI A2 c2 (rpM L t).b.digits, rowI A1 c1 (rpM L t).a.digits] w'
/-- what TraceProgram returns -/
def TPRet (L : List Ins) (t : Tri) (w : World) (e : Ending) (w' : World) : Prop := ∃ A c, e = .returned (.tuple #[.slice A (rpT L t).length c, .int .i64 (rpC L t)]) ∧ Kn w [rowI A c (rpT L t)] w'
end Go.Proofs.YtcapccadpbiecaaDoor

namespace Go.Proofs.YtcapccadpbiecaaDoor
open Go.RowKit Go.Sort
theorem StrokeName_all (k : Int) (w : World) : Calls Tryd.prog 61 #[.int .i64 k] w fun e w' => e = .returned (.string (sname k)) ∧ Below w.heap.size w w' := by
  by_cases h : 1 ≤ k ∧ k ≤ 6
  · exact StrokeName_any k w h
  · have hs : sname k = ⟨#[]⟩ := by
      unfold sname
      rw [if_neg (by omega), if_neg (by omega), if_neg (by omega), if_neg (by omega), if_neg (by omega), if_neg (by omega)]
    have hb : betB k 1 6 = false := betB_false.2 (by omega)
    have KB := Lib.hid (fun W => calls_val (between_any k 1 6 W) (congrArg Value.bool hb))
    have KI : ∀ W, Calls Tryd.prog 96 #[.int .i64 k] W fun e w' => e = .returned (.bool false) ∧ W = w' := fun W => by
      go_enter Tryd.func96, Tryd.ntmps96
      go_wp2_with (go_at_call 127; refine (KB.out _).mono ?_; rintro e w' ⟨rfl, rfl⟩)
      go_ret
      exact ⟨rfl, rfl⟩
    have KI := Lib.hid KI
    rw [hs]
    clear hb h hs KB
    go_enter Tryd.func61, Tryd.ntmps61
    go_wp2_with (go_at_call 96; refine (KI.out _).mono ?_; rintro e w' ⟨rfl, rfl⟩)
    go_ret
    exact ⟨rfl, Below.refl _ _⟩
theorem specStrokeName_all (k : Int) (w : World) : Calls Tryd.prog 95 #[.int .i64 k] w fun e w' => e = .returned (.string (sname k)) ∧ Below w.heap.size w w' := by
  by_cases h : 1 ≤ k ∧ k ≤ 6
  · exact specStrokeName_any k w h
  · have hs : sname k = ⟨#[]⟩ := by
      unfold sname
      rw [if_neg (by omega), if_neg (by omega), if_neg (by omega), if_neg (by omega), if_neg (by omega), if_neg (by omega)]
    have hb : betB k 1 6 = false := betB_false.2 (by omega)
    have KB := Lib.hid (fun W => calls_val (l00In_any k 1 6 W) (congrArg Value.bool hb))
    have KI : ∀ W, Calls Tryd.prog 93 #[.int .i64 k] W fun e w' => e = .returned (.bool false) ∧ W = w' := fun W => by
      go_enter Tryd.func93, Tryd.ntmps93
      go_wp2_with (go_at_call 128; refine (KB.out _).mono ?_; rintro e w' ⟨rfl, rfl⟩)
      go_ret
      exact ⟨rfl, rfl⟩
    have KI := Lib.hid KI
    rw [hs]
    clear hb h hs KB
    go_enter Tryd.func95, Tryd.ntmps95
    go_wp2_with (go_at_call 93; refine (KI.out _).mono ?_; rintro e w' ⟨rfl, rfl⟩)
    go_ret
    exact ⟨rfl, by first | exact Below.refl _ _ | exact (Below.refl _ _).alloc (Nat.le_refl _) _⟩
/-- a recorded session -/
def startT (t : Tri) : ByteArray := startW ++ mtext t
def recL (t : Tri) (s : RS) : List ByteArray := startT t :: (s.tr.map sname ++ [showT s.m, endW])
def hasSet (L : List Ins) : Bool := L.any (fun x => x.op == 1)
noncomputable def rcC (L : List Ins) (t : Tri) : Int :=
  if (vmach t && vprog L) = false then 1 else if hasSet L then 6 else if (endR L t).code ≠ 0 then (endR L t).code else if (recL t (endR L t)).length > 100 then 5 else 0
noncomputable def rcR (L : List Ins) (t : Tri) : List ByteArray := if rcC L t = 0 then recL t (endR L t) else []
theorem rcR_len (L : List Ins) (t : Tri) : (rcR L t).length ≤ 100 := by
  unfold rcR
  split
  · rename_i h
    unfold rcC at h
    split at h
    · cases h
    · split at h
      · cases h
      · split at h
        · rename_i h1; exact absurd h h1
        · split at h
          · cases h
          · omega
  · simp
theorem rc_bad {L : List Ins} {t : Tri} (h : (vmach t && vprog L) = false) : rcC L t = 1 ∧ rcR L t = [] := by
  have h1 : rcC L t = 1 := by unfold rcC; rw [if_pos h]
  exact ⟨h1, by unfold rcR; rw [h1, if_neg (by decide)]⟩
theorem rc_set {L : List Ins} {t : Tri} (h : (vmach t && vprog L) = true) (hs : hasSet L = true) : rcC L t = 6 ∧ rcR L t = [] := by
  have h1 : rcC L t = 6 := by unfold rcC; rw [if_neg (by rw [h]; decide), if_pos hs]
  exact ⟨h1, by unfold rcR; rw [h1, if_neg (by decide)]⟩
theorem rc_code {L : List Ins} {t : Tri} (h : (vmach t && vprog L) = true) (hs : hasSet L = false) {s' : RS} {b' : Bool} (he : Ev L (.run 0 L.length) (startR t) s' b') (hc : s'.code ≠ 0) : rcC L t = s'.code ∧ rcR L t = [] := by
  have h1 : rcC L t = s'.code := by unfold rcC; rw [if_neg (by rw [h]; decide), hs, if_neg (by decide), endR_eq he, if_pos hc]
  exact ⟨h1, by unfold rcR; rw [h1, if_neg hc]⟩
theorem rc_fine {L : List Ins} {t : Tri} (h : (vmach t && vprog L) = true) (hs : hasSet L = false) {s' : RS} {b' : Bool} (he : Ev L (.run 0 L.length) (startR t) s' b') (hc : s'.code = 0) : rcC L t = (if (recL t s').length > 100 then 5 else 0) ∧ rcR L t = (if (recL t s').length > 100 then [] else recL t s') := by
  have h1 : rcC L t = (if (recL t s').length > 100 then 5 else 0) := by
    unfold rcC; rw [if_neg (by rw [h]; decide), hs, if_neg (by decide), endR_eq he, if_neg (fun h => h hc)]
  refine ⟨h1, ?_⟩
  unfold rcR
  rw [h1, endR_eq he]
  by_cases hl : (recL t s').length > 100
  · rw [if_pos hl, if_neg (by decide), if_pos hl]
  · rw [if_neg hl, if_pos rfl, if_neg hl]
theorem hasSet_take_succ {L : List Ins} {k : Nat} (h : k < L.length) : hasSet (L.take (k + 1)) = (hasSet (L.take k) || (L[k].op == 1)) := by
  unfold hasSet
  rw [List.take_succ_eq_append_getElem h, List.any_append]; simp
theorem hasSet_at {L : List Ins} {k : Nat} (h : k < L.length) (h1 : (L[k].op == 1) = true) : hasSet L = true := by
  unfold hasSet
  rw [List.any_eq_true]
  exact ⟨_, List.getElem_mem h, h1⟩
theorem mtext_size {t : Tri} (hv : vmach t = true) : (mtext t).size ≤ 300 := by
  obtain ⟨o1, o2, o3, y0, y1⟩ := vmach_parts hv
  have l1 := rtext_len t.a
  have l2 := rtext_len t.b
  have l3 := rtext_len t.s
  have l4 := dec_len t.carry (by omega) (by omega)
  unfold mtext
  rw [if_pos hv]
  unfold mtextL
  have e1 : (⟨#[32]⟩ : ByteArray).size = 1 := rfl
  simp only [ByteArray.size_append, size_mk, e1]
  omega
theorem small_of' {t : Tri} (h : vmach t = true) : SmallTri t := by
  have hz := sized_of h
  exact ⟨by have := hz.a; unfold SmallReg; omega, by have := hz.b; unfold SmallReg; omega, by have := hz.s; unfold SmallReg; omega⟩
end Go.Proofs.YtcapccadpbiecaaDoor

namespace Go.Proofs.YtcapccadpbiecaaDoor
open Go.RowKit Go.Sort
def dkOk (t : Tri) (fs : List Flt) (J : ByteArray) : Bool := (vmach t && vfl t.b.digits.length fs) && decide (jcode (strB J) = 0)
theorem drewN_B {w w' : World} (h : ∃ m, w' = w.drewN m) : Below w.heap.size w w' := by
  obtain ⟨m, rfl⟩ := h; exact drewN_below m
theorem vmach_width {t : Tri} (h : vmach t = true) : 1 ≤ t.b.digits.length ∧ t.b.digits.length ≤ 16 := by
  obtain ⟨-, k2, -⟩ := vmach_all h
  obtain ⟨-, ⟨n3, n4⟩, -⟩ := vreg_iff.1 k2
  omega
set_option maxRecDepth 100000 in
set_option maxHeartbeats 3200000 in
theorem ValidDesk_any (t : Tri) (A1 A2 A3 FA : Option Addr) (c1 c2 c3 fn fc : Nat) (fs : List Flt) (J : ByteArray) (w : World) (r1 : RI w A1 t.a.digits.length t.a.digits) (r2 : RI w A2 t.b.digits.length t.b.digits) (r3 : RI w A3 t.s.digits.length t.s.digits) (rf : RL FltM 2 w FA fn fs) (hs : SmallTri t) (hf : fn ≤ 1048576) (hj : J.size ≤ 1048576) (ht : TB w) :
    Calls Tryd.prog 66 #[.agg #[.int .i64 t.a.base, .slice A1 t.a.digits.length c1, .int .i64 t.b.base, .slice A2 t.b.digits.length c2, .int .i64 t.s.base, .slice A3 t.s.digits.length c3, .int .i64 t.carry, .slice FA fn fc, .string J]] w fun e w' => e = .returned (.bool (dkOk t fs J)) ∧ Below w.heap.size w w' := by
  have KV := (fun W (hW : Below w.heap.size w W) => ValidMachine_any t A1 A2 A3 c1 c2 c3 W (r1.below hW) (r2.below hW) (r3.below hW) hs)
  have KW := (fun W (hW : Below w.heap.size w W) => wholeJournal_any J W (by omega) (TB.below ht hW))
  have HD := Lib.hid (show dkOk t fs J = ((vmach t && vfl t.b.digits.length fs) && decide (jcode (strB J) = 0)) from rfl)
  obtain ⟨R, hR⟩ : ∃ R, dkOk t fs J = R := ⟨_, rfl⟩
  rw [hR] at HD ⊢
  clear hR
  rcases hv : vmach t with _ | _
  · rw [hv] at KV
    have HQ : Hid (R = false) := by simp only [Hid]; rw [HD.out, hv]; rfl
    replace KV := Lib.hid KV
    clear KW hv r1 r2 r3 rf hs ht
    go_enter Tryd.func66, Tryd.ntmps66
    go_wp2_with fail
    refine Code.wp.kn ((Kn.nil w).al [.int .i64 t.a.base, .slice A1 t.a.digits.length c1, .int .i64 t.b.base, .slice A2 t.b.digits.length c2, .int .i64 t.s.base, .slice A3 t.s.digits.length c3, .int .i64 t.carry, .slice FA fn fc, .string J] 86) ?_; intro w1 hK0
    obtain ⟨g, hg⟩ : ∃ g, w.heap.size = g := ⟨_, rfl⟩
    rw [hg] at hK0
    try rw [hg]
    try simp only [hg]
    clear hg
    have x0 := cell_regrown (show w1.cell? ⟨g, 0, none⟩ = some (.int .i64 t.a.base) from hK0.blkAt.1 0)
    have x1 := cell_regrown (show w1.cell? ⟨g, 1, none⟩ = some (.slice A1 t.a.digits.length c1) from hK0.blkAt.1 1)
    have x2 := cell_regrown (show w1.cell? ⟨g, 2, none⟩ = some (.int .i64 t.b.base) from hK0.blkAt.1 2)
    have x3 := cell_regrown (show w1.cell? ⟨g, 3, none⟩ = some (.slice A2 t.b.digits.length c2) from hK0.blkAt.1 3)
    have x4 := cell_regrown (show w1.cell? ⟨g, 4, none⟩ = some (.int .i64 t.s.base) from hK0.blkAt.1 4)
    have x5 := cell_regrown (show w1.cell? ⟨g, 5, none⟩ = some (.slice A3 t.s.digits.length c3) from hK0.blkAt.1 5)
    have x6 := cell_regrown (show w1.cell? ⟨g, 6, none⟩ = some (.int .i64 t.carry) from hK0.blkAt.1 6)
    have x7 := cell_regrown (show w1.cell? ⟨g, 7, none⟩ = some (.slice FA fn fc) from hK0.blkAt.1 7)
    have x8 := cell_regrown (show w1.cell? ⟨g, 8, none⟩ = some (.string J) from hK0.blkAt.1 8)
    have KV1 := Lib.hid (fun W (hW : Below w1.heap.size w1 W) => KV.out W (hK0.below.trans (hW.mono hK0.size)))
    refine wp_region_quiet_below (by kernel_rfl) (by kernel_rfl) ?_
    repeat (go_big_quiet_step ((go_at_call 85; with_reducible exact quietB KV1.out)))
    refine wpQuiet_nil ?_
    intro _ hw'
    obtain ⟨⟨dq, osq⟩, hw''⟩ := hw'
    subst hw''
    obtain ⟨w3, hw3⟩ : ∃ W, grow (redrawn w1 dq) osq = W := ⟨_, rfl⟩
    have hK2 := hK0.keep (below_regrown w1 dq osq)
    have hbb := below_regrown w1 dq osq
    dsimp only
    rw [hw3] at hK2 hbb ⊢
    clear hw3 x0 x1 x2 x3 x4 x5 x6 x7 x8
    go_wp2_with fail
    go_ret
    exact ⟨ret_bool HQ.out.symm, hK2.below⟩
  rw [hv] at KV
  obtain ⟨q1, q2⟩ := vmach_width hv
  have KF := (fun W (hW : Below w.heap.size w W) => ValidFaultsG t.b.digits.length FA fn fc fs W (rf.below steady_FltM hW) q1 q2 hf)
  obtain ⟨o, ho⟩ : ∃ o, vfl t.b.digits.length fs = o := ⟨_, rfl⟩
  rw [ho] at KF
  have HD2 := Lib.hid (show R = (o && decide (jcode (strB J) = 0)) by rw [HD.out, hv, ho]; rfl)
  replace KV := Lib.hid KV
  replace KF := Lib.hid KF
  unfold WJ at KW
  obtain ⟨C, hC⟩ : ∃ C, jcode (strB J) = C := ⟨_, rfl⟩
  rw [hC] at KW HD2
  replace KW := Lib.hid KW
  clear HD hC hv ho r1 r2 r3 rf hs ht
  rcases o with _ | _
  · have HQ : Hid (R = false) := by simp only [Hid]; rw [HD2.out]; rfl
    go_enter Tryd.func66, Tryd.ntmps66
    go_wp2_with fail
    refine Code.wp.kn ((Kn.nil w).al [.int .i64 t.a.base, .slice A1 t.a.digits.length c1, .int .i64 t.b.base, .slice A2 t.b.digits.length c2, .int .i64 t.s.base, .slice A3 t.s.digits.length c3, .int .i64 t.carry, .slice FA fn fc, .string J] 86) ?_; intro w1 hK0
    obtain ⟨g, hg⟩ : ∃ g, w.heap.size = g := ⟨_, rfl⟩
    rw [hg] at hK0
    try rw [hg]
    try simp only [hg]
    clear hg
    have x0 := cell_regrown (show w1.cell? ⟨g, 0, none⟩ = some (.int .i64 t.a.base) from hK0.blkAt.1 0)
    have x1 := cell_regrown (show w1.cell? ⟨g, 1, none⟩ = some (.slice A1 t.a.digits.length c1) from hK0.blkAt.1 1)
    have x2 := cell_regrown (show w1.cell? ⟨g, 2, none⟩ = some (.int .i64 t.b.base) from hK0.blkAt.1 2)
    have x3 := cell_regrown (show w1.cell? ⟨g, 3, none⟩ = some (.slice A2 t.b.digits.length c2) from hK0.blkAt.1 3)
    have x4 := cell_regrown (show w1.cell? ⟨g, 4, none⟩ = some (.int .i64 t.s.base) from hK0.blkAt.1 4)
    have x5 := cell_regrown (show w1.cell? ⟨g, 5, none⟩ = some (.slice A3 t.s.digits.length c3) from hK0.blkAt.1 5)
    have x6 := cell_regrown (show w1.cell? ⟨g, 6, none⟩ = some (.int .i64 t.carry) from hK0.blkAt.1 6)
    have x7 := cell_regrown (show w1.cell? ⟨g, 7, none⟩ = some (.slice FA fn fc) from hK0.blkAt.1 7)
    have x8 := cell_regrown (show w1.cell? ⟨g, 8, none⟩ = some (.string J) from hK0.blkAt.1 8)
    have KV1 := Lib.hid (fun W (hW : Below w1.heap.size w1 W) => KV.out W (hK0.below.trans (hW.mono hK0.size)))
    have KF1 := Lib.hid (fun W (hW : Below w1.heap.size w1 W) => KF.out W (hK0.below.trans (hW.mono hK0.size)))
    refine wp_region_quiet_below (by kernel_rfl) (by kernel_rfl) ?_
    repeat (go_big_quiet_step (first | (go_at_call 85; with_reducible exact quietB KV1.out) | (go_at_call 123; exact quietB (fun W _ => width_any _ _ _ _ W)) | (go_at_call 141; with_reducible exact quietB KF1.out)))
    refine wpQuiet_nil ?_
    intro _ hw'
    obtain ⟨⟨dq, osq⟩, hw''⟩ := hw'
    subst hw''
    obtain ⟨w3, hw3⟩ : ∃ W, grow (redrawn w1 dq) osq = W := ⟨_, rfl⟩
    have hK2 := hK0.keep (below_regrown w1 dq osq)
    have hbb := below_regrown w1 dq osq
    dsimp only
    rw [hw3] at hK2 hbb ⊢
    clear hw3 x0 x1 x2 x3 x4 x5 x6 x7 x8
    go_wp2_with fail
    go_ret
    exact ⟨ret_bool HQ.out.symm, hK2.below⟩
  · have HQ : Hid (R = decide (C = 0)) := by simp only [Hid]; rw [HD2.out]; rfl
    go_enter Tryd.func66, Tryd.ntmps66
    go_wp2_with fail
    refine Code.wp.kn ((Kn.nil w).al [.int .i64 t.a.base, .slice A1 t.a.digits.length c1, .int .i64 t.b.base, .slice A2 t.b.digits.length c2, .int .i64 t.s.base, .slice A3 t.s.digits.length c3, .int .i64 t.carry, .slice FA fn fc, .string J] 86) ?_; intro w1 hK0
    obtain ⟨g, hg⟩ : ∃ g, w.heap.size = g := ⟨_, rfl⟩
    rw [hg] at hK0
    try rw [hg]
    try simp only [hg]
    clear hg
    have x0 := cell_regrown (show w1.cell? ⟨g, 0, none⟩ = some (.int .i64 t.a.base) from hK0.blkAt.1 0)
    have x1 := cell_regrown (show w1.cell? ⟨g, 1, none⟩ = some (.slice A1 t.a.digits.length c1) from hK0.blkAt.1 1)
    have x2 := cell_regrown (show w1.cell? ⟨g, 2, none⟩ = some (.int .i64 t.b.base) from hK0.blkAt.1 2)
    have x3 := cell_regrown (show w1.cell? ⟨g, 3, none⟩ = some (.slice A2 t.b.digits.length c2) from hK0.blkAt.1 3)
    have x4 := cell_regrown (show w1.cell? ⟨g, 4, none⟩ = some (.int .i64 t.s.base) from hK0.blkAt.1 4)
    have x5 := cell_regrown (show w1.cell? ⟨g, 5, none⟩ = some (.slice A3 t.s.digits.length c3) from hK0.blkAt.1 5)
    have x6 := cell_regrown (show w1.cell? ⟨g, 6, none⟩ = some (.int .i64 t.carry) from hK0.blkAt.1 6)
    have x7 := cell_regrown (show w1.cell? ⟨g, 7, none⟩ = some (.slice FA fn fc) from hK0.blkAt.1 7)
    have x8 := cell_regrown (show w1.cell? ⟨g, 8, none⟩ = some (.string J) from hK0.blkAt.1 8)
    have KV1 := Lib.hid (fun W (hW : Below w1.heap.size w1 W) => KV.out W (hK0.below.trans (hW.mono hK0.size)))
    have KF1 := Lib.hid (fun W (hW : Below w1.heap.size w1 W) => KF.out W (hK0.below.trans (hW.mono hK0.size)))
    refine wp_region_quiet_below (by kernel_rfl) (by kernel_rfl) ?_
    repeat (go_big_quiet_step (first | (go_at_call 85; with_reducible exact quietB KV1.out) | (go_at_call 123; exact quietB (fun W _ => width_any _ _ _ _ W)) | (go_at_call 141; with_reducible exact quietB KF1.out)))
    refine wpQuiet_nil ?_
    intro _ hw'
    obtain ⟨⟨dq, osq⟩, hw''⟩ := hw'
    subst hw''
    obtain ⟨w3, hw3⟩ : ∃ W, grow (redrawn w1 dq) osq = W := ⟨_, rfl⟩
    have hK2 := hK0.keep (below_regrown w1 dq osq)
    have hbb := below_regrown w1 dq osq
    dsimp only
    rw [hw3] at hK2 hbb ⊢
    clear hw3 x0 x1 x2 x3 x4 x5 x6 x7 x8
    obtain ⟨a1, a2, a3, -⟩ := hK2.cells
    go_wp2_with fail
    refine (KW.out _ hK2.below).mono ?_; rintro e w4 ⟨v, rfl, hWJ⟩
    have hb : Below w3.heap.size w3 w4 := by
      rcases hWJ with ⟨-, -, hb⟩ | ⟨-, g', -, hJ⟩
      · exact hb
      · exact hJ.below
    have hK4 := hK2.keep hb
    clear hWJ hb a1 a2 a3
    by_cases hc : C = 0
    · have HQ2 : Hid (R = true) := by simp only [Hid]; rw [HQ.out, decide_eq_true hc]
      subst hc
      go_wp2_with fail
      go_ret
      exact ⟨ret_bool HQ2.out.symm, hK4.below⟩
    · have HQ2 : Hid (R = false) := by simp only [Hid]; rw [HQ.out, decide_eq_false hc]
      have hcb : (C == 0) = false := by simpa using hc
      go_wp2_with fail
      go_ret
      exact ⟨ret_bool HQ2.out.symm, hK4.below⟩
set_option maxRecDepth 100000 in
set_option maxHeartbeats 3200000 in
theorem l28Ok_any {w0 : World} {m : List Ent} {T : TypeId} (g : Nat) (t : Tri) (A1 A2 A3 FA : Option Addr) (c1 c2 c3 fn fc : Nat) (fs : List Flt) (J : ByteArray) (w : World) (hK : Kn w0 (.blk g [.int .i64 t.a.base, .slice A1 t.a.digits.length c1, .int .i64 t.b.base, .slice A2 t.b.digits.length c2, .int .i64 t.s.base, .slice A3 t.s.digits.length c3, .int .i64 t.carry, .slice FA fn fc, .string J] T :: m) w) (r1 : RI w A1 t.a.digits.length t.a.digits) (r2 : RI w A2 t.b.digits.length t.b.digits) (r3 : RI w A3 t.s.digits.length t.s.digits) (rf : RL FltM 2 w FA fn fs) (hs : SmallTri t) (hf : fn ≤ 1048576) (hj : J.size ≤ 1048576) :
    Calls Tryd.prog 139 #[.pointer (some ⟨g, 0, none⟩)] w fun e w' => e = .returned (.bool (dkOk t fs J)) ∧ Below w.heap.size w w' := by
  have KV := (fun W (hW : Below w.heap.size w W) => (l10Ok_any ⟨g, 0, none⟩ t W (TriC.tri (A1 := A1) (c1 := c1) (A2 := A2) (c2 := c2) (A3 := A3) (c3 := c3) ⟨⟨(hK.keep hW).blkAt.1 0, (hK.keep hW).blkAt.1 1, (hK.keep hW).blkAt.1 2, (hK.keep hW).blkAt.1 3, (hK.keep hW).blkAt.1 4, (hK.keep hW).blkAt.1 5, (hK.keep hW).blkAt.1 6⟩, r1.below hW, r2.below hW, r3.below hW⟩) hs).mono fun e w' h => (⟨h.1, drewN_B h.2⟩ : _ ∧ Below W.heap.size W w'))
  have KW := l26Code_any J w (by omega)
  have HD := Lib.hid (show dkOk t fs J = ((vmach t && vfl t.b.digits.length fs) && decide (jcode (strB J) = 0)) from rfl)
  obtain ⟨R, hR⟩ : ∃ R, dkOk t fs J = R := ⟨_, rfl⟩
  rw [hR] at HD ⊢
  clear hR
  unfold WJS at KW
  obtain ⟨C, hC⟩ : ∃ C, jcode (strB J) = C := ⟨_, rfl⟩
  rw [hC] at KW HD
  replace KW := Lib.hid KW
  have HK := Lib.hid hK
  obtain ⟨a1, a2, a3⟩ := hK.blkAt
  by_cases hc : C = 0
  rotate_left
  · have HQ2 : Hid (R = false) := by simp only [Hid]; rw [HD.out, decide_eq_false hc, Bool.and_false]
    have hcb : (C == 0) = false := by simpa using hc
    clear KV hK r1 r2 r3 rf hs
    go_enter Tryd.func139, Tryd.ntmps139
    go_wp2_with fail
    refine KW.out.mono ?_; rintro e w4 ⟨v, rfl, hWJ⟩
    have hb : Below w.heap.size w w4 := by
      rcases hWJ with ⟨-, -, hb⟩ | ⟨-, g', -, hJ⟩
      · exact hb
      · exact hJ.below
    have hK4 := HK.out.keep hb
    clear hWJ a1 a2 a3
    have x0 := cell_regrown (show w4.cell? ⟨g, 0, none⟩ = some (.int .i64 t.a.base) from hK4.blkAt.1 0)
    have x1 := cell_regrown (show w4.cell? ⟨g, 1, none⟩ = some (.slice A1 t.a.digits.length c1) from hK4.blkAt.1 1)
    have x2 := cell_regrown (show w4.cell? ⟨g, 2, none⟩ = some (.int .i64 t.b.base) from hK4.blkAt.1 2)
    have x3 := cell_regrown (show w4.cell? ⟨g, 3, none⟩ = some (.slice A2 t.b.digits.length c2) from hK4.blkAt.1 3)
    have x4 := cell_regrown (show w4.cell? ⟨g, 4, none⟩ = some (.int .i64 t.s.base) from hK4.blkAt.1 4)
    have x5 := cell_regrown (show w4.cell? ⟨g, 5, none⟩ = some (.slice A3 t.s.digits.length c3) from hK4.blkAt.1 5)
    have x6 := cell_regrown (show w4.cell? ⟨g, 6, none⟩ = some (.int .i64 t.carry) from hK4.blkAt.1 6)
    have x7 := cell_regrown (show w4.cell? ⟨g, 7, none⟩ = some (.slice FA fn fc) from hK4.blkAt.1 7)
    have x8 := cell_regrown (show w4.cell? ⟨g, 8, none⟩ = some (.string J) from hK4.blkAt.1 8)
    go_wp2_with fail
    refine wp_region_quiet_below (by kernel_rfl) (by kernel_rfl) ?_
    repeat (go_big_quiet_step (fail))
    refine wpQuiet_nil ?_
    intro _ hw'
    obtain ⟨⟨dq, osq⟩, hw''⟩ := hw'
    subst hw''
    obtain ⟨w5, hw3⟩ : ∃ W, grow (redrawn w4 dq) osq = W := ⟨_, rfl⟩
    have hK5 := hK4.keep (below_regrown w4 dq osq)
    have hbb := below_regrown w4 dq osq
    dsimp only
    rw [hw3] at hK5 hbb ⊢
    clear hw3 x0 x1 x2 x3 x4 x5 x6 x7 x8
    go_wp2_with fail
    go_ret
    exact ⟨ret_bool HQ2.out.symm, hb.trans (hbb.mono hb.size)⟩
  subst hc
  rcases hv : vmach t with _ | _
  · rw [hv] at KV
    have HQ2 : Hid (R = false) := by simp only [Hid]; rw [HD.out, hv]; rfl
    replace KV := Lib.hid KV
    clear hv hK r1 r2 r3 rf hs
    go_enter Tryd.func139, Tryd.ntmps139
    go_wp2_with fail
    refine KW.out.mono ?_; rintro e w4 ⟨v, rfl, hWJ⟩
    have hb : Below w.heap.size w w4 := by
      rcases hWJ with ⟨-, -, hb⟩ | ⟨-, g', -, hJ⟩
      · exact hb
      · exact hJ.below
    have hK4 := HK.out.keep hb
    have KV1 := Lib.hid (fun W (hW : Below w4.heap.size w4 W) => KV.out W (hb.trans (hW.mono hb.size)))
    clear hWJ a1 a2 a3
    have x0 := cell_regrown (show w4.cell? ⟨g, 0, none⟩ = some (.int .i64 t.a.base) from hK4.blkAt.1 0)
    have x1 := cell_regrown (show w4.cell? ⟨g, 1, none⟩ = some (.slice A1 t.a.digits.length c1) from hK4.blkAt.1 1)
    have x2 := cell_regrown (show w4.cell? ⟨g, 2, none⟩ = some (.int .i64 t.b.base) from hK4.blkAt.1 2)
    have x3 := cell_regrown (show w4.cell? ⟨g, 3, none⟩ = some (.slice A2 t.b.digits.length c2) from hK4.blkAt.1 3)
    have x4 := cell_regrown (show w4.cell? ⟨g, 4, none⟩ = some (.int .i64 t.s.base) from hK4.blkAt.1 4)
    have x5 := cell_regrown (show w4.cell? ⟨g, 5, none⟩ = some (.slice A3 t.s.digits.length c3) from hK4.blkAt.1 5)
    have x6 := cell_regrown (show w4.cell? ⟨g, 6, none⟩ = some (.int .i64 t.carry) from hK4.blkAt.1 6)
    have x7 := cell_regrown (show w4.cell? ⟨g, 7, none⟩ = some (.slice FA fn fc) from hK4.blkAt.1 7)
    have x8 := cell_regrown (show w4.cell? ⟨g, 8, none⟩ = some (.string J) from hK4.blkAt.1 8)
    go_wp2_with fail
    refine wp_region_quiet_below (by kernel_rfl) (by kernel_rfl) ?_
    repeat (go_big_quiet_step (first | (go_at_call 79; with_reducible exact quietB KV1.out)))
    refine wpQuiet_nil ?_
    intro _ hw'
    obtain ⟨⟨dq, osq⟩, hw''⟩ := hw'
    subst hw''
    obtain ⟨w5, hw3⟩ : ∃ W, grow (redrawn w4 dq) osq = W := ⟨_, rfl⟩
    have hK5 := hK4.keep (below_regrown w4 dq osq)
    have hbb := below_regrown w4 dq osq
    dsimp only
    rw [hw3] at hK5 hbb ⊢
    clear hw3 x0 x1 x2 x3 x4 x5 x6 x7 x8
    go_wp2_with fail
    go_ret
    exact ⟨ret_bool HQ2.out.symm, hb.trans (hbb.mono hb.size)⟩
  rw [hv] at KV
  obtain ⟨q1, q2⟩ := vmach_width hv
  have KF := (fun W (hW : Below w.heap.size w W) => (l08OkG t.b.digits.length FA fn fc fs W (rf.below steady_FltM hW) q1 q2 hf).mono fun e w' h => (⟨h.1, drewN_B h.2⟩ : _ ∧ Below W.heap.size W w'))
  obtain ⟨o, ho⟩ : ∃ o, vfl t.b.digits.length fs = o := ⟨_, rfl⟩
  rw [ho] at KF
  have HQ2 : Hid (R = o) := by simp only [Hid]; rw [HD.out, hv, ho]; simp
  replace KV := Lib.hid KV
  replace KF := Lib.hid KF
  clear hv ho hK r1 r2 r3 rf hs
  go_enter Tryd.func139, Tryd.ntmps139
  go_wp2_with fail
  refine KW.out.mono ?_; rintro e w4 ⟨v, rfl, hWJ⟩
  have hb : Below w.heap.size w w4 := by
    rcases hWJ with ⟨-, -, hb⟩ | ⟨-, g', -, hJ⟩
    · exact hb
    · exact hJ.below
  have hK4 := HK.out.keep hb
  have KV1 := Lib.hid (fun W (hW : Below w4.heap.size w4 W) => KV.out W (hb.trans (hW.mono hb.size)))
  have KF1 := Lib.hid (fun W (hW : Below w4.heap.size w4 W) => KF.out W (hb.trans (hW.mono hb.size)))
  clear hWJ a1 a2 a3
  have x0 := cell_regrown (show w4.cell? ⟨g, 0, none⟩ = some (.int .i64 t.a.base) from hK4.blkAt.1 0)
  have x1 := cell_regrown (show w4.cell? ⟨g, 1, none⟩ = some (.slice A1 t.a.digits.length c1) from hK4.blkAt.1 1)
  have x2 := cell_regrown (show w4.cell? ⟨g, 2, none⟩ = some (.int .i64 t.b.base) from hK4.blkAt.1 2)
  have x3 := cell_regrown (show w4.cell? ⟨g, 3, none⟩ = some (.slice A2 t.b.digits.length c2) from hK4.blkAt.1 3)
  have x4 := cell_regrown (show w4.cell? ⟨g, 4, none⟩ = some (.int .i64 t.s.base) from hK4.blkAt.1 4)
  have x5 := cell_regrown (show w4.cell? ⟨g, 5, none⟩ = some (.slice A3 t.s.digits.length c3) from hK4.blkAt.1 5)
  have x6 := cell_regrown (show w4.cell? ⟨g, 6, none⟩ = some (.int .i64 t.carry) from hK4.blkAt.1 6)
  have x7 := cell_regrown (show w4.cell? ⟨g, 7, none⟩ = some (.slice FA fn fc) from hK4.blkAt.1 7)
  have x8 := cell_regrown (show w4.cell? ⟨g, 8, none⟩ = some (.string J) from hK4.blkAt.1 8)
  go_wp2_with fail
  refine wp_region_quiet_below (by kernel_rfl) (by kernel_rfl) ?_
  repeat (go_big_quiet_step (first | (go_at_call 79; with_reducible exact quietB KV1.out) | (go_at_call 191; with_reducible exact quietB KF1.out)))
  refine wpQuiet_nil ?_
  intro _ hw'
  obtain ⟨⟨dq, osq⟩, hw''⟩ := hw'
  subst hw''
  obtain ⟨w5, hw3⟩ : ∃ W, grow (redrawn w4 dq) osq = W := ⟨_, rfl⟩
  have hK5 := hK4.keep (below_regrown w4 dq osq)
  have hbb := below_regrown w4 dq osq
  dsimp only
  rw [hw3] at hK5 hbb ⊢
  clear hw3 x0 x1 x2 x3 x4 x5 x6 x7 x8
  go_wp2_with fail
  go_ret
  exact ⟨ret_bool HQ2.out.symm, hb.trans (hbb.mono hb.size)⟩
theorem specValidDesk_any (t : Tri) (A1 A2 A3 FA : Option Addr) (c1 c2 c3 fn fc : Nat) (fs : List Flt) (J : ByteArray) (w : World) (r1 : RI w A1 t.a.digits.length t.a.digits) (r2 : RI w A2 t.b.digits.length t.b.digits) (r3 : RI w A3 t.s.digits.length t.s.digits) (rf : RL FltM 2 w FA fn fs) (hs : SmallTri t) (hf : fn ≤ 1048576) (hj : J.size ≤ 1048576) :
    Calls Tryd.prog 64 #[.agg #[.int .i64 t.a.base, .slice A1 t.a.digits.length c1, .int .i64 t.b.base, .slice A2 t.b.digits.length c2, .int .i64 t.s.base, .slice A3 t.s.digits.length c3, .int .i64 t.carry, .slice FA fn fc, .string J]] w fun e w' => e = .returned (.bool (dkOk t fs J)) ∧ Below w.heap.size w w' := by
  have KK := Lib.hid (fun (g : Nat) W (hK : Kn w [.blk g [.int .i64 t.a.base, .slice A1 t.a.digits.length c1, .int .i64 t.b.base, .slice A2 t.b.digits.length c2, .int .i64 t.s.base, .slice A3 t.s.digits.length c3, .int .i64 t.carry, .slice FA fn fc, .string J] 86] W) => l28Ok_any g t A1 A2 A3 FA c1 c2 c3 fn fc fs J W hK (r1.below hK.below) (r2.below hK.below) (r3.below hK.below) (rf.below steady_FltM hK.below) hs hf hj)
  clear r1 r2 r3 rf
  go_enter Tryd.func64, Tryd.ntmps64
  go_wp2_with fail
  refine Calls.kn ((Kn.nil w).al [.int .i64 t.a.base, .slice A1 t.a.digits.length c1, .int .i64 t.b.base, .slice A2 t.b.digits.length c2, .int .i64 t.s.base, .slice A3 t.s.digits.length c3, .int .i64 t.carry, .slice FA fn fc, .string J] 86) ?_; intro w1 hK0
  refine (KK.out _ _ hK0).mono ?_; rintro e w2 ⟨rfl, hw⟩
  go_wp2_with fail
  go_ret
  exact ⟨rfl, (hK0.keep hw).below⟩
end Go.Proofs.YtcapccadpbiecaaDoor

namespace Go.Proofs.YtcapccadpbiecaaDoor
open Go.RowKit Go.Sort
def dtB (t : Tri) (fn jl : Nat) : ByteArray := ((((mtextL t ++ (⟨#[32]⟩ : ByteArray)) ++ (⟨(dec (fn : Int)).toArray⟩ : ByteArray)) ++ (⟨#[32]⟩ : ByteArray)) ++ (⟨(dec (jl : Int)).toArray⟩ : ByteArray))
def dText (t : Tri) (fs : List Flt) (fn : Nat) (J : ByteArray) : ByteArray := if dkOk t fs J = true then dtB t fn J.size else ⟨#[]⟩
theorem dk_all {t : Tri} {fs : List Flt} {J : ByteArray} (h : dkOk t fs J = true) : vmach t = true ∧ J.size ≤ 4000 := by
  unfold dkOk at h
  rw [Bool.and_eq_true, Bool.and_eq_true, decide_eq_true_eq] at h
  have := (jcode_zero h.2).1
  rw [strB_len] at this
  exact ⟨h.1.1, this⟩
set_option maxRecDepth 100000 in
set_option maxHeartbeats 3200000 in
theorem DeskText_any (t : Tri) (A1 A2 A3 FA : Option Addr) (c1 c2 c3 fn fc : Nat) (fs : List Flt) (J : ByteArray) (w : World) (r1 : RI w A1 t.a.digits.length t.a.digits) (r2 : RI w A2 t.b.digits.length t.b.digits) (r3 : RI w A3 t.s.digits.length t.s.digits) (rf : RL FltM 2 w FA fn fs) (hs : SmallTri t) (hf : fn ≤ 1048576) (hj : J.size ≤ 1048576) (ht : TB w) :
    Calls Tryd.prog 69 #[.agg #[.int .i64 t.a.base, .slice A1 t.a.digits.length c1, .int .i64 t.b.base, .slice A2 t.b.digits.length c2, .int .i64 t.s.base, .slice A3 t.s.digits.length c3, .int .i64 t.carry, .slice FA fn fc, .string J]] w fun e w' => e = .returned (.string (dText t fs fn J)) ∧ Below w.heap.size w w' := by
  have KD := (fun W (hW : Below w.heap.size w W) => ValidDesk_any t A1 A2 A3 FA c1 c2 c3 fn fc fs J W (r1.below hW) (r2.below hW) (r3.below hW) (rf.below steady_FltM hW) hs hf hj (TB.below ht hW))
  rcases hd : dkOk t fs J with _ | _
  · rw [hd] at KD
    have HQ := Lib.hid (show dText t fs fn J = ⟨#[]⟩ by unfold dText; rw [hd]; rfl)
    replace KD := Lib.hid KD
    clear hd r1 r2 r3 rf hs ht
    go_enter Tryd.func69, Tryd.ntmps69
    go_wp2_with fail
    refine Calls.kn ((Kn.nil w).al [.int .i64 t.a.base, .slice A1 t.a.digits.length c1, .int .i64 t.b.base, .slice A2 t.b.digits.length c2, .int .i64 t.s.base, .slice A3 t.s.digits.length c3, .int .i64 t.carry, .slice FA fn fc, .string J] 86) ?_; intro w1 hK0
    refine (KD.out _ hK0.below).mono ?_; rintro e w2 ⟨rfl, hw⟩
    go_wp2_with fail
    go_ret
    exact ⟨by rw [HQ.out]; rfl, (hK0.keep hw).below⟩
  obtain ⟨hv, hj4⟩ := dk_all hd
  rw [hd] at KD
  have KT := (fun W (hW : Below w.heap.size w W) => MachineText_any t A1 A2 A3 c1 c2 c3 W (r1.below hW) (r2.below hW) (r3.below hW) hs (TB.below ht hW))
  rw [show mtext t = mtextL t by unfold mtext; rw [if_pos hv]] at KT
  have KU := (fun W (hW : Below w.heap.size w W) => Decimal_any (fn : Int) W (by omega) (by omega) (TB.below ht hW))
  have KV2 := (fun W (hW : Below w.heap.size w W) => Decimal_any (J.size : Int) W (by omega) (by omega) (TB.below ht hW))
  have hTs := mtext_size hv
  rw [show mtext t = mtextL t by unfold mtext; rw [if_pos hv]] at hTs
  have l1 := dec_len (fn : Int) (by omega) (by omega)
  have l2 := dec_len (J.size : Int) (by omega) (by omega)
  have HT := Lib.hid (show dText t fs fn J = ((((mtextL t ++ (⟨#[32]⟩ : ByteArray)) ++ (⟨(dec (fn : Int)).toArray⟩ : ByteArray)) ++ (⟨#[32]⟩ : ByteArray)) ++ (⟨(dec (J.size : Int)).toArray⟩ : ByteArray)) by unfold dText; rw [if_pos hd]; rfl)
  obtain ⟨Q, hQ⟩ : ∃ Q, dText t fs fn J = Q := ⟨_, rfl⟩
  rw [hQ] at HT ⊢
  obtain ⟨T, hT⟩ : ∃ T, mtextL t = T := ⟨_, rfl⟩
  have hd1 : (⟨(dec (fn : Int)).toArray⟩ : ByteArray).size ≤ 24 := by show (dec (fn : Int)).toArray.size ≤ 24; simp; omega
  have hd2 : (⟨(dec (J.size : Int)).toArray⟩ : ByteArray).size ≤ 24 := by show (dec (J.size : Int)).toArray.size ≤ 24; simp; omega
  obtain ⟨U, hU⟩ : ∃ U, (⟨(dec (fn : Int)).toArray⟩ : ByteArray) = U := ⟨_, rfl⟩
  obtain ⟨V, hV⟩ : ∃ V, (⟨(dec (J.size : Int)).toArray⟩ : ByteArray) = V := ⟨_, rfl⟩
  rw [hT] at HT hTs KT
  rw [hU] at HT hd1 KU
  rw [hV] at HT hd2 KV2
  clear hQ hT hU hV l1 l2
  replace KT := Lib.hid KT
  replace KU := Lib.hid KU
  replace KV2 := Lib.hid KV2
  replace KD := Lib.hid KD
  clear hv hd r1 r2 r3 rf hs ht
  go_enter Tryd.func69, Tryd.ntmps69
  go_wp2_with fail
  refine Calls.kn ((Kn.nil w).al [.int .i64 t.a.base, .slice A1 t.a.digits.length c1, .int .i64 t.b.base, .slice A2 t.b.digits.length c2, .int .i64 t.s.base, .slice A3 t.s.digits.length c3, .int .i64 t.carry, .slice FA fn fc, .string J] 86) ?_; intro w1 hK0
  obtain ⟨g, hg⟩ : ∃ g, w.heap.size = g := ⟨_, rfl⟩
  rw [hg] at hK0
  try rw [hg]
  try simp only [hg]
  clear hg
  refine (KD.out _ hK0.below).mono ?_; rintro e w2 ⟨rfl, hw⟩
  have hK1 := hK0.keep hw
  clear hK0 hw
  have KT1 := Lib.hid (fun W (hW : Below w2.heap.size w2 W) => KT.out W (hK1.below.trans (hW.mono hK1.size)))
  have KU1 := Lib.hid (fun W (hW : Below w2.heap.size w2 W) => KU.out W (hK1.below.trans (hW.mono hK1.size)))
  have KV1 := Lib.hid (fun W (hW : Below w2.heap.size w2 W) => KV2.out W (hK1.below.trans (hW.mono hK1.size)))
  have x0 := cell_regrown (show w2.cell? ⟨g, 0, none⟩ = some (.int .i64 t.a.base) from hK1.blkAt.1 0)
  have x1 := cell_regrown (show w2.cell? ⟨g, 1, none⟩ = some (.slice A1 t.a.digits.length c1) from hK1.blkAt.1 1)
  have x2 := cell_regrown (show w2.cell? ⟨g, 2, none⟩ = some (.int .i64 t.b.base) from hK1.blkAt.1 2)
  have x3 := cell_regrown (show w2.cell? ⟨g, 3, none⟩ = some (.slice A2 t.b.digits.length c2) from hK1.blkAt.1 3)
  have x4 := cell_regrown (show w2.cell? ⟨g, 4, none⟩ = some (.int .i64 t.s.base) from hK1.blkAt.1 4)
  have x5 := cell_regrown (show w2.cell? ⟨g, 5, none⟩ = some (.slice A3 t.s.digits.length c3) from hK1.blkAt.1 5)
  have x6 := cell_regrown (show w2.cell? ⟨g, 6, none⟩ = some (.int .i64 t.carry) from hK1.blkAt.1 6)
  have x7 := cell_regrown (show w2.cell? ⟨g, 7, none⟩ = some (.slice FA fn fc) from hK1.blkAt.1 7)
  have x8 := cell_regrown (show w2.cell? ⟨g, 8, none⟩ = some (.string J) from hK1.blkAt.1 8)
  go_wp2_with fail
  refine wp_region_quiet_below (by kernel_rfl) (by kernel_rfl) ?_
  repeat (go_big_quiet_step ((first | (go_at_call 59; with_reducible exact quietB KT1.out) | (go_at_call 131; first | (with_reducible exact quietB KU1.out) | (with_reducible exact quietB KV1.out)))))
  refine wpQuiet_nil ?_
  intro _ hw'
  obtain ⟨⟨dq, osq⟩, hw''⟩ := hw'
  subst hw''
  obtain ⟨w5, hw3⟩ : ∃ W, grow (redrawn w2 dq) osq = W := ⟨_, rfl⟩
  have hK5 := hK1.keep (below_regrown w2 dq osq)
  have hbb := below_regrown w2 dq osq
  dsimp only
  rw [hw3] at hK5 hbb ⊢
  clear hw3 x0 x1 x2 x3 x4 x5 x6 x7 x8
  rw [← HT.out]
  go_wp2_with fail
  go_ret
  exact ⟨rfl, hK5.below⟩
set_option maxRecDepth 100000 in
set_option maxHeartbeats 3200000 in
theorem specDeskText_any (t : Tri) (A1 A2 A3 FA : Option Addr) (c1 c2 c3 fn fc : Nat) (fs : List Flt) (J : ByteArray) (w : World) (r1 : RI w A1 t.a.digits.length t.a.digits) (r2 : RI w A2 t.b.digits.length t.b.digits) (r3 : RI w A3 t.s.digits.length t.s.digits) (rf : RL FltM 2 w FA fn fs) (hs : SmallTri t) (hf : fn ≤ 1048576) (hj : J.size ≤ 1048576) :
    Calls Tryd.prog 68 #[.agg #[.int .i64 t.a.base, .slice A1 t.a.digits.length c1, .int .i64 t.b.base, .slice A2 t.b.digits.length c2, .int .i64 t.s.base, .slice A3 t.s.digits.length c3, .int .i64 t.carry, .slice FA fn fc, .string J]] w fun e w' => e = .returned (.string (dText t fs fn J)) ∧ Below w.heap.size w w' := by
  have KD := (fun (g : Nat) W (hK : Kn w [.blk g [.int .i64 t.a.base, .slice A1 t.a.digits.length c1, .int .i64 t.b.base, .slice A2 t.b.digits.length c2, .int .i64 t.s.base, .slice A3 t.s.digits.length c3, .int .i64 t.carry, .slice FA fn fc, .string J] 86] W) => l28Ok_any g t A1 A2 A3 FA c1 c2 c3 fn fc fs J W hK (r1.below hK.below) (r2.below hK.below) (r3.below hK.below) (rf.below steady_FltM hK.below) hs hf hj)
  rcases hd : dkOk t fs J with _ | _
  · rw [hd] at KD
    have HQ := Lib.hid (show dText t fs fn J = ⟨#[]⟩ by unfold dText; rw [hd]; rfl)
    replace KD := Lib.hid KD
    clear hd r1 r2 r3 rf hs
    go_enter Tryd.func68, Tryd.ntmps68
    go_wp2_with fail
    refine Calls.kn ((Kn.nil w).al [.int .i64 t.a.base, .slice A1 t.a.digits.length c1, .int .i64 t.b.base, .slice A2 t.b.digits.length c2, .int .i64 t.s.base, .slice A3 t.s.digits.length c3, .int .i64 t.carry, .slice FA fn fc, .string J] 86) ?_; intro w1 hK0
    refine (KD.out _ _ hK0).mono ?_; rintro e w2 ⟨rfl, hw⟩
    go_wp2_with fail
    go_ret
    exact ⟨by rw [HQ.out]; rfl, (hK0.keep hw).below⟩
  obtain ⟨hv, hj4⟩ := dk_all hd
  rw [hd] at KD
  have KT := (fun (g : Nat) W (hK : Kn w [.blk g [.int .i64 t.a.base, .slice A1 t.a.digits.length c1, .int .i64 t.b.base, .slice A2 t.b.digits.length c2, .int .i64 t.s.base, .slice A3 t.s.digits.length c3, .int .i64 t.carry, .slice FA fn fc, .string J] 86] W) => l10Text_any ⟨g, 0, none⟩ t W (TriC.tri (A1 := A1) (c1 := c1) (A2 := A2) (c2 := c2) (A3 := A3) (c3 := c3) ⟨⟨hK.blkAt.1 0, hK.blkAt.1 1, hK.blkAt.1 2, hK.blkAt.1 3, hK.blkAt.1 4, hK.blkAt.1 5, hK.blkAt.1 6⟩, r1.below hK.below, r2.below hK.below, r3.below hK.below⟩) hK.blkAt.2.2 hv)
  have KU := (fun W => l01Dec_any (fn : Int) W (by omega) (by omega))
  have KV2 := (fun W => l01Dec_any (J.size : Int) W (by omega) (by omega))
  have hTs := mtext_size hv
  rw [show mtext t = mtextL t by unfold mtext; rw [if_pos hv]] at hTs
  have l1 := dec_len (fn : Int) (by omega) (by omega)
  have l2 := dec_len (J.size : Int) (by omega) (by omega)
  have HT := Lib.hid (show dText t fs fn J = ((((mtextL t ++ (⟨#[32]⟩ : ByteArray)) ++ (⟨(dec (fn : Int)).toArray⟩ : ByteArray)) ++ (⟨#[32]⟩ : ByteArray)) ++ (⟨(dec (J.size : Int)).toArray⟩ : ByteArray)) by unfold dText; rw [if_pos hd]; rfl)
  obtain ⟨Q, hQ⟩ : ∃ Q, dText t fs fn J = Q := ⟨_, rfl⟩
  rw [hQ] at HT ⊢
  obtain ⟨T, hT⟩ : ∃ T, mtextL t = T := ⟨_, rfl⟩
  have hd1 : (⟨(dec (fn : Int)).toArray⟩ : ByteArray).size ≤ 24 := by show (dec (fn : Int)).toArray.size ≤ 24; simp; omega
  have hd2 : (⟨(dec (J.size : Int)).toArray⟩ : ByteArray).size ≤ 24 := by show (dec (J.size : Int)).toArray.size ≤ 24; simp; omega
  obtain ⟨U, hU⟩ : ∃ U, (⟨(dec (fn : Int)).toArray⟩ : ByteArray) = U := ⟨_, rfl⟩
  obtain ⟨V, hV⟩ : ∃ V, (⟨(dec (J.size : Int)).toArray⟩ : ByteArray) = V := ⟨_, rfl⟩
  rw [hT] at HT hTs KT
  rw [hU] at HT hd1 KU
  rw [hV] at HT hd2 KV2
  clear hQ hT hU hV l1 l2
  replace KT := Lib.hid KT
  replace KU := Lib.hid KU
  replace KV2 := Lib.hid KV2
  replace KD := Lib.hid KD
  clear hv hd r1 r2 r3 rf hs
  go_enter Tryd.func68, Tryd.ntmps68
  go_wp2_with fail
  refine Calls.kn ((Kn.nil w).al [.int .i64 t.a.base, .slice A1 t.a.digits.length c1, .int .i64 t.b.base, .slice A2 t.b.digits.length c2, .int .i64 t.s.base, .slice A3 t.s.digits.length c3, .int .i64 t.carry, .slice FA fn fc, .string J] 86) ?_; intro w1 hK0
  obtain ⟨g, hg⟩ : ∃ g, w.heap.size = g := ⟨_, rfl⟩
  rw [hg] at hK0
  try rw [hg]
  try simp only [hg]
  clear hg
  refine (KD.out _ _ hK0).mono ?_; rintro e w2 ⟨rfl, hw⟩
  have hK1 := hK0.keep hw
  clear hK0 hw
  have KT1 := Lib.hid (fun W (hW : Below w2.heap.size w2 W) => KT.out g W (hK1.keep hW))
  have x0 := cell_regrown (show w2.cell? ⟨g, 0, none⟩ = some (.int .i64 t.a.base) from hK1.blkAt.1 0)
  have x1 := cell_regrown (show w2.cell? ⟨g, 1, none⟩ = some (.slice A1 t.a.digits.length c1) from hK1.blkAt.1 1)
  have x2 := cell_regrown (show w2.cell? ⟨g, 2, none⟩ = some (.int .i64 t.b.base) from hK1.blkAt.1 2)
  have x3 := cell_regrown (show w2.cell? ⟨g, 3, none⟩ = some (.slice A2 t.b.digits.length c2) from hK1.blkAt.1 3)
  have x4 := cell_regrown (show w2.cell? ⟨g, 4, none⟩ = some (.int .i64 t.s.base) from hK1.blkAt.1 4)
  have x5 := cell_regrown (show w2.cell? ⟨g, 5, none⟩ = some (.slice A3 t.s.digits.length c3) from hK1.blkAt.1 5)
  have x6 := cell_regrown (show w2.cell? ⟨g, 6, none⟩ = some (.int .i64 t.carry) from hK1.blkAt.1 6)
  have x7 := cell_regrown (show w2.cell? ⟨g, 7, none⟩ = some (.slice FA fn fc) from hK1.blkAt.1 7)
  have x8 := cell_regrown (show w2.cell? ⟨g, 8, none⟩ = some (.string J) from hK1.blkAt.1 8)
  go_wp2_with fail
  refine wp_region_quiet_below (by kernel_rfl) (by kernel_rfl) ?_
  repeat (go_big_quiet_step ((first | (go_at_call 73; with_reducible exact quietB KT1.out) | (go_at_call 132; first | (with_reducible exact quietB (fun W _ => KU.out W)) | (with_reducible exact quietB (fun W _ => KV2.out W))))))
  refine wpQuiet_nil ?_
  intro _ hw'
  obtain ⟨⟨dq, osq⟩, hw''⟩ := hw'
  subst hw''
  obtain ⟨w5, hw3⟩ : ∃ W, grow (redrawn w2 dq) osq = W := ⟨_, rfl⟩
  have hK5 := hK1.keep (below_regrown w2 dq osq)
  have hbb := below_regrown w2 dq osq
  dsimp only
  rw [hw3] at hK5 hbb ⊢
  clear hw3 x0 x1 x2 x3 x4 x5 x6 x7 x8
  rw [← HT.out]
  go_wp2_with fail
  go_ret
  exact ⟨rfl, hK5.below⟩
theorem box9at {w0 w : World} {m : List Ent} {g : Nat} {v0 v1 v2 v3 v4 v5 v6 v7 v8 : Value} {T : TypeId} (h : Kn w0 m w) (i : Nat) (hi : m[i]? = some (.blk g [v0, v1, v2, v3, v4, v5, v6, v7, v8] T)) :
    w.cell? ⟨g, 0, none⟩ = some v0 ∧ w.cell? ⟨g, 1, none⟩ = some v1 ∧ w.cell? ⟨g, 2, none⟩ = some v2 ∧ w.cell? ⟨g, 3, none⟩ = some v3 ∧ w.cell? ⟨g, 4, none⟩ = some v4 ∧ w.cell? ⟨g, 5, none⟩ = some v5 ∧ w.cell? ⟨g, 6, none⟩ = some v6 ∧ w.cell? ⟨g, 7, none⟩ = some v7 ∧ w.cell? ⟨g, 8, none⟩ = some v8 :=
  ⟨(h.front i hi).blkAt.1 0, (h.front i hi).blkAt.1 1, (h.front i hi).blkAt.1 2, (h.front i hi).blkAt.1 3, (h.front i hi).blkAt.1 4, (h.front i hi).blkAt.1 5, (h.front i hi).blkAt.1 6, (h.front i hi).blkAt.1 7, (h.front i hi).blkAt.1 8⟩
end Go.Proofs.YtcapccadpbiecaaDoor

namespace Go.Proofs.YtcapccadpbiecaaDoor
open Go.RowKit Go.Sort
set_option maxRecDepth 100000 in
set_option maxHeartbeats 6400000 in
theorem law_ValidDesk (b1 b2 b3 cy : Int) (A1 A2 A3 FA : Option Addr) (n1 n2 n3 c1 c2 c3 fn fc : Nat) (d1 d2 d3 : List Int) (fs : List Flt) (J : ByteArray) (w : World) (r1 : RI w A1 n1 d1) (r2 : RI w A2 n2 d2) (r3 : RI w A3 n3 d3) (rf : RL FltM 2 w FA fn fs) (m1 : n1 ≤ 9223372036854775807) (m2 : n2 ≤ 9223372036854775807) (m3 : n3 ≤ 9223372036854775807) (mf : fn ≤ 9223372036854775807) (mj : J.size ≤ 9223372036854775807) (ht : TB w) :
    Calls Tryd.prog 10 #[.agg #[.int .i64 b1, .slice A1 n1 c1, .int .i64 b2, .slice A2 n2 c2, .int .i64 b3, .slice A3 n3 c3, .int .i64 cy, .slice FA fn fc, .string J]] w fun e w' => e = .returned (.bool true) ∧ Below w.heap.size w w' := by
  have HTB := Lib.hid (fun W (hW : Below w.heap.size w W) => TB.below ht hW)
  go_enter Tryd.func10, Tryd.ntmps10
  go_wp2_with fail
  refine Calls.kn ((Kn.nil w).al [.int .i64 b1, .slice A1 n1 c1, .int .i64 b2, .slice A2 n2 c2, .int .i64 b3, .slice A3 n3 c3, .int .i64 cy, .slice FA fn fc, .string J] 81) ?_; intro w1 hK0
  obtain ⟨gl, hgl⟩ : ∃ g, w.heap.size = g := ⟨_, rfl⟩
  rw [hgl] at hK0
  try rw [hgl]
  try simp only [hgl]
  clear hgl
  refine (szDesk_any b1 b2 b3 cy A1 A2 A3 FA n1 n2 n3 c1 c2 c3 fn fc J _ m1 m2 m3 mf mj).mono ?_; rintro e w2 ⟨⟨x, rfl, hx⟩, hw⟩
  have hK1 : Kn w [.blk gl [.int .i64 b1, .slice A1 n1 c1, .int .i64 b2, .slice A2 n2 c2, .int .i64 b3, .slice A3 n3 c3, .int .i64 cy, .slice FA fn fc, .string J] 81] w2 := hK0.keep hw
  clear hK0 hw ht
  rcases hx with hneg | ⟨hx0, s1, s2, s3, sf, sj⟩
  · go_wp2_with fail
    go_ret
    exact ⟨rfl, hK1.below⟩
  have hx1 : ¬ x < 0 := by omega
  obtain rfl : d1.length = n1 := r1.1
  obtain rfl : d2.length = n2 := r2.1
  obtain rfl : d3.length = n3 := r3.1
  have hsm := Lib.hid (show SmallTri ⟨⟨b1, d1⟩, ⟨b2, d2⟩, ⟨b3, d3⟩, cy⟩ by unfold SmallTri SmallReg; simp only; omega)
  have TD := Lib.hid (fun W (hW : Below w.heap.size w W) => toDesk_kn b1 b2 b3 cy A1 A2 A3 FA _ _ _ c1 c2 c3 fn fc J d1 d2 d3 fs W (r1.below hW) (r2.below hW) (r3.below hW) (rf.below steady_FltM hW) (by omega) (by omega) (by omega) (by omega))
  have HFL := Lib.hid rf.1
  obtain ⟨V, hV⟩ : ∃ V, dkOk ⟨⟨b1, d1⟩, ⟨b2, d2⟩, ⟨b3, d3⟩, cy⟩ fs J = V := ⟨_, rfl⟩
  have KS := (fun (X1 X2 X3 XF : Option Addr) (x1 x2 x3 xF : Nat) W (hW : Below w.heap.size w W) h1 h2 h3 hF => specValidDesk_any ⟨⟨b1, d1⟩, ⟨b2, d2⟩, ⟨b3, d3⟩, cy⟩ X1 X2 X3 XF x1 x2 x3 fn xF fs J W h1 h2 h3 hF hsm.out (by omega) (by omega))
  have KI := (fun (X1 X2 X3 XF : Option Addr) (x1 x2 x3 xF : Nat) W (hW : Below w.heap.size w W) h1 h2 h3 hF => ValidDesk_any ⟨⟨b1, d1⟩, ⟨b2, d2⟩, ⟨b3, d3⟩, cy⟩ X1 X2 X3 XF x1 x2 x3 fn xF fs J W h1 h2 h3 hF hsm.out (by omega) (by omega) (HTB.out W hW))
  rw [hV] at KS KI
  replace KS := Lib.hid KS
  replace KI := Lib.hid KI
  clear hV r1 r2 r3 rf
  obtain ⟨q1, q2, q3, -⟩ := hK1.cells
  go_wp2_with fail
  refine (TD.out _ hK1.below).mono ?_; rintro e w3 ⟨X1, x1, X2, x2, X3, x3, XF, xF, rfl, hKn⟩
  have hK2 : Kn w [rowFlN XF fn xF fs, rowN X3 d3.length x3 d3, rowN X2 d2.length x2 d2, rowN X1 d1.length x1 d1, .blk gl [.int .i64 b1, .slice A1 d1.length c1, .int .i64 b2, .slice A2 d2.length c2, .int .i64 b3, .slice A3 d3.length c3, .int .i64 cy, .slice FA fn fc, .string J] 81] w3 := hK1.join hKn
  clear hK1 hKn q1 q2 q3
  obtain ⟨q1, q2, q3, -⟩ := hK2.cells
  go_wp2_with fail
  refine (KS.out X1 X2 X3 XF x1 x2 x3 xF _ hK2.below (hK2.front 3 rfl).riN (hK2.front 2 rfl).riN (hK2.front 1 rfl).riN (Kn.rlFlN (hK2.front 0 rfl) HFL.out)).mono ?_; rintro e w4 ⟨rfl, hw⟩
  have hK3 : Kn w [rowFlN XF fn xF fs, rowN X3 d3.length x3 d3, rowN X2 d2.length x2 d2, rowN X1 d1.length x1 d1, .blk gl [.int .i64 b1, .slice A1 d1.length c1, .int .i64 b2, .slice A2 d2.length c2, .int .i64 b3, .slice A3 d3.length c3, .int .i64 cy, .slice FA fn fc, .string J] 81] w4 := hK2.keep hw
  clear hK2 hw q1 q2 q3
  obtain ⟨q1, q2, q3, -⟩ := hK3.cells
  go_wp2_with fail
  refine (TD.out _ hK3.below).mono ?_; rintro e w5 ⟨Y1, y1, Y2, y2, Y3, y3, YF, yF, rfl, hKn⟩
  have hK4 : Kn w [rowFlN YF fn yF fs, rowN Y3 d3.length y3 d3, rowN Y2 d2.length y2 d2, rowN Y1 d1.length y1 d1, rowFlN XF fn xF fs, rowN X3 d3.length x3 d3, rowN X2 d2.length x2 d2, rowN X1 d1.length x1 d1, .blk gl [.int .i64 b1, .slice A1 d1.length c1, .int .i64 b2, .slice A2 d2.length c2, .int .i64 b3, .slice A3 d3.length c3, .int .i64 cy, .slice FA fn fc, .string J] 81] w5 := hK3.join hKn
  clear hK3 hKn q1 q2 q3
  obtain ⟨gy, hgy⟩ : ∃ g, w5.heap.size = g := ⟨_, rfl⟩
  obtain ⟨q1, q2, q3, -⟩ := hK4.cells
  have hK5 := hK4.al [.int .i64 b1, .slice Y1 d1.length y1, .int .i64 b2, .slice Y2 d2.length y2, .int .i64 b3, .slice Y3 d3.length y3, .int .i64 cy, .slice YF fn yF, .string J] 86
  rw [hgy] at hK5
  go_upto_region 7 with fail
  try rw [hgy]
  try simp only [hgy]
  refine Code.wp.kn hK5 ?_; intro w6 hK6
  have hK6 : Kn w [.blk gy [.int .i64 b1, .slice Y1 d1.length y1, .int .i64 b2, .slice Y2 d2.length y2, .int .i64 b3, .slice Y3 d3.length y3, .int .i64 cy, .slice YF fn yF, .string J] 86, rowFlN YF fn yF fs, rowN Y3 d3.length y3 d3, rowN Y2 d2.length y2 d2, rowN Y1 d1.length y1 d1, rowFlN XF fn xF fs, rowN X3 d3.length x3 d3, rowN X2 d2.length x2 d2, rowN X1 d1.length x1 d1, .blk gl [.int .i64 b1, .slice A1 d1.length c1, .int .i64 b2, .slice A2 d2.length c2, .int .i64 b3, .slice A3 d3.length c3, .int .i64 cy, .slice FA fn fc, .string J] 81] w6 := hK6
  clear hK4 hK5 hgy q1 q2 q3
  obtain ⟨q1, q2, q3, q4, q5, q6, -⟩ := hK6.cells
  go_wp2_with fail
  refine (KI.out Y1 Y2 Y3 YF y1 y2 y3 yF _ hK6.below (hK6.front 4 rfl).riN (hK6.front 3 rfl).riN (hK6.front 2 rfl).riN (Kn.rlFlN (hK6.front 1 rfl) HFL.out)).mono ?_; rintro e w7 ⟨rfl, hw⟩
  have hK7 : Kn w [.blk gy [.int .i64 b1, .slice Y1 d1.length y1, .int .i64 b2, .slice Y2 d2.length y2, .int .i64 b3, .slice Y3 d3.length y3, .int .i64 cy, .slice YF fn yF, .string J] 86, rowFlN YF fn yF fs, rowN Y3 d3.length y3 d3, rowN Y2 d2.length y2 d2, rowN Y1 d1.length y1 d1, rowFlN XF fn xF fs, rowN X3 d3.length x3 d3, rowN X2 d2.length x2 d2, rowN X1 d1.length x1 d1, .blk gl [.int .i64 b1, .slice A1 d1.length c1, .int .i64 b2, .slice A2 d2.length c2, .int .i64 b3, .slice A3 d3.length c3, .int .i64 cy, .slice FA fn fc, .string J] 81] w7 := hK6.keep hw
  clear hK6 hw q1 q2 q3 q4 q5 q6 KI KS
  go_wp2_with fail
  have HG := Lib.hid (And.intro (box9at hK7.drew 0 rfl) (box9at hK7.drew 9 rfl))
  go_region_held3 (fun W => (W.cell? ⟨gy, 0, none⟩ = some (.int .i64 b1) ∧ W.cell? ⟨gy, 1, none⟩ = some (.slice Y1 d1.length y1) ∧ W.cell? ⟨gy, 2, none⟩ = some (.int .i64 b2) ∧ W.cell? ⟨gy, 3, none⟩ = some (.slice Y2 d2.length y2) ∧ W.cell? ⟨gy, 4, none⟩ = some (.int .i64 b3) ∧ W.cell? ⟨gy, 5, none⟩ = some (.slice Y3 d3.length y3) ∧ W.cell? ⟨gy, 6, none⟩ = some (.int .i64 cy) ∧ W.cell? ⟨gy, 7, none⟩ = some (.slice YF fn yF) ∧ W.cell? ⟨gy, 8, none⟩ = some (.string J)) ∧ (W.cell? ⟨gl, 0, none⟩ = some (.int .i64 b1) ∧ W.cell? ⟨gl, 1, none⟩ = some (.slice A1 d1.length c1) ∧ W.cell? ⟨gl, 2, none⟩ = some (.int .i64 b2) ∧ W.cell? ⟨gl, 3, none⟩ = some (.slice A2 d2.length c2) ∧ W.cell? ⟨gl, 4, none⟩ = some (.int .i64 b3) ∧ W.cell? ⟨gl, 5, none⟩ = some (.slice A3 d3.length c3) ∧ W.cell? ⟨gl, 6, none⟩ = some (.int .i64 cy) ∧ W.cell? ⟨gl, 7, none⟩ = some (.slice FA fn fc) ∧ W.cell? ⟨gl, 8, none⟩ = some (.string J)))
    (first | with_reducible exact HG.out | exact HG.out) (first
    | (go_at_call 65; refine (TD.out _ hK7.drew.below).mono ?_; rintro e w8 ⟨Z1, z1, Z2, z2, Z3, z3, ZF, zF, rfl, hKn⟩; have hK8 : Kn w [rowFlN ZF fn zF fs, rowN Z3 d3.length z3 d3, rowN Z2 d2.length z2 d2, rowN Z1 d1.length z1 d1, .blk gy [.int .i64 b1, .slice Y1 d1.length y1, .int .i64 b2, .slice Y2 d2.length y2, .int .i64 b3, .slice Y3 d3.length y3, .int .i64 cy, .slice YF fn yF, .string J] 86, rowFlN YF fn yF fs, rowN Y3 d3.length y3 d3, rowN Y2 d2.length y2 d2, rowN Y1 d1.length y1 d1, rowFlN XF fn xF fs, rowN X3 d3.length x3 d3, rowN X2 d2.length x2 d2, rowN X1 d1.length x1 d1, .blk gl [.int .i64 b1, .slice A1 d1.length c1, .int .i64 b2, .slice A2 d2.length c2, .int .i64 b3, .slice A3 d3.length c3, .int .i64 cy, .slice FA fn fc, .string J] 81] w8 := hK7.drew.join hKn; clear HG; have HG := Lib.hid (And.intro (box9at hK8 4 rfl) (box9at hK8 13 rfl)))
    | (go_at_call 67; refine (eqDesk_same b1 b2 b3 cy Y1 Y2 Y3 YF Z1 Z2 Z3 ZF _ _ _ y1 y2 y3 fn yF z1 z2 z3 zF J d1 d2 d3 fs _ (hK8.front 8 rfl).riN (hK8.front 7 rfl).riN (hK8.front 6 rfl).riN (Kn.rlFlN (hK8.front 5 rfl) HFL.out) (hK8.front 3 rfl).riN (hK8.front 2 rfl).riN (hK8.front 1 rfl).riN (Kn.rlFlN (hK8.front 0 rfl) HFL.out) (by omega) (by omega) (by omega) (by omega)).mono ?_; rintro e w9 ⟨rfl, hw⟩; have hK9 : Kn w [rowFlN ZF fn zF fs, rowN Z3 d3.length z3 d3, rowN Z2 d2.length z2 d2, rowN Z1 d1.length z1 d1, .blk gy [.int .i64 b1, .slice Y1 d1.length y1, .int .i64 b2, .slice Y2 d2.length y2, .int .i64 b3, .slice Y3 d3.length y3, .int .i64 cy, .slice YF fn yF, .string J] 86, rowFlN YF fn yF fs, rowN Y3 d3.length y3 d3, rowN Y2 d2.length y2 d2, rowN Y1 d1.length y1 d1, rowFlN XF fn xF fs, rowN X3 d3.length x3 d3, rowN X2 d2.length x2 d2, rowN X1 d1.length x1 d1, .blk gl [.int .i64 b1, .slice A1 d1.length c1, .int .i64 b2, .slice A2 d2.length c2, .int .i64 b3, .slice A3 d3.length c3, .int .i64 cy, .slice FA fn fc, .string J] 81] w9 := hK8.keep hw; clear HG; have HG := Lib.hid (And.intro (box9at hK9 4 rfl) (box9at hK9 13 rfl))))
  all_goals
    have hfin := hK9.below
    go_wp2_with fail
    go_ret
    exact ⟨rfl, hfin⟩
set_option maxRecDepth 100000 in
set_option maxHeartbeats 6400000 in
theorem law_DeskText (b1 b2 b3 cy : Int) (A1 A2 A3 FA : Option Addr) (n1 n2 n3 c1 c2 c3 fn fc : Nat) (d1 d2 d3 : List Int) (fs : List Flt) (J : ByteArray) (w : World) (r1 : RI w A1 n1 d1) (r2 : RI w A2 n2 d2) (r3 : RI w A3 n3 d3) (rf : RL FltM 2 w FA fn fs) (m1 : n1 ≤ 9223372036854775807) (m2 : n2 ≤ 9223372036854775807) (m3 : n3 ≤ 9223372036854775807) (mf : fn ≤ 9223372036854775807) (mj : J.size ≤ 9223372036854775807) (ht : TB w) :
    Calls Tryd.prog 11 #[.agg #[.int .i64 b1, .slice A1 n1 c1, .int .i64 b2, .slice A2 n2 c2, .int .i64 b3, .slice A3 n3 c3, .int .i64 cy, .slice FA fn fc, .string J]] w fun e w' => e = .returned (.bool true) ∧ Below w.heap.size w w' := by
  have HTB := Lib.hid (fun W (hW : Below w.heap.size w W) => TB.below ht hW)
  go_enter Tryd.func11, Tryd.ntmps11
  go_wp2_with fail
  refine Calls.kn ((Kn.nil w).al [.int .i64 b1, .slice A1 n1 c1, .int .i64 b2, .slice A2 n2 c2, .int .i64 b3, .slice A3 n3 c3, .int .i64 cy, .slice FA fn fc, .string J] 81) ?_; intro w1 hK0
  obtain ⟨gl, hgl⟩ : ∃ g, w.heap.size = g := ⟨_, rfl⟩
  rw [hgl] at hK0
  try rw [hgl]
  try simp only [hgl]
  clear hgl
  refine (szDesk_any b1 b2 b3 cy A1 A2 A3 FA n1 n2 n3 c1 c2 c3 fn fc J _ m1 m2 m3 mf mj).mono ?_; rintro e w2 ⟨⟨x, rfl, hx⟩, hw⟩
  have hK1 : Kn w [.blk gl [.int .i64 b1, .slice A1 n1 c1, .int .i64 b2, .slice A2 n2 c2, .int .i64 b3, .slice A3 n3 c3, .int .i64 cy, .slice FA fn fc, .string J] 81] w2 := hK0.keep hw
  clear hK0 hw ht
  rcases hx with hneg | ⟨hx0, s1, s2, s3, sf, sj⟩
  · go_wp2_with fail
    go_ret
    exact ⟨rfl, hK1.below⟩
  have hx1 : ¬ x < 0 := by omega
  obtain rfl : d1.length = n1 := r1.1
  obtain rfl : d2.length = n2 := r2.1
  obtain rfl : d3.length = n3 := r3.1
  have hsm := Lib.hid (show SmallTri ⟨⟨b1, d1⟩, ⟨b2, d2⟩, ⟨b3, d3⟩, cy⟩ by unfold SmallTri SmallReg; simp only; omega)
  have TD := Lib.hid (fun W (hW : Below w.heap.size w W) => toDesk_kn b1 b2 b3 cy A1 A2 A3 FA _ _ _ c1 c2 c3 fn fc J d1 d2 d3 fs W (r1.below hW) (r2.below hW) (r3.below hW) (rf.below steady_FltM hW) (by omega) (by omega) (by omega) (by omega))
  have HFL := Lib.hid rf.1
  obtain ⟨V, hV⟩ : ∃ V, dText ⟨⟨b1, d1⟩, ⟨b2, d2⟩, ⟨b3, d3⟩, cy⟩ fs fn J = V := ⟨_, rfl⟩
  have KS := (fun (X1 X2 X3 XF : Option Addr) (x1 x2 x3 xF : Nat) W (hW : Below w.heap.size w W) h1 h2 h3 hF => specDeskText_any ⟨⟨b1, d1⟩, ⟨b2, d2⟩, ⟨b3, d3⟩, cy⟩ X1 X2 X3 XF x1 x2 x3 fn xF fs J W h1 h2 h3 hF hsm.out (by omega) (by omega))
  have KI := (fun (X1 X2 X3 XF : Option Addr) (x1 x2 x3 xF : Nat) W (hW : Below w.heap.size w W) h1 h2 h3 hF => DeskText_any ⟨⟨b1, d1⟩, ⟨b2, d2⟩, ⟨b3, d3⟩, cy⟩ X1 X2 X3 XF x1 x2 x3 fn xF fs J W h1 h2 h3 hF hsm.out (by omega) (by omega) (HTB.out W hW))
  rw [hV] at KS KI
  replace KS := Lib.hid KS
  replace KI := Lib.hid KI
  clear hV r1 r2 r3 rf
  have hself : (V.toList == V.toList) = true := by simp
  obtain ⟨q1, q2, q3, -⟩ := hK1.cells
  go_wp2_with fail
  refine (TD.out _ hK1.below).mono ?_; rintro e w3 ⟨X1, x1, X2, x2, X3, x3, XF, xF, rfl, hKn⟩
  have hK2 : Kn w [rowFlN XF fn xF fs, rowN X3 d3.length x3 d3, rowN X2 d2.length x2 d2, rowN X1 d1.length x1 d1, .blk gl [.int .i64 b1, .slice A1 d1.length c1, .int .i64 b2, .slice A2 d2.length c2, .int .i64 b3, .slice A3 d3.length c3, .int .i64 cy, .slice FA fn fc, .string J] 81] w3 := hK1.join hKn
  clear hK1 hKn q1 q2 q3
  obtain ⟨q1, q2, q3, -⟩ := hK2.cells
  go_wp2_with fail
  refine (KS.out X1 X2 X3 XF x1 x2 x3 xF _ hK2.below (hK2.front 3 rfl).riN (hK2.front 2 rfl).riN (hK2.front 1 rfl).riN (Kn.rlFlN (hK2.front 0 rfl) HFL.out)).mono ?_; rintro e w4 ⟨rfl, hw⟩
  have hK3 : Kn w [rowFlN XF fn xF fs, rowN X3 d3.length x3 d3, rowN X2 d2.length x2 d2, rowN X1 d1.length x1 d1, .blk gl [.int .i64 b1, .slice A1 d1.length c1, .int .i64 b2, .slice A2 d2.length c2, .int .i64 b3, .slice A3 d3.length c3, .int .i64 cy, .slice FA fn fc, .string J] 81] w4 := hK2.keep hw
  clear hK2 hw q1 q2 q3
  obtain ⟨q1, q2, q3, -⟩ := hK3.cells
  go_wp2_with fail
  refine (TD.out _ hK3.below).mono ?_; rintro e w5 ⟨Y1, y1, Y2, y2, Y3, y3, YF, yF, rfl, hKn⟩
  have hK4 : Kn w [rowFlN YF fn yF fs, rowN Y3 d3.length y3 d3, rowN Y2 d2.length y2 d2, rowN Y1 d1.length y1 d1, rowFlN XF fn xF fs, rowN X3 d3.length x3 d3, rowN X2 d2.length x2 d2, rowN X1 d1.length x1 d1, .blk gl [.int .i64 b1, .slice A1 d1.length c1, .int .i64 b2, .slice A2 d2.length c2, .int .i64 b3, .slice A3 d3.length c3, .int .i64 cy, .slice FA fn fc, .string J] 81] w5 := hK3.join hKn
  clear hK3 hKn q1 q2 q3
  obtain ⟨gy, hgy⟩ : ∃ g, w5.heap.size = g := ⟨_, rfl⟩
  obtain ⟨q1, q2, q3, -⟩ := hK4.cells
  have hK5 := hK4.al [.int .i64 b1, .slice Y1 d1.length y1, .int .i64 b2, .slice Y2 d2.length y2, .int .i64 b3, .slice Y3 d3.length y3, .int .i64 cy, .slice YF fn yF, .string J] 86
  rw [hgy] at hK5
  go_upto_region 7 with fail
  try rw [hgy]
  try simp only [hgy]
  refine Code.wp.kn hK5 ?_; intro w6 hK6
  have hK6 : Kn w [.blk gy [.int .i64 b1, .slice Y1 d1.length y1, .int .i64 b2, .slice Y2 d2.length y2, .int .i64 b3, .slice Y3 d3.length y3, .int .i64 cy, .slice YF fn yF, .string J] 86, rowFlN YF fn yF fs, rowN Y3 d3.length y3 d3, rowN Y2 d2.length y2 d2, rowN Y1 d1.length y1 d1, rowFlN XF fn xF fs, rowN X3 d3.length x3 d3, rowN X2 d2.length x2 d2, rowN X1 d1.length x1 d1, .blk gl [.int .i64 b1, .slice A1 d1.length c1, .int .i64 b2, .slice A2 d2.length c2, .int .i64 b3, .slice A3 d3.length c3, .int .i64 cy, .slice FA fn fc, .string J] 81] w6 := hK6
  clear hK4 hK5 hgy q1 q2 q3
  obtain ⟨q1, q2, q3, q4, q5, q6, -⟩ := hK6.cells
  go_wp2_with fail
  refine (KI.out Y1 Y2 Y3 YF y1 y2 y3 yF _ hK6.below (hK6.front 4 rfl).riN (hK6.front 3 rfl).riN (hK6.front 2 rfl).riN (Kn.rlFlN (hK6.front 1 rfl) HFL.out)).mono ?_; rintro e w7 ⟨rfl, hw⟩
  have hK7 : Kn w [.blk gy [.int .i64 b1, .slice Y1 d1.length y1, .int .i64 b2, .slice Y2 d2.length y2, .int .i64 b3, .slice Y3 d3.length y3, .int .i64 cy, .slice YF fn yF, .string J] 86, rowFlN YF fn yF fs, rowN Y3 d3.length y3 d3, rowN Y2 d2.length y2 d2, rowN Y1 d1.length y1 d1, rowFlN XF fn xF fs, rowN X3 d3.length x3 d3, rowN X2 d2.length x2 d2, rowN X1 d1.length x1 d1, .blk gl [.int .i64 b1, .slice A1 d1.length c1, .int .i64 b2, .slice A2 d2.length c2, .int .i64 b3, .slice A3 d3.length c3, .int .i64 cy, .slice FA fn fc, .string J] 81] w7 := hK6.keep hw
  clear hK6 hw q1 q2 q3 q4 q5 q6 KI KS
  go_wp2_with fail
  have HG := Lib.hid (And.intro (box9at hK7.drew 0 rfl) (box9at hK7.drew 9 rfl))
  go_region_held3 (fun W => (W.cell? ⟨gy, 0, none⟩ = some (.int .i64 b1) ∧ W.cell? ⟨gy, 1, none⟩ = some (.slice Y1 d1.length y1) ∧ W.cell? ⟨gy, 2, none⟩ = some (.int .i64 b2) ∧ W.cell? ⟨gy, 3, none⟩ = some (.slice Y2 d2.length y2) ∧ W.cell? ⟨gy, 4, none⟩ = some (.int .i64 b3) ∧ W.cell? ⟨gy, 5, none⟩ = some (.slice Y3 d3.length y3) ∧ W.cell? ⟨gy, 6, none⟩ = some (.int .i64 cy) ∧ W.cell? ⟨gy, 7, none⟩ = some (.slice YF fn yF) ∧ W.cell? ⟨gy, 8, none⟩ = some (.string J)) ∧ (W.cell? ⟨gl, 0, none⟩ = some (.int .i64 b1) ∧ W.cell? ⟨gl, 1, none⟩ = some (.slice A1 d1.length c1) ∧ W.cell? ⟨gl, 2, none⟩ = some (.int .i64 b2) ∧ W.cell? ⟨gl, 3, none⟩ = some (.slice A2 d2.length c2) ∧ W.cell? ⟨gl, 4, none⟩ = some (.int .i64 b3) ∧ W.cell? ⟨gl, 5, none⟩ = some (.slice A3 d3.length c3) ∧ W.cell? ⟨gl, 6, none⟩ = some (.int .i64 cy) ∧ W.cell? ⟨gl, 7, none⟩ = some (.slice FA fn fc) ∧ W.cell? ⟨gl, 8, none⟩ = some (.string J)))
    (first | with_reducible exact HG.out | exact HG.out) (first
    | (go_at_call 65; refine (TD.out _ hK7.drew.below).mono ?_; rintro e w8 ⟨Z1, z1, Z2, z2, Z3, z3, ZF, zF, rfl, hKn⟩; have hK8 : Kn w [rowFlN ZF fn zF fs, rowN Z3 d3.length z3 d3, rowN Z2 d2.length z2 d2, rowN Z1 d1.length z1 d1, .blk gy [.int .i64 b1, .slice Y1 d1.length y1, .int .i64 b2, .slice Y2 d2.length y2, .int .i64 b3, .slice Y3 d3.length y3, .int .i64 cy, .slice YF fn yF, .string J] 86, rowFlN YF fn yF fs, rowN Y3 d3.length y3 d3, rowN Y2 d2.length y2 d2, rowN Y1 d1.length y1 d1, rowFlN XF fn xF fs, rowN X3 d3.length x3 d3, rowN X2 d2.length x2 d2, rowN X1 d1.length x1 d1, .blk gl [.int .i64 b1, .slice A1 d1.length c1, .int .i64 b2, .slice A2 d2.length c2, .int .i64 b3, .slice A3 d3.length c3, .int .i64 cy, .slice FA fn fc, .string J] 81] w8 := hK7.drew.join hKn; clear HG; have HG := Lib.hid (And.intro (box9at hK8 4 rfl) (box9at hK8 13 rfl)))
    | (go_at_call 67; refine (eqDesk_same b1 b2 b3 cy Y1 Y2 Y3 YF Z1 Z2 Z3 ZF _ _ _ y1 y2 y3 fn yF z1 z2 z3 zF J d1 d2 d3 fs _ (hK8.front 8 rfl).riN (hK8.front 7 rfl).riN (hK8.front 6 rfl).riN (Kn.rlFlN (hK8.front 5 rfl) HFL.out) (hK8.front 3 rfl).riN (hK8.front 2 rfl).riN (hK8.front 1 rfl).riN (Kn.rlFlN (hK8.front 0 rfl) HFL.out) (by omega) (by omega) (by omega) (by omega)).mono ?_; rintro e w9 ⟨rfl, hw⟩; have hK9 : Kn w [rowFlN ZF fn zF fs, rowN Z3 d3.length z3 d3, rowN Z2 d2.length z2 d2, rowN Z1 d1.length z1 d1, .blk gy [.int .i64 b1, .slice Y1 d1.length y1, .int .i64 b2, .slice Y2 d2.length y2, .int .i64 b3, .slice Y3 d3.length y3, .int .i64 cy, .slice YF fn yF, .string J] 86, rowFlN YF fn yF fs, rowN Y3 d3.length y3 d3, rowN Y2 d2.length y2 d2, rowN Y1 d1.length y1 d1, rowFlN XF fn xF fs, rowN X3 d3.length x3 d3, rowN X2 d2.length x2 d2, rowN X1 d1.length x1 d1, .blk gl [.int .i64 b1, .slice A1 d1.length c1, .int .i64 b2, .slice A2 d2.length c2, .int .i64 b3, .slice A3 d3.length c3, .int .i64 cy, .slice FA fn fc, .string J] 81] w9 := hK8.keep hw; clear HG; have HG := Lib.hid (And.intro (box9at hK9 4 rfl) (box9at hK9 13 rfl))))
  all_goals
    have hfin := hK9.below
    go_wp2_with fail
    go_ret
    exact ⟨rfl, hfin⟩
end Go.Proofs.YtcapccadpbiecaaDoor

namespace Go.Proofs.YtcapccadpbiecaaDoor
open Go.RowKit Go.ChangeShapes Go.WideShapes Go.ChangeAt Go.Deep
section
variable {H : Type} {enc : TypeId × Value → H} {w : World} {base : Nat} {spare : Nat → Bool} {held : Bool} {fuel : Nat} {cs : List Value} {x : DataW H × List MemPlace}
instance : Inhabited Flt := ⟨⟨0, 0⟩⟩
theorem addr_posF (p : Addr) (j : Nat) (h : j ≠ 0) : p.add j = ⟨p.block, p.off + j, none⟩ := by unfold Addr.add; rw [if_neg h]
theorem cellsLF : Tryd.prog.cellsOf 206 = 2 := by kernel_rfl
set_option maxRecDepth 100000 in
theorem rd_lfault (h : DataW.trod enc Tryd.prog w base spare held fuel 206 cs = some x) : ∃ y : Flt, cs = [.int .i64 y.kind, .int .i64 y.lever] := by
  obtain ⟨xs, m, _, _, hl, hxl, hf⟩ := DataW.trod_struct Tryd.underlying206 h
  rw [cellsLF] at hl
  match cs, hl with
  | [c0, c1], _ =>
    obtain ⟨y0, hy0⟩ : ∃ y, xs[0]? = some y := ⟨_, List.getElem?_eq_getElem (by rw [hxl]; decide)⟩
    obtain ⟨y1, hy1⟩ : ∃ y, xs[1]? = some y := ⟨_, List.getElem?_eq_getElem (by rw [hxl]; decide)⟩
    have h0 : DataW.trod enc Tryd.prog w base spare held m 2 (([c0, c1].drop 0).take (Tryd.prog.cellsOf 2)) = xs[0]? := hf 0 _ rfl
    have h1 : DataW.trod enc Tryd.prog w base spare held m 2 (([c0, c1].drop 1).take (Tryd.prog.cellsOf 2)) = xs[1]? := hf 1 _ rfl
    simp only [cellsI64, List.drop_zero, List.drop_succ_cons, List.take_succ_cons, List.take_zero] at h0 h1
    rw [hy0] at h0
    rw [hy1] at h1
    obtain ⟨a, e0, -⟩ := rd_i64 h0
    obtain ⟨b, e1, -⟩ := rd_i64 h1
    injection e0 with e0
    injection e1 with e1
    exact ⟨⟨a, b⟩, by rw [e0, e1]⟩
set_option maxRecDepth 100000 in
theorem rd_lfaults (h : DataW.trod enc Tryd.prog w base spare held fuel 79 cs = some x) : ∃ A n c xs, cs = [.slice A n c] ∧ RL FltM 2 w A n xs ∧ n ≤ 9223372036854775807 := by
  rcases open_slice Tryd.underlying79 h with ⟨rfl, _⟩ | ⟨a, len, cap, m, n, D, Pl, rfl, hb, hl, hm, hmm, rfl, hx⟩
  · exact ⟨none, 0, 0, [], rfl, ⟨rfl, fun h => absurd h (by omega)⟩, by omega⟩
  · have hlm : len ≤ m := by rw [hmm]; split <;> omega
    have key : ∀ i, i < len → ∃ t : Flt, FltM w (a.add (i * 2)) t := by
      intro i hi
      obtain ⟨cs', h1, h2⟩ := hx i (by omega)
      rw [cellsLF] at h1
      obtain ⟨y, rfl⟩ := rd_lfault h2
      obtain ⟨_, _, hc⟩ := World.cells?_some h1
      have q0 := hc 0 (by omega)
      have q1 := hc 1 (by omega)
      rw [addr_add_zero] at q0
      rw [addr_posF _ _ (by decide)] at q1
      exact ⟨y, q0, q1⟩
    obtain ⟨T, hT⟩ := choose_lt key
    refine ⟨some a, len, cap, (List.range len).map T, rfl, ⟨by simp, fun hn => ⟨a, rfl, ?_, fun k hk => ?_⟩⟩, by simp only [maxLen] at hm; omega⟩
    · have g := (hT 0 hn).1
      rw [Nat.zero_mul, addr_add_zero] at g
      exact World.block_lt_of_cell? w _ g
    · have hk' : k < len := by simpa using hk
      simpa using hT k hk'
theorem cellsStrD : Tryd.prog.cellsOf 9 = 1 := by kernel_rfl
theorem cellsLD : Tryd.prog.cellsOf 81 = 9 := by kernel_rfl
theorem cellsLM7 : Tryd.prog.cellsOf 33 = 7 := by kernel_rfl
theorem cellsLFS : Tryd.prog.cellsOf 79 = 1 := by kernel_rfl
set_option maxRecDepth 100000 in
theorem rd_ldesk (h : DataW.trod enc Tryd.prog w base spare held fuel 81 cs = some x) : ∃ b1 A1 n1 c1 d1 b2 A2 n2 c2 d2 b3 A3 n3 c3 d3 cy FA fn fc fs J, cs = [.int .i64 b1, .slice A1 n1 c1, .int .i64 b2, .slice A2 n2 c2, .int .i64 b3, .slice A3 n3 c3, .int .i64 cy, .slice FA fn fc, .string J] ∧
    RI w A1 n1 d1 ∧ RI w A2 n2 d2 ∧ RI w A3 n3 d3 ∧ RL FltM 2 w FA fn fs ∧ n1 ≤ 9223372036854775807 ∧ n2 ≤ 9223372036854775807 ∧ n3 ≤ 9223372036854775807 ∧ fn ≤ 9223372036854775807 ∧ J.size ≤ 9223372036854775807 := by
  obtain ⟨xs, m, _, _, hl, hxl, hf⟩ := DataW.trod_struct Tryd.underlying81 h
  rw [cellsLD] at hl
  match cs, hl with
  | [c0, c1, c2, c3, c4, c5, c6, c7, c8], _ =>
    obtain ⟨y0, hy0⟩ : ∃ y, xs[0]? = some y := ⟨_, List.getElem?_eq_getElem (by rw [hxl]; decide)⟩
    obtain ⟨y1, hy1⟩ : ∃ y, xs[1]? = some y := ⟨_, List.getElem?_eq_getElem (by rw [hxl]; decide)⟩
    obtain ⟨y2, hy2⟩ : ∃ y, xs[2]? = some y := ⟨_, List.getElem?_eq_getElem (by rw [hxl]; decide)⟩
    have h0 : DataW.trod enc Tryd.prog w base spare held m 33 (([c0, c1, c2, c3, c4, c5, c6, c7, c8].drop 0).take (Tryd.prog.cellsOf 33)) = xs[0]? := hf 0 _ rfl
    have h1 : DataW.trod enc Tryd.prog w base spare held m 79 (([c0, c1, c2, c3, c4, c5, c6, c7, c8].drop 7).take (Tryd.prog.cellsOf 79)) = xs[1]? := hf 1 _ rfl
    have h2 : DataW.trod enc Tryd.prog w base spare held m 9 (([c0, c1, c2, c3, c4, c5, c6, c7, c8].drop 8).take (Tryd.prog.cellsOf 9)) = xs[2]? := hf 2 _ rfl
    simp only [cellsLM7, cellsLFS, cellsStrD, List.drop_zero, List.drop_succ_cons, List.take_succ_cons, List.take_zero] at h0 h1 h2
    rw [hy0] at h0
    rw [hy1] at h1
    rw [hy2] at h2
    obtain ⟨b1, A1, n1, k1, d1, b2, A2, n2, k2, d2, b3, A3, n3, k3, d3, cy, e1, r1, r2, r3, m1, m2, m3⟩ := rd_lmachine h0
    obtain ⟨FA, fn, fc, fs, e2, rf, mf⟩ := rd_lfaults h1
    obtain ⟨J, e3, -, mj⟩ := DataW.trod_string Tryd.underlying9 h2
    simp only [List.cons.injEq, and_true] at e1 e2 e3
    obtain ⟨rfl, rfl, rfl, rfl, rfl, rfl, rfl⟩ := e1
    subst e2
    subst e3
    exact ⟨b1, A1, n1, k1, d1, b2, A2, n2, k2, d2, b3, A3, n3, k3, d3, cy, FA, fn, fc, fs, J, rfl, r1, r2, r3, rf, m1, m2, m3, mf, by simp only [maxLen] at mj; omega⟩
end
end Go.Proofs.YtcapccadpbiecaaDoor

namespace Go.Proofs.YtcapccadpbiecaaDoor.fnExactValidDesk
open Go.ChangeShapes Go.WideShapes Go.ChangeAt Go.RowKit
set_option maxRecDepth 100000 in
theorem contract (H : Type) (enc : TypeId × Value → H) (W : World) (base : Nat) (args : Array Value) (ds gs : List (DataW H)) (before : List MemPlace)
    (hval : ∀ (j : Nat) t v, Tryd.f10.params[j]? = some t → args[j]? = some v → Value.okWide Tryd.prog W .any base t v)
    (hW : DataW.Whole enc Tryd.prog Tryd.f10.params.toList Rows.fnExactValidDeskSpec.vars false W args.toList ds gs before) (hL : laidMetH Tryd.prog Rows.fnExactValidDeskRow.laid W) :
    Calls Tryd.prog 10 args W fun e W' => ∃ v, e = .returned v ∧ Rows.fnExactValidDeskSpec.post enc Tryd.prog Tryd.f10 false true false false W args v W' := by
  have hW' := hW
  obtain ⟨p, q, hA0, hV, rfl, hfz, hnd⟩ := hW
  have hA : DataW.TrodAll enc Tryd.prog W 0 (fun _ => true) true Tryd.f10.params.toList args.toList ds p := hA0
  rw [Tryd.params10] at hA hval
  obtain ⟨v0, vs0, d0, ds0, p0, q0, hargs, rfl, rfl, h0, r0⟩ := trodAll_cons hA
  obtain ⟨rfl, rfl, rfl⟩ := trodAll_nil r0
  obtain rfl : args = #[v0] := by cases args; simp_all
  obtain ⟨rfl, rfl⟩ := trodVars_none hV
  clear hA0
  simp only [List.append_nil] at hW'
  have hlt : ∀ x ∈ p0, x.block < W.heap.size := fun x hx => by
    have := hW'.lt x (by simpa using hx)
    simpa using this
  obtain ⟨cs, rfl, hsz⟩ := okWide_struct Tryd.underlying81 (hval 0 _ _ rfl rfl)
  have t0 := h0
  obtain ⟨fuel0, hf0⟩ := h0
  obtain ⟨b1, A1, n1, c1, e1, b2, A2, n2, c2, e2, b3, A3, n3, c3, e3, cy, FA, fn, fc, fs, J, hcs, z1, z2, z3, zf, m1, m2, m3, mf, mj⟩ := rd_ldesk hf0
  obtain rfl : cs = #[.int .i64 b1, .slice A1 n1 c1, .int .i64 b2, .slice A2 n2 c2, .int .i64 b3, .slice A3 n3 c3, .int .i64 cy, .slice FA fn fc, .string J] := by
    have : cs.toList = [.int .i64 b1, .slice A1 n1 c1, .int .i64 b2, .slice A2 n2 c2, .int .i64 b3, .slice A3 n3 c3, .int .i64 cy, .slice FA fn fc, .string J] := hcs
    rw [← Array.toArray_toList (xs := cs), this]
  have walk : Calls Tryd.prog 10 #[.agg #[.int .i64 b1, .slice A1 n1 c1, .int .i64 b2, .slice A2 n2 c2, .int .i64 b3, .slice A3 n3 c3, .int .i64 cy, .slice FA fn fc, .string J]] W fun e w' => e = .returned (.bool true) ∧ Below W.heap.size W w' :=
    law_ValidDesk b1 b2 b3 cy A1 A2 A3 FA n1 n2 n3 c1 c2 c3 fn fc e1 e2 e3 fs J W z1 z2 z3 zf m1 m2 m3 mf mj (tb_of_laid hL)
  refine walk.mono fun e W' ⟨he, hb⟩ => ?_
  subst he
  have u0 := Below.trod laidOut (by kernel_rfl) (of_decide_eq_true (by kernel_rfl)) t0 hb hlt
  exact ⟨_, rfl, [d0], [], p0 ++ [], [], p0 ++ [], [], by simpa using hW', trodAll_cons_mk (shut_bool Tryd.underlying4 _) trodAll_mk0, (trodAll_cons_mk u0 trodAll_mk0), rfl, hb.frame _, fun h => by cases h⟩
theorem reads (os : Os) {H : Type} (enc : TypeId × Value → H) : ∃ places, DataW.whole enc Tryd.prog ((laidWorld os).forCall (fun _ _ => 0) ⟨#[], #[.agg #[.int .i64 0, .slice none 0 0, .int .i64 0, .slice none 0 0, .int .i64 0, .slice none 0 0, .int .i64 0, .slice none 0 0, .string ⟨#[]⟩]], []⟩).memory Tryd.f10.params.toList Rows.fnExactValidDeskSpec.vars false (#[.agg #[.int .i64 0, .slice none 0 0, .int .i64 0, .slice none 0 0, .int .i64 0, .slice none 0 0, .int .i64 0, .slice none 0 0, .string ⟨#[]⟩]] : Array Value).toList 8 = some ([.agg [.agg [.agg [.lit (.int .i64 0), .nil], .agg [.lit (.int .i64 0), .nil], .agg [.lit (.int .i64 0), .nil], .lit (.int .i64 0)], .nil, .lit (.string [])]], [], places) :=
  ⟨[], by kernel_rfl⟩
set_option maxRecDepth 100000 in
theorem lifted (os : Os) (started : os.Started) (H : Type) (enc : TypeId × Value → H) (F : Stop.Interp) :
    ReturnsInHanded {} Tryd.checked os 10 .any ((OpenSpec.ofChange Rows.fnExactValidDeskSpec).preRow enc Tryd.prog Tryd.f10 Rows.fnExactValidDeskRow.domain false Rows.fnExactValidDeskRow.laid) (((OpenSpec.ofChange Rows.fnExactValidDeskSpec).at F).post enc Tryd.prog Tryd.f10 false true false false) := by
  obtain ⟨places, hx⟩ := reads os enc
  refine returnsInHanded_of_row (C := Tryd.checked) (s := OpenSpec.ofChange Rows.fnExactValidDeskSpec) own started (by kernel_rfl) Tryd.func10
    (witness_row_at (enc := enc) (C := Tryd.checked) false (laidWorld os) #[.agg #[.int .i64 0, .slice none 0 0, .int .i64 0, .slice none 0 0, .int .i64 0, .slice none 0 0, .int .i64 0, .slice none 0 0, .string ⟨#[]⟩]] rfl (by kernel_rfl) (by kernel_rfl) (by kernel_rfl)
      (OpenSpec.preRow_of_cond 8 hx (by kernel_rfl) (fun k hk => by cases hk) (by kernel_rfl) (laid_met os _))) ?_
  intro W base args ds gs before hval hW _ _ _ hL _ _
  exact contract H enc W base args ds gs before hval hW hL
theorem said : Rows.FnExactValidDeskSaid :=
  OpenClaim.holds_of_cond 10 Tryd.f10 rfl rfl rfl rfl rfl rfl rfl ⟨rfl, rfl, rfl, rfl, rfl⟩ rfl rfl rfl rfl rfl (by kernel_rfl) Tryd.func10 (by kernel_rfl)
    (of_decide_eq_true (by kernel_rfl)) (by unfold Func.isWrapper; first | (rw [if_pos (by decide +kernel)]; kernel_rfl) | (rw [if_neg (by decide +kernel)]; exact ⟨rfl, rfl⟩))
    (fun os started H enc _ F => by rw [OpenClaim.pre_eq_preRow]; exact lifted os started H enc F)
theorem plain (f : FuncId) (fn : Func) (hf : Tryd.pinned.checked.prog.funcNamed "loop.example/g00930/laws.FnExactValidDesk" = some f) (hfn : Tryd.pinned.checked.prog.funcs[f]? = some fn) :
    false = Tryd.pinned.checked.prog.looks [] ∧ ∀ (j : Nat) t, fn.params[j]? = some t → Tryd.pinned.checked.prog.wantsStandIn t = false := by
  obtain rfl : f = 10 := Option.some.inj ((show Tryd.prog.funcNamed "loop.example/g00930/laws.FnExactValidDesk" = some 10 by kernel_rfl).symm.trans hf) |>.symm
  obtain rfl : fn = Tryd.f10 := (Option.some.inj (Tryd.func10.symm.trans hfn)).symm
  refine ⟨by kernel_rfl, fun j t ht => ?_⟩
  rw [Tryd.params10] at ht
  have s0 : Tryd.prog.wantsStandIn 81 = false := by kernel_rfl
  have hm := Array.mem_of_getElem? ht
  obtain rfl : t = 81 := by simpa using hm
  exact s0
/-- THE CARD. -/
theorem card : Rows.FnExactValidDeskCardSaid :=
  Claim7.holds_tied_plain_at .later [] _ _ _ _ said (fun _ h => by cases h) (by kernel_rfl) (fun _ h => by cases h) fnExactValidDesk_row_tie rfl ⟨rfl, rfl⟩ (by kernel_rfl) rfl plain (by kernel_rfl)
end Go.Proofs.YtcapccadpbiecaaDoor.fnExactValidDesk
