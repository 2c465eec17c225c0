/- For every input the law FnExactShownSession returns true and leaves its arguments as they were: the program's shown session is the reference's. Condition: the tables of strconv hold what the program's text lays (tied by the card). -/
import Derived.Test.YtcapccadpbiecaaDoorZC1
import Derived.Test.YtcapccadpbiecaaDoorZC2
import Derived.Test.YtcapccadpbiecaaDoorZC3
import Derived.Test.YtcapccadpbiecaaDoorZC4
import Derived.Test.YtcapccadpbiecaaDoorZC5
import Derived.Test.YtcapccadpbiecaaDoorZC6
import Derived.Test.YtcapccadpbiecaaDoorZC7
import Derived.Test.YtcapccadpbiecaaDoorZC8
import Derived.Test.YtcapccadpbiecaaDoorZC9
import Derived.OpenShut
import Derived.ProofKit
import Derived.Carry
import Derived.ChangeMaps5
namespace Go.Proofs.YtcapccadpbiecaaDoor
open Go.RowKit Go.Sort
/-! whole sessions, plainly -/
/-- what a line does to a machine -/
def stepM (t : Tri) (b : List UInt8) : Tri × Int :=
  if kindOf b ≠ 0 then ((strokeT (kindOf b) t).1, 0)
  else if b = endB then (t, 0)
  else if begins setB b then (if (rdDec (b.drop 4)).isSome && decide (0 ≤ rdN (b.drop 4) ∧ rdN (b.drop 4) < pw t.a.base t.a.digits.length) then (setT t (rdN (b.drop 4)), 0) else (t, 3))
  else if begins showB b then (if b.drop 5 = strB (mtextL t) then (t, 0) else (t, 4))
  else (t, 2)
theorem kind_end : kindOf endB = 0 := by decide
theorem lineS_step {s : SS} {i : Int} {b : List UInt8} (h : s.ended = false) : (lineS s i b).1.m = (stepM s.m b).1 ∧ (lineS s i b).2 = (stepM s.m b).2 ∧ (lineS s i b).1.ended = decide (b = endB) ∧ (lineS s i b).1.start = s.start := by
  unfold lineS stepM
  rw [if_neg (by rw [h]; decide)]
  by_cases hk : kindOf b = 0
  · have hk' : ¬ (kindOf b ≠ 0) := fun h => h hk
    rw [if_neg hk', if_neg hk']
    by_cases he : b = endB
    · rw [if_pos he, if_pos he]; simp [he]
    · rw [if_neg he, if_neg he]
      have hd : decide (b = endB) = false := decide_eq_false he
      rw [hd]
      rcases begins setB b with _ | _
      · simp only [Bool.false_eq_true, if_false]
        rcases begins showB b with _ | _
        · simp [h]
        · simp only [if_true]; split <;> simp [h]
      · simp only [if_true]; split <;> simp [h]
  · rw [if_pos hk, if_pos hk]
    have he : b ≠ endB := by rintro rfl; exact hk kind_end
    simp [he]
def foldT (t : Tri) (l : List (List UInt8)) : Tri := l.foldl (fun t b => (stepM t b).1) t
def AllOk : Tri → List (List UInt8) → Prop
  | _, [] => True
  | t, b :: l => (stepM t b).2 = 0 ∧ b ≠ endB ∧ AllOk (stepM t b).1 l
theorem goS_ended {s : SS} {i : Int} {l : List (List UInt8)} (h : s.ended = true) (h0 : (goS s i l).2.2 = 0) : l = [] := by
  cases l with
  | nil => rfl
  | cons b l =>
    rw [goS_cons, lineS_ended i b h] at h0
    rw [if_pos (show (5 : Int) ≠ 0 by decide)] at h0
    cases h0
/-- a whole session: its lines are fine, and the last one ends it -/
theorem goS_valid : ∀ {l : List (List UInt8)} {s : SS} {i : Int}, s.ended = false → (goS s i l).2.2 = 0 → ∃ body, l = body ++ [endB] ∧ AllOk s.m body ∧ (goS s i l).1.m = foldT s.m body ∧ (goS s i l).1.start = s.start
  | [], s, i, h, h0 => by
    rw [goS_nil, h, if_neg (by decide)] at h0
    cases h0
  | b :: l, s, i, h, h0 => by
    obtain ⟨e1, e2, e3, e4⟩ := lineS_step (i := i) (b := b) h
    by_cases hc : (lineS s i b).2 = 0
    · rw [goS_cons, if_neg (fun h => h hc)] at h0 ⊢
      by_cases he : b = endB
      · have hl := goS_ended (by rw [e3, decide_eq_true he]) h0
        subst hl
        refine ⟨[], by rw [he]; rfl, trivial, ?_, ?_⟩
        · rw [goS_nil, e3, decide_eq_true he, if_pos rfl, e1, he]
          show (stepM s.m endB).1 = s.m
          unfold stepM
          rw [if_neg (fun h => h kind_end), if_pos rfl]
        · rw [goS_nil, e3, decide_eq_true he, if_pos rfl, e4]
      · have he' : (lineS s i b).1.ended = false := by rw [e3, decide_eq_false he]
        obtain ⟨body, h1, h2, h3, h4⟩ := goS_valid (l := l) he' h0
        refine ⟨b :: body, by rw [h1]; rfl, ⟨e2.symm.trans hc, he, by rw [← e1]; exact h2⟩, ?_, by rw [h4, e4]⟩
        rw [h3, e1]; rfl
    · rw [goS_cons, if_pos hc] at h0
      exact absurd h0 hc
/-- fine lines without an end: the machine behind them -/
theorem goS_fold : ∀ {l : List (List UInt8)} {s : SS} {i : Int}, s.ended = false → AllOk s.m l → (goS s i l).1.m = foldT s.m l
  | [], s, i, h, _ => by rw [goS_nil, h, if_neg (by decide)]; rfl
  | b :: l, s, i, h, h0 => by
    obtain ⟨e1, e2, e3, e4⟩ := lineS_step (i := i) (b := b) h
    obtain ⟨h1, h2, h3⟩ := h0
    rw [goS_cons, if_neg (fun h => h (e2.trans h1))]
    rw [goS_fold (by rw [e3, decide_eq_false h2]) (by rw [e1]; exact h3), e1]; rfl
theorem foldT_ok : ∀ {l : List (List UInt8)} {t : Tri}, vmach t = true → vmach (foldT t l) = true
  | [], t, h => h
  | b :: l, t, h => by
    show vmach (foldT (stepM t b).1 l) = true
    refine foldT_ok ?_
    have hg : (SS.mk t t [] [] false).Good 0 := ⟨h, h, Nat.le_refl _, Nat.le_refl _⟩
    have := (lineS_good (i := 0) (bs := b) hg).m
    rw [(lineS_step (s := ⟨t, t, [], [], false⟩) (i := 0) (b := b) rfl).1] at this
    exact this
/-- a whole session, from its lines -/
theorem whole_parts {l : List (List UInt8)} (h : wholeC l = 0) : l.length ≤ 100 ∧ ∃ b0 body, l = b0 :: (body ++ [endB]) ∧ startOk b0 = true ∧ vmach (rdMach (b0.drop 6)) = true ∧ AllOk (rdMach (b0.drop 6)) body ∧ (runS l).1.m = foldT (rdMach (b0.drop 6)) body ∧ (runS l).1.start = rdMach (b0.drop 6) := by
  obtain ⟨h1, h2⟩ := wholeC_ok h
  refine ⟨h1, ?_⟩
  match l, h2 with
  | [], h2 => simp [runS] at h2
  | b :: t, h2 =>
    rw [runS_cons] at h2 ⊢
    rcases hs : startOk b with _ | _
    · rw [hs, if_neg (by decide)] at h2; cases h2
    · rw [hs, if_pos rfl] at h2
      obtain ⟨body, e1, e2, e3, e4⟩ := goS_valid (s := ⟨rdMach (b.drop 6), rdMach (b.drop 6), [], [], false⟩) rfl h2
      have hv : vmach (rdMach (b.drop 6)) = true := by
        unfold startOk at hs
        rw [Bool.and_eq_true] at hs
        exact rdm_good hs.2
      rw [if_pos rfl]
      exact ⟨b, body, by rw [e1], hs, hv, e2, e3, e4⟩
theorem show_step {t : Tri} {b : List UInt8} (h : begins showB b = true) (h0 : (stepM t b).2 = 0) : (stepM t b).1 = t := by
  unfold stepM at h0 ⊢
  by_cases hk : kindOf b = 0
  · have hk' : ¬ (kindOf b ≠ 0) := fun h => h hk
    rw [if_neg hk'] at h0 ⊢
    rw [if_neg (begins_ne h (by decide)), show_not_set h, if_neg (by decide), if_pos h] at h0 ⊢
    split <;> rfl
  · have hkk := kindOf_name hk
    have hb := (begins_iff.1 h).1
    have : b.length ≤ 5 := by rw [← hkk, strB_len]; exact sname_len _
    change 5 < b.length at hb
    omega
/-- the bytes "show " alone are no line of a session -/
theorem show_alone {t : Tri} (h : (stepM t showB).2 = 0) : False := by
  have : stepM t showB = (t, 2) := by
    unfold stepM
    rw [if_neg (by decide), if_neg (by decide), if_neg (by decide), if_neg (by decide)]
  rw [this] at h
  cases h
/-- is a line one that shows? (the reference's test) -/
def isShow (b : List UInt8) : Bool := decide (5 ≤ b.length) && decide (b.take 5 = showB)
theorem isShow_eq {t : Tri} {b : List UInt8} (h : (stepM t b).2 = 0) : isShow b = begins showB b := by
  unfold isShow begins
  by_cases h5 : b.length = 5
  · by_cases hb : b.take 5 = showB
    · rw [List.take_of_length_le (by omega)] at hb
      subst hb
      exact (show_alone h).elim
    · show (_ && decide (b.take 5 = showB)) = (_ && decide (b.take 5 = showB))
      rw [decide_eq_false hb]; simp
  · show (decide (5 ≤ b.length) && _) = (decide (5 < b.length) && _)
    have : decide (5 ≤ b.length) = decide (5 < b.length) := by
      by_cases h6 : 5 < b.length
      · rw [decide_eq_true h6, decide_eq_true (by omega)]
      · rw [decide_eq_false h6, decide_eq_false (by omega)]
    rw [this]; rfl
theorem isShow_end : isShow endB = false := by decide
theorem start_not_show {b : List UInt8} (h : startOk b = true) : begins showB b = false ∧ isShow b = false := by
  unfold startOk at h
  rw [Bool.and_eq_true] at h
  have h1 := (begins_iff.1 h.1).2
  have h2 : b.take 5 = startB.take 5 := by rw [← h1, List.take_take]; rfl
  constructor
  · unfold begins
    have : ¬ b.take showB.length = showB := by
      show ¬ b.take 5 = showB
      rw [h2]; decide
    rw [decide_eq_false this]; simp
  · unfold isShow
    rw [h2]
    have : decide (startB.take 5 = showB) = false := by decide
    rw [this]; simp
end Go.Proofs.YtcapccadpbiecaaDoor

namespace Go.Proofs.YtcapccadpbiecaaDoor
open Go.RowKit Go.Sort
/-! the shown session, plainly -/
def endW : ByteArray := ⟨#[101, 110, 100]⟩
def showT (t : Tri) : ByteArray := showW ++ mtext t
/-- what follows in the shown session, behind the first line -/
def restL (t : Tri) : List ByteArray → List ByteArray
  | [] => []
  | b :: r => if r = [] then [b] else if begins showB (strB b) then restL t r else b :: showT (stepM t (strB b)).1 :: restL (stepM t (strB b)).1 r
/-- the same of lines none of which shows -/
def restP (t : Tri) : List ByteArray → List ByteArray
  | [] => []
  | b :: r => if r = [] then [b] else b :: showT (stepM t (strB b)).1 :: restP (stepM t (strB b)).1 r
def notShow (b : ByteArray) : Bool := !isShow (strB b)
/-- lines that are fine, and the end behind them -/
def OkEnd (t : Tri) (l : List ByteArray) : Prop := ∃ body, l = body ++ [endW] ∧ AllOk t (body.map strB)
theorem endW_of {E : ByteArray} (h : strB E = endB) : E = endW := by
  have : endW = E := str_eq.2 (show ([101, 110, 100] : List UInt8) = strB E from h.symm)
  exact this.symm
theorem OkEnd.cons {t : Tri} {b : ByteArray} {r : List ByteArray} (h : OkEnd t (b :: r)) (hr : r ≠ []) : (stepM t (strB b)).2 = 0 ∧ strB b ≠ endB ∧ OkEnd (stepM t (strB b)).1 r := by
  obtain ⟨body, h1, h2⟩ := h
  cases body with
  | nil =>
    simp only [List.nil_append, List.cons.injEq] at h1
    exact absurd h1.2 hr
  | cons c body =>
    simp only [List.cons_append, List.cons.injEq] at h1
    obtain ⟨rfl, rfl⟩ := h1
    exact ⟨h2.1, h2.2.1, body, rfl, h2.2.2⟩
theorem OkEnd.last {t : Tri} {b : ByteArray} (h : OkEnd t [b]) : b = endW := by
  obtain ⟨body, h1, h2⟩ := h
  cases body with
  | nil => simpa using h1
  | cons c body => simp at h1
theorem OkEnd.ne {t : Tri} {l : List ByteArray} (h : OkEnd t l) : l ≠ [] := by
  obtain ⟨body, h1, -⟩ := h
  rw [h1]; simp
theorem whole_lines {ss : List ByteArray} (h : wholeC (ss.map strB) = 0) : ss.length ≤ 100 ∧ ∃ L tl, ss = L :: tl ∧ startOk (strB L) = true ∧ vmach (rdMach ((strB L).drop 6)) = true ∧ OkEnd (rdMach ((strB L).drop 6)) tl ∧ (runS (ss.map strB)).1.start = rdMach ((strB L).drop 6) := by
  obtain ⟨h1, b0, body, h2, h3, h4, h5, h6, h7⟩ := whole_parts h
  rw [List.length_map] at h1
  refine ⟨h1, ?_⟩
  match ss, h2, h7 with
  | L :: tl, g2, h7 =>
    simp only [List.map_cons, List.cons.injEq] at g2
    obtain ⟨rfl, g3⟩ := g2
    refine ⟨L, tl, rfl, h3, h4, ?_, h7⟩
    obtain ⟨l1, l2, rfl, e1, e2⟩ := List.map_eq_append_iff.1 g3
    have hl2 : l2.length = 1 := by have := congrArg List.length e2; simpa using this
    obtain ⟨E, rfl⟩ := List.length_eq_one_iff.1 hl2
    have e3 : strB E = endB := by simpa using e2
    exact ⟨l1, by rw [endW_of e3], by rw [e1]; exact h5⟩
theorem endW_notShow : notShow endW = true := by decide
/-- the lines that do not show, and the machine -/
theorem rest_plain : ∀ {l : List ByteArray} {t : Tri}, OkEnd t l → restL t l = restP t (l.filter notShow) ∧ OkEnd t (l.filter notShow)
  | [], t, h => absurd rfl h.ne
  | [b], t, h => by
    have hb := h.last
    subst hb
    have hf : [endW].filter notShow = [endW] := by rw [List.filter_cons_of_pos endW_notShow, List.filter_nil]
    rw [hf]
    exact ⟨by unfold restL restP; simp, h⟩
  | b :: c :: r, t, h => by
    obtain ⟨h1, h2, h3⟩ := h.cons (by simp)
    obtain ⟨ih1, ih2⟩ := rest_plain h3
    have hs : notShow b = !begins showB (strB b) := by unfold notShow; rw [isShow_eq h1]
    rcases hb : begins showB (strB b) with _ | _
    · rw [hb] at hs
      rw [List.filter_cons_of_pos (by rw [hs]; rfl)]
      have hne := ih2.ne
      refine ⟨?_, ?_⟩
      · have e1 : restL t (b :: c :: r) = b :: showT (stepM t (strB b)).1 :: restL (stepM t (strB b)).1 (c :: r) := by
          conv => lhs; unfold restL
          rw [if_neg (by simp), hb, if_neg (by decide)]
        have e2 : restP t (b :: (c :: r).filter notShow) = b :: showT (stepM t (strB b)).1 :: restP (stepM t (strB b)).1 ((c :: r).filter notShow) := by
          conv => lhs; unfold restP
          rw [if_neg hne]
        rw [e1, e2, ih1]
      · obtain ⟨body, e, ok⟩ := ih2
        exact ⟨b :: body, by rw [e]; rfl, h1, h2, ok⟩
    · rw [hb] at hs
      rw [List.filter_cons_of_neg (by rw [hs]; decide)]
      have ht := show_step hb h1
      rw [ht] at ih1 ih2
      refine ⟨?_, ih2⟩
      have e1 : restL t (b :: c :: r) = restL t (c :: r) := by
        conv => lhs; unfold restL
        rw [if_neg (by simp), hb, if_pos rfl]
      rw [e1, ih1]
/-- the shown session, and its code -/
def shL (ss : List ByteArray) : List ByteArray := match ss with | [] => [] | L :: tl => L :: restL (rdMach ((strB L).drop 6)) tl
def shC (ss : List ByteArray) : Int := if wholeC (ss.map strB) = 0 then (if (shL ss).length > 100 then 5 else 0) else wholeC (ss.map strB)
def shR (ss : List ByteArray) : List ByteArray := if shC ss = 0 then shL ss else []
theorem shR_len (ss : List ByteArray) : (shR ss).length ≤ 100 := by
  unfold shR
  split
  · rename_i h
    unfold shC at h
    split at h
    · split at h
      · cases h
      · omega
    · rename_i h'; exact absurd h h'
  · simp
/-- a row of strings, of its own length -/
def rowT (A : Option Addr) (c : Nat) (ss : List ByteArray) : Ent := rowSN A ss.length c ss
/-- strings and a code -/
def SCRet (l : List ByteArray) (C : Int) (w : World) (e : Ending) (w' : World) : Prop := ∃ X x, e = .returned (.tuple #[.slice X l.length x, .int .i64 C]) ∧ Kn w [rowT X x l] w'
theorem SCRet.none {C : Int} {w w' : World} (h : Below w.heap.size w w') : SCRet [] C w (.returned (.tuple #[.slice none 0 0, .int .i64 C])) w' :=
  ⟨_, _, rfl, ((Kn.nil w).keep h).nilRow _ _⟩
theorem AllOk.take {t : Tri} : ∀ {l : List (List UInt8)} {t : Tri} (k : Nat), AllOk t l → AllOk t (l.take k)
  | [], t, k, h => by rw [List.take_nil]; trivial
  | b :: l, t, 0, h => trivial
  | b :: l, t, k + 1, h => ⟨h.1, h.2.1, AllOk.take (t := t) k h.2.2⟩
theorem restL_len : ∀ (l : List ByteArray) (t : Tri), (restL t l).length ≤ 2 * l.length
  | [], t => by simp [restL]
  | b :: r, t => by
    unfold restL
    have h1 := restL_len r t
    have h2 := restL_len r (stepM t (strB b)).1
    split
    · simp; omega
    · split
      · simp only [List.length_cons]; omega
      · simp only [List.length_cons]; omega
end Go.Proofs.YtcapccadpbiecaaDoor

namespace Go.Proofs.YtcapccadpbiecaaDoor
open Go.RowKit Go.Sort
theorem isShow_str (s : ByteArray) : isShow (strB s) = (decide (5 ≤ s.size) && decide ((s.extract 0 5).toList = [115, 104, 111, 119, 32])) := by
  unfold isShow
  rw [strB_len, strB_toList, strB_extract, List.drop_zero]
  exact congrArg (decide (5 ≤ s.size) && ·) (decide_eq_decide.2 Iff.rfl)
theorem show_app : ((⟨#[115, 104, 111, 119]⟩ : ByteArray) ++ (⟨#[32]⟩ : ByteArray)).toList = [115, 104, 111, 119, 32] := by
  rw [strB_toList]
  unfold strB
  simp
theorem l24Is_show (s : ByteArray) (w : World) (hs : s.size ≤ 9223372036854775807) :
    Calls Tryd.prog 143 #[.string s, .string ⟨#[115, 104, 111, 119]⟩] w fun e w' => e = .returned (.bool (isShow (strB s))) ∧ w = w' := by
  have HI := Lib.hid (isShow_str s)
  obtain ⟨R, hR⟩ : ∃ R, isShow (strB s) = R := ⟨_, rfl⟩
  rw [hR] at HI ⊢
  clear hR
  by_cases h5 : 5 ≤ s.size
  · have i5 : (5 : Int) ≤ (s.size : Int) := by omega
    rcases hq : ((s.extract 0 5).toList == ((⟨#[115, 104, 111, 119]⟩ : ByteArray) ++ (⟨#[32]⟩ : ByteArray)).toList) with _ | _
    · have HQ : Hid (R = false) := by
        simp only [Hid]
        rw [HI.out, decide_eq_true h5, decide_eq_false (by rw [show_app, beq_eq_false_iff_ne] at hq; exact hq)]; rfl
      go_enter Tryd.func143, Tryd.ntmps143
      go_wp2_with fail
      go_ret
      exact ⟨ret_bool HQ.out.symm, rfl⟩
    · have HQ : Hid (R = true) := by
        simp only [Hid]
        rw [HI.out, decide_eq_true h5, decide_eq_true (by rw [show_app, beq_iff_eq] at hq; exact hq)]; rfl
      go_enter Tryd.func143, Tryd.ntmps143
      go_wp2_with fail
      go_ret
      exact ⟨ret_bool HQ.out.symm, rfl⟩
  · have i5 : ¬ (5 : Int) ≤ (s.size : Int) := by omega
    have HQ : Hid (R = false) := by
      simp only [Hid]
      rw [HI.out, decide_eq_false h5]; rfl
    go_enter Tryd.func143, Tryd.ntmps143
    go_wp2_with fail
    go_ret
    exact ⟨ret_bool HQ.out.symm, rfl⟩
theorem filter_take_succ {α : Type} (p : α → Bool) (l : List α) {k : Nat} (h : k < l.length) : (l.take (k + 1)).filter p = (l.take k).filter p ++ (if p l[k] then [l[k]] else []) := by
  rw [List.take_succ_eq_append_getElem h, List.filter_append, List.filter_cons, List.filter_nil]
set_option maxHeartbeats 1600000 in
theorem l24Plain_any (A : Option Addr) (n c : Nat) (ss : List ByteArray) (w : World) (hr : RL StrM 1 w A n ss) (hn : n ≤ 1000000) (hsz : ∀ s ∈ ss, s.size ≤ 1048576) :
    Calls Tryd.prog 71 #[.slice A n c] w fun e w' => ∃ X x, e = .returned (.slice X (ss.filter notShow).length x) ∧ Kn w [rowS (.slice X (ss.filter notShow).length x) (ss.filter notShow)] w' := by
  have HL := Lib.hid hr.1
  have HR := Lib.hid (fun W (hW : Below w.heap.size w W) => hr.below steady_StrM hW)
  have HZ := Lib.hid hsz
  have hK0 := ((Kn.nil w).al [] 9).litRow (n := 0) (size := 1) rfl (by decide)
  clear hr hsz
  go_enter Tryd.func71, Tryd.ntmps71
  go_wp2_with fail
  go_loopw [3, 4] (fun v i wr => ∃ (k : Nat) (X : Option Addr) (x : Nat), k ≤ n ∧ i = .int .i64 k ∧ v = .slice X ((ss.take k).filter notShow).length x ∧ Kn w [rowS (.slice X ((ss.take k).filter notShow).length x) ((ss.take k).filter notShow)] wr) (fun _ i _ => n - (intOf i).toNat)
  case atStart => exact ⟨0, _, _, Nat.zero_le _, rfl, rfl, hK0⟩
  case round =>
    clear hK0
    obtain ⟨k, X, x, hk, rfl, rfl, hK⟩ := hrel
    have hln : ((ss.take k).filter notShow).length ≤ 1000000 := by
      have := List.length_filter_le notShow (ss.take k)
      rw [List.length_take] at this
      omega
    by_cases hkn : k < n
    · obtain ⟨ad, hA, hlt, hkl, hx⟩ := (HR.out wr hK.below).at_ hkn
      have hx0 : wr.cell? (ad.add k) = some (.string ss[k]) := by have h : wr.cell? (ad.add (k * 1)) = some (.string ss[k]) := hx; rw [Nat.mul_one] at h; exact h
      have hsk := HZ.out _ (List.getElem_mem hkl)
      have hft := filter_take_succ notShow ss hkl
      obtain ⟨z, hz⟩ : ∃ z, ss[k] = z := ⟨_, rfl⟩
      rw [hz] at hx0 hsk hft
      obtain ⟨O, hO⟩ : ∃ O, (ss.take k).filter notShow = O := ⟨_, rfl⟩
      rw [hO] at hK hft hln ⊢
      have HFT := Lib.hid hft
      have KI := (fun W => l24Is_show z W (by omega))
      have hns : notShow z = !isShow (strB z) := rfl
      obtain ⟨b, hb⟩ : ∃ b, isShow (strB z) = b := ⟨_, rfl⟩
      rw [hb] at KI hns
      replace KI := Lib.hid KI
      have HNS := Lib.hid hns
      have hi0 : (0 : Int) ≤ (k : Int) := by omega
      have hi1 : (k : Int) < (n : Int) := by omega
      subst hA
      clear hx hz hft hO hb hns
      rcases b with _ | _
      · have hA : Kn w [.blk wr.heap.size [.string z] 9, rowS (.slice X O.length x) O] _ := hK.al [.string z] 9
        have HO := Lib.hid (show (ss.take (k + 1)).filter notShow = O ++ [z] by rw [HFT.out, HNS.out]; rfl)
        go_wp2_with (first | (go_at_call 143; refine (KI.out _).mono ?_; rintro e w2 ⟨rfl, rfl⟩) | (at_builtin; refine kn_pushS rfl _ _ rfl (.slice X O.length x) O rfl rfl hA (by omega) ?_; intro v3 w3 hK3))
        obtain ⟨X3, x3, rfl⟩ := row_form hK3.at0
        go_roundw
        case rel =>
          refine ⟨k + 1, X3, x3, by omega, by go_num, ?_, ?_⟩
          · rw [HO.out]
          · rw [HO.out]; exact hK3
        case measure => simp [intOf]; omega
      · have HO := Lib.hid (show (ss.take (k + 1)).filter notShow = O by rw [HFT.out, HNS.out]; simp)
        go_wp2_with (go_at_call 143; refine (KI.out _).mono ?_; rintro e w2 ⟨rfl, rfl⟩)
        go_roundw
        case rel =>
          refine ⟨k + 1, X, x, by omega, by go_num, ?_, ?_⟩
          · rw [HO.out]
          · rw [HO.out]; exact hK
        case measure => simp [intOf]; omega
    · have HT := Lib.hid (show ss.take k = ss by rw [List.take_of_length_le]; have := HL.out; omega)
      have hi1 : ¬ (k : Int) < (n : Int) := by omega
      go_wp2_with fail
      go_ret
      rw [HT.out] at hK
      exact ⟨X, x, by rw [HT.out]; rfl, hK⟩
end Go.Proofs.YtcapccadpbiecaaDoor

namespace Go.Proofs.YtcapccadpbiecaaDoor
open Go.RowKit Go.Sort
instance : Inhabited RS := ⟨⟨default, [], 0, 0⟩⟩
/-- where a run ends -/
noncomputable def endR (L : List Ins) (t : Tri) : RS := Classical.epsilon (fun s' => ∃ b', Ev L (.run 0 L.length) (startR t) s' b')
theorem endR_eq {L : List Ins} {t : Tri} {s' : RS} {b' : Bool} (h : Ev L (.run 0 L.length) (startR t) s' b') : endR L t = s' := by
  obtain ⟨b2, h2⟩ := Classical.epsilon_spec (p := fun s' => ∃ b', Ev L (.run 0 L.length) (startR t) s' b') ⟨s', b', h⟩
  exact (h2.one h).1
noncomputable def rpC (L : List Ins) (t : Tri) : Int := if vmach t && vprog L then (endR L t).code else 1
noncomputable def rpM (L : List Ins) (t : Tri) : Tri := if rpC L t = 0 ∧ vmach (endR L t).m = true then (endR L t).m else zTri
noncomputable def rpT (L : List Ins) (t : Tri) : List Int := if rpC L t = 0 ∧ (endR L t).tr.length ≤ 3001 then (endR L t).tr else []
theorem rp_bad {L : List Ins} {t : Tri} (h : (vmach t && vprog L) = false) : rpC L t = 1 ∧ rpM L t = zTri ∧ rpT L t = [] := by
  have h1 : rpC L t = 1 := by unfold rpC; rw [h]; rfl
  refine ⟨h1, ?_, ?_⟩
  · unfold rpM; rw [h1, if_neg (fun h => absurd h.1 (by decide))]
  · unfold rpT; rw [h1, if_neg (fun h => absurd h.1 (by decide))]
theorem rp_code {L : List Ins} {t : Tri} (h1 : vmach t = true) (h2 : vprog L = true) {s' : RS} {b' : Bool} (h : Ev L (.run 0 L.length) (startR t) s' b') (hc : ¬ s'.code = 0) : rpC L t = s'.code ∧ rpM L t = zTri ∧ rpT L t = [] := by
  have h3 : rpC L t = s'.code := by unfold rpC; rw [h1, h2, endR_eq h]; rfl
  refine ⟨h3, ?_, ?_⟩
  · unfold rpM; rw [h3, if_neg (fun h => hc h.1)]
  · unfold rpT; rw [h3, if_neg (fun h => hc h.1)]
theorem rp_fine {L : List Ins} {t : Tri} (h1 : vmach t = true) (h2 : vprog L = true) {s' : RS} {b' : Bool} (h : Ev L (.run 0 L.length) (startR t) s' b') (hg : s'.Good) (hc : s'.code = 0) : rpC L t = 0 ∧ rpM L t = s'.m ∧ rpT L t = s'.tr := by
  have h3 : rpC L t = 0 := by unfold rpC; rw [h1, h2, endR_eq h]; exact hc
  refine ⟨h3, ?_, ?_⟩
  · unfold rpM; rw [h3, endR_eq h, if_pos ⟨rfl, hg.m⟩]
  · unfold rpT; rw [h3, endR_eq h, if_pos ⟨rfl, by have := hg.tr; have := hg.top; omega⟩]
theorem rpM_len (L : List Ins) (t : Tri) : (rpM L t).a.digits.length ≤ 16 ∧ (rpM L t).b.digits.length ≤ 16 ∧ (rpM L t).s.digits.length ≤ 16 := by
  unfold rpM
  split
  · rename_i h
    have := sized_of h.2
    exact ⟨this.a, this.b, this.s⟩
  · simp [zTri]
theorem rpT_len (L : List Ins) (t : Tri) : (rpT L t).length ≤ 3001 := by
  unfold rpT
  split
  · rename_i h; exact h.2
  · simp
/-- what RunProgram returns -/
def RPRet (L : List Ins) (t : Tri) (w : World) (e : Ending) (w' : World) : Prop := ∃ A1 c1 A2 c2 A3 c3, e = .returned (.tuple #[.agg #[.int .i64 (rpM L t).a.base, .slice A1 (rpM L t).a.digits.length c1, .int .i64 (rpM L t).b.base, .slice A2 (rpM L t).b.digits.length c2, .int .i64 (rpM L t).s.base, .slice A3 (rpM L t).s.digits.length c3, .int .i64 (rpM L t).carry], .int .i64 ((rpT L t).length : Int), .int .i64 (rpC L t)]) ∧
  Kn w [rowI A3 c3 (rpM L t).s.digits, rowI A2 c2 (rpM L t).b.digits, rowI A1 c1 (rpM L t).a.digits] w'
/-- what TraceProgram returns -/
def TPRet (L : List Ins) (t : Tri) (w : World) (e : Ending) (w' : World) : Prop := ∃ A c, e = .returned (.tuple #[.slice A (rpT L t).length c, .int .i64 (rpC L t)]) ∧ Kn w [rowI A c (rpT L t)] w'
end Go.Proofs.YtcapccadpbiecaaDoor

namespace Go.Proofs.YtcapccadpbiecaaDoor
open Go.RowKit Go.Sort
theorem StrokeName_all (k : Int) (w : World) : Calls Tryd.prog 61 #[.int .i64 k] w fun e w' => e = .returned (.string (sname k)) ∧ Below w.heap.size w w' := by
  by_cases h : 1 ≤ k ∧ k ≤ 6
  · exact StrokeName_any k w h
  · have hs : sname k = ⟨#[]⟩ := by
      unfold sname
      rw [if_neg (by omega), if_neg (by omega), if_neg (by omega), if_neg (by omega), if_neg (by omega), if_neg (by omega)]
    have hb : betB k 1 6 = false := betB_false.2 (by omega)
    have KB := Lib.hid (fun W => calls_val (between_any k 1 6 W) (congrArg Value.bool hb))
    have KI : ∀ W, Calls Tryd.prog 96 #[.int .i64 k] W fun e w' => e = .returned (.bool false) ∧ W = w' := fun W => by
      go_enter Tryd.func96, Tryd.ntmps96
      go_wp2_with (go_at_call 127; refine (KB.out _).mono ?_; rintro e w' ⟨rfl, rfl⟩)
      go_ret
      exact ⟨rfl, rfl⟩
    have KI := Lib.hid KI
    rw [hs]
    clear hb h hs KB
    go_enter Tryd.func61, Tryd.ntmps61
    go_wp2_with (go_at_call 96; refine (KI.out _).mono ?_; rintro e w' ⟨rfl, rfl⟩)
    go_ret
    exact ⟨rfl, Below.refl _ _⟩
theorem specStrokeName_all (k : Int) (w : World) : Calls Tryd.prog 95 #[.int .i64 k] w fun e w' => e = .returned (.string (sname k)) ∧ Below w.heap.size w w' := by
  by_cases h : 1 ≤ k ∧ k ≤ 6
  · exact specStrokeName_any k w h
  · have hs : sname k = ⟨#[]⟩ := by
      unfold sname
      rw [if_neg (by omega), if_neg (by omega), if_neg (by omega), if_neg (by omega), if_neg (by omega), if_neg (by omega)]
    have hb : betB k 1 6 = false := betB_false.2 (by omega)
    have KB := Lib.hid (fun W => calls_val (l00In_any k 1 6 W) (congrArg Value.bool hb))
    have KI : ∀ W, Calls Tryd.prog 93 #[.int .i64 k] W fun e w' => e = .returned (.bool false) ∧ W = w' := fun W => by
      go_enter Tryd.func93, Tryd.ntmps93
      go_wp2_with (go_at_call 128; refine (KB.out _).mono ?_; rintro e w' ⟨rfl, rfl⟩)
      go_ret
      exact ⟨rfl, rfl⟩
    have KI := Lib.hid KI
    rw [hs]
    clear hb h hs KB
    go_enter Tryd.func95, Tryd.ntmps95
    go_wp2_with (go_at_call 93; refine (KI.out _).mono ?_; rintro e w' ⟨rfl, rfl⟩)
    go_ret
    exact ⟨rfl, by first | exact Below.refl _ _ | exact (Below.refl _ _).alloc (Nat.le_refl _) _⟩
/-- a recorded session -/
def startT (t : Tri) : ByteArray := startW ++ mtext t
def recL (t : Tri) (s : RS) : List ByteArray := startT t :: (s.tr.map sname ++ [showT s.m, endW])
def hasSet (L : List Ins) : Bool := L.any (fun x => x.op == 1)
noncomputable def rcC (L : List Ins) (t : Tri) : Int :=
  if (vmach t && vprog L) = false then 1 else if hasSet L then 6 else if (endR L t).code ≠ 0 then (endR L t).code else if (recL t (endR L t)).length > 100 then 5 else 0
noncomputable def rcR (L : List Ins) (t : Tri) : List ByteArray := if rcC L t = 0 then recL t (endR L t) else []
theorem rcR_len (L : List Ins) (t : Tri) : (rcR L t).length ≤ 100 := by
  unfold rcR
  split
  · rename_i h
    unfold rcC at h
    split at h
    · cases h
    · split at h
      · cases h
      · split at h
        · rename_i h1; exact absurd h h1
        · split at h
          · cases h
          · omega
  · simp
theorem rc_bad {L : List Ins} {t : Tri} (h : (vmach t && vprog L) = false) : rcC L t = 1 ∧ rcR L t = [] := by
  have h1 : rcC L t = 1 := by unfold rcC; rw [if_pos h]
  exact ⟨h1, by unfold rcR; rw [h1, if_neg (by decide)]⟩
theorem rc_set {L : List Ins} {t : Tri} (h : (vmach t && vprog L) = true) (hs : hasSet L = true) : rcC L t = 6 ∧ rcR L t = [] := by
  have h1 : rcC L t = 6 := by unfold rcC; rw [if_neg (by rw [h]; decide), if_pos hs]
  exact ⟨h1, by unfold rcR; rw [h1, if_neg (by decide)]⟩
theorem rc_code {L : List Ins} {t : Tri} (h : (vmach t && vprog L) = true) (hs : hasSet L = false) {s' : RS} {b' : Bool} (he : Ev L (.run 0 L.length) (startR t) s' b') (hc : s'.code ≠ 0) : rcC L t = s'.code ∧ rcR L t = [] := by
  have h1 : rcC L t = s'.code := by unfold rcC; rw [if_neg (by rw [h]; decide), hs, if_neg (by decide), endR_eq he, if_pos hc]
  exact ⟨h1, by unfold rcR; rw [h1, if_neg hc]⟩
theorem rc_fine {L : List Ins} {t : Tri} (h : (vmach t && vprog L) = true) (hs : hasSet L = false) {s' : RS} {b' : Bool} (he : Ev L (.run 0 L.length) (startR t) s' b') (hc : s'.code = 0) : rcC L t = (if (recL t s').length > 100 then 5 else 0) ∧ rcR L t = (if (recL t s').length > 100 then [] else recL t s') := by
  have h1 : rcC L t = (if (recL t s').length > 100 then 5 else 0) := by
    unfold rcC; rw [if_neg (by rw [h]; decide), hs, if_neg (by decide), endR_eq he, if_neg (fun h => h hc)]
  refine ⟨h1, ?_⟩
  unfold rcR
  rw [h1, endR_eq he]
  by_cases hl : (recL t s').length > 100
  · rw [if_pos hl, if_neg (by decide), if_pos hl]
  · rw [if_neg hl, if_pos rfl, if_neg hl]
theorem hasSet_take_succ {L : List Ins} {k : Nat} (h : k < L.length) : hasSet (L.take (k + 1)) = (hasSet (L.take k) || (L[k].op == 1)) := by
  unfold hasSet
  rw [List.take_succ_eq_append_getElem h, List.any_append]; simp
theorem hasSet_at {L : List Ins} {k : Nat} (h : k < L.length) (h1 : (L[k].op == 1) = true) : hasSet L = true := by
  unfold hasSet
  rw [List.any_eq_true]
  exact ⟨_, List.getElem_mem h, h1⟩
theorem mtext_size {t : Tri} (hv : vmach t = true) : (mtext t).size ≤ 300 := by
  obtain ⟨o1, o2, o3, y0, y1⟩ := vmach_parts hv
  have l1 := rtext_len t.a
  have l2 := rtext_len t.b
  have l3 := rtext_len t.s
  have l4 := dec_len t.carry (by omega) (by omega)
  unfold mtext
  rw [if_pos hv]
  unfold mtextL
  have e1 : (⟨#[32]⟩ : ByteArray).size = 1 := rfl
  simp only [ByteArray.size_append, size_mk, e1]
  omega
theorem small_of' {t : Tri} (h : vmach t = true) : SmallTri t := by
  have hz := sized_of h
  exact ⟨by have := hz.a; unfold SmallReg; omega, by have := hz.b; unfold SmallReg; omega, by have := hz.s; unfold SmallReg; omega⟩
end Go.Proofs.YtcapccadpbiecaaDoor

namespace Go.Proofs.YtcapccadpbiecaaDoor
open Go.RowKit Go.Sort
theorem rowT_ne (X : Option Addr) (x : Nat) (L : List ByteArray) (A : Option Addr) (c : Nat) (ds : List Int) : rowT X x L ≠ rowI A c ds := by
  intro h
  unfold rowT rowSN rowI at h
  injection h with h1 h2
  revert h2
  decide
theorem SesI.pull {e : Ent} {w0 w : World} {g : Nat} {s : SS} (h : SesI [e] w0 g s w) (he : ∀ A c ds, e ≠ rowI A c ds) : ∃ U1 u1 U2 u2 U3 u3 A1 c1 A2 c2 A3 c3 SA sc BA bc m, Kn w0 (e :: .blk g [.int .i64 s.start.a.base, .slice U1 s.start.a.digits.length u1, .int .i64 s.start.b.base, .slice U2 s.start.b.digits.length u2, .int .i64 s.start.s.base, .slice U3 s.start.s.digits.length u3, .int .i64 s.start.carry, .int .i64 s.m.a.base, .slice A1 s.m.a.digits.length c1, .int .i64 s.m.b.base, .slice A2 s.m.b.digits.length c2, .int .i64 s.m.s.base, .slice A3 s.m.s.digits.length c3, .int .i64 s.m.carry, .slice SA s.str.length sc, .slice BA s.bel.length bc, .bool s.ended] 104 :: rowI SA sc s.str :: rowI BA bc s.bel :: m) w ∧ Own3 m U1 u1 U2 u2 U3 u3 s.start ∧ Own3 m A1 c1 A2 c2 A3 c3 s.m := by
  obtain ⟨U1, u1, U2, u2, U3, u3, A1, c1, A2, c2, A3, c3, SA, sc, BA, bc, m, hK, ⟨hu, hF⟩, hm⟩ := h
  obtain ⟨l1, l2, rfl⟩ := List.append_of_mem (hF e (List.mem_cons_self ..))
  have hsub : ∀ A c ds, rowI A c ds ∈ l1 ++ e :: l2 → rowI A c ds ∈ l1 ++ l2 := fun A c ds hx => by
    rcases List.mem_append.1 hx with hx | hx
    · exact List.mem_append_left _ hx
    · rcases List.mem_cons.1 hx with hx | hx
      · exact absurd hx.symm (he A c ds)
      · exact List.mem_append_right _ hx
  exact ⟨U1, u1, U2, u2, U3, u3, A1, c1, A2, c2, A3, c3, SA, sc, BA, bc, l1 ++ l2, hK.perm (List.perm_middle (a := e) (l₁ := .blk g [.int .i64 s.start.a.base, .slice U1 s.start.a.digits.length u1, .int .i64 s.start.b.base, .slice U2 s.start.b.digits.length u2, .int .i64 s.start.s.base, .slice U3 s.start.s.digits.length u3, .int .i64 s.start.carry, .int .i64 s.m.a.base, .slice A1 s.m.a.digits.length c1, .int .i64 s.m.b.base, .slice A2 s.m.b.digits.length c2, .int .i64 s.m.s.base, .slice A3 s.m.s.digits.length c3, .int .i64 s.m.carry, .slice SA s.str.length sc, .slice BA s.bel.length bc, .bool s.ended] 104 :: rowI SA sc s.str :: rowI BA bc s.bel :: l1) (l₂ := l2)),
    ⟨hsub _ _ _ hu.1, hsub _ _ _ hu.2.1, hsub _ _ _ hu.2.2⟩, ⟨hsub _ _ _ hm.1, hsub _ _ _ hm.2.1, hsub _ _ _ hm.2.2⟩⟩
theorem SesI.push {e : Ent} {w0 w : World} {g : Nat} {s : SS} {U1 U2 U3 A1 A2 A3 SA BA : Option Addr} {u1 u2 u3 c1 c2 c3 sc bc : Nat} {m : List Ent} (hK : Kn w0 (e :: .blk g [.int .i64 s.start.a.base, .slice U1 s.start.a.digits.length u1, .int .i64 s.start.b.base, .slice U2 s.start.b.digits.length u2, .int .i64 s.start.s.base, .slice U3 s.start.s.digits.length u3, .int .i64 s.start.carry, .int .i64 s.m.a.base, .slice A1 s.m.a.digits.length c1, .int .i64 s.m.b.base, .slice A2 s.m.b.digits.length c2, .int .i64 s.m.s.base, .slice A3 s.m.s.digits.length c3, .int .i64 s.m.carry, .slice SA s.str.length sc, .slice BA s.bel.length bc, .bool s.ended] 104 :: rowI SA sc s.str :: rowI BA bc s.bel :: m) w) (hu : Own3 m U1 u1 U2 u2 U3 u3 s.start) (hm : Own3 m A1 c1 A2 c2 A3 c3 s.m) : SesI [e] w0 g s w :=
  ⟨U1, u1, U2, u2, U3, u3, A1, c1, A2, c2, A3, c3, SA, sc, BA, bc, e :: m, hK.sel [1, 2, 3, 0] 4 (by decide) (by decide), ⟨hu.mono (fun x h => List.mem_cons_of_mem _ h), fun x h => by simp at h; simp [h]⟩, hm.mono (fun x h => List.mem_cons_of_mem _ h)⟩
/-- the shown session, so far -/
def ShSt (ss : List ByteArray) (t0 : Tri) (k : Nat) (O : List ByteArray) (s : SS) : Prop :=
  (k = 0 ∧ O = [] ∧ s.m = t0) ∨ (1 ≤ k ∧ k < ss.length ∧ O ++ restL s.m (ss.drop k) = shL ss ∧ OkEnd s.m (ss.drop k)) ∨ (k = ss.length ∧ O = shL ss)
theorem sh_first {ss : List ByteArray} {t : Tri} {L : ByteArray} {tl : List ByteArray} {s : SS} (h1 : ss = L :: tl) (h2 : OkEnd t tl) (h3 : shL ss = L :: restL t tl) (hm : s.m = t) : ShSt ss t 1 ([] ++ [L]) s := by
  refine .inr (.inl ⟨Nat.le_refl _, ?_, ?_, ?_⟩)
  · rw [h1]
    have := h2.ne
    cases tl with
    | nil => exact absurd rfl this
    | cons a b => simp
  · rw [h3, hm, h1]; rfl
  · rw [hm, h1]; exact h2
theorem sh_last {ss : List ByteArray} {t : Tri} {k : Nat} {O : List ByteArray} {s : SS} {z : ByteArray} (h1 : k < ss.length) (h2 : O ++ restL s.m (ss.drop k) = shL ss) (h3 : OkEnd s.m (ss.drop k)) (hd : ss.drop k = [z]) : z = endW ∧ k + 1 = ss.length ∧ ShSt ss t (k + 1) (O ++ [z]) s := by
  rw [hd] at h2 h3
  have hk : k + 1 = ss.length := by
    have := congrArg List.length hd
    rw [List.length_drop] at this
    simp at this; omega
  refine ⟨h3.last, hk, .inr (.inr ⟨hk, ?_⟩)⟩
  rw [← h2]; unfold restL; simp
theorem sh_skip {ss : List ByteArray} {t : Tri} {k : Nat} {O : List ByteArray} {s : SS} {z : ByteArray} {r : List ByteArray} (h2 : O ++ restL s.m (ss.drop k) = shL ss) (h3 : OkEnd s.m (ss.drop k)) (hd : ss.drop k = z :: r) (hr : r ≠ []) (hk : k + 1 < ss.length) (hrr : ss.drop (k + 1) = r) (hb : begins showB (strB z) = true) : ShSt ss t (k + 1) O s := by
  rw [hd] at h2 h3
  obtain ⟨e1, e2, e3⟩ := h3.cons hr
  rw [show_step hb e1] at e3
  refine .inr (.inl ⟨by omega, hk, ?_, by rw [hrr]; exact e3⟩)
  rw [hrr, ← h2]
  conv => rhs; unfold restL
  rw [if_neg hr, if_pos hb]
theorem sh_step {ss : List ByteArray} {t : Tri} {k : Nat} {O : List ByteArray} {s : SS} {z : ByteArray} {r : List ByteArray} (h2 : O ++ restL s.m (ss.drop k) = shL ss) (h3 : OkEnd s.m (ss.drop k)) (hd : ss.drop k = z :: r) (hr : r ≠ []) (hk : k + 1 < ss.length) (hrr : ss.drop (k + 1) = r) (hb : begins showB (strB z) = false) :
    strB z ≠ endB ∧ ∀ s' : SS, s'.m = (stepM s.m (strB z)).1 → ShSt ss t (k + 1) ((O ++ [z]) ++ [showT s'.m]) s' := by
  rw [hd] at h2 h3
  obtain ⟨e1, e2, e3⟩ := h3.cons hr
  refine ⟨e2, fun s' hs => .inr (.inl ⟨by omega, hk, ?_, by rw [hrr, hs]; exact e3⟩)⟩
  rw [hrr, ← h2, hs]
  conv => rhs; unfold restL
  rw [if_neg hr, hb, if_neg (by decide)]
  simp
set_option maxRecDepth 100000 in
set_option maxHeartbeats 6400000 in
theorem ShownSession_any (A : Option Addr) (n c : Nat) (ss : List ByteArray) (w : World) (hr : RL StrM 1 w A n ss) (hsz : ∀ s ∈ ss, s.size ≤ 1048576) (ht : TB w) :
    Calls Tryd.prog 15 #[.slice A n c] w (SCRet (shR ss) (shC ss) w) := by
  have KW := (wholeSession_any A n c ss w hr hsz ht)
  unfold WholeI at KW
  have hl := hr.1
  have HTB := Lib.hid (fun W (hW : Below w.heap.size w W) => TB.below ht hW)
  have HR := Lib.hid (fun W (hW : Below w.heap.size w W) => hr.below steady_StrM hW)
  have HZ := Lib.hid hsz
  have HT := Lib.hid ht
  clear hr hsz ht
  by_cases hC : wholeC (ss.map strB) = 0
  rotate_left
  · have e1 : shC ss = wholeC (ss.map strB) := by unfold shC; rw [if_neg hC]
    have e2 : shR ss = [] := by unfold shR; rw [e1, if_neg hC]
    rw [e1, e2]
    obtain ⟨C, hCC⟩ : ∃ C, wholeC (ss.map strB) = C := ⟨_, rfl⟩
    rw [hCC] at KW hC ⊢
    replace KW := Lib.hid KW
    have HC := Lib.hid hC
    clear e1 e2 hCC
    go_enter Tryd.func15, Tryd.ntmps15
    go_wp2_with fail
    refine KW.out.mono ?_; rintro e w1 (⟨h0, -⟩ | ⟨-, rfl, hw⟩)
    · exact absurd h0 HC.out
    have hcb : (C == 0) = false := by simpa using hC
    clear hC
    go_wp2_with fail
    go_ret2
    exact SCRet.none hw
  · obtain ⟨h100, L, tl, hss, hst, hvt, hok, hstart⟩ := whole_lines hC
    rw [hC] at KW
    have e1 : shC ss = if (shL ss).length > 100 then 5 else 0 := by unfold shC; rw [if_pos hC]
    have e2 : shR ss = if (shL ss).length > 100 then [] else shL ss := by
      unfold shR; rw [e1]
      by_cases h : (shL ss).length > 100
      · rw [if_pos h, if_neg (by decide), if_pos h]
      · rw [if_neg h, if_pos rfl, if_neg h]
    rw [e1, e2]
    obtain ⟨t, htt⟩ : ∃ t, rdMach ((strB L).drop 6) = t := ⟨_, rfl⟩
    have hsL : shL ss = L :: restL t tl := by rw [hss, ← htt]; rfl
    rw [htt] at hvt hok hstart
    have hrl := restL_len tl t
    have htl : tl.length + 1 = ss.length := by rw [hss]; rfl
    obtain ⟨s0, hs0⟩ : ∃ s, (runS (ss.map strB)).1 = s := ⟨_, rfl⟩
    rw [hs0] at KW hstart
    replace KW := Lib.hid KW
    have HSL := Lib.hid hsL
    have HOK := Lib.hid hok
    have HSS := Lib.hid hss
    have HST := Lib.hid (start_not_show hst).1
    have hshl : (shL ss).length ≤ 301 := by rw [hsL, List.length_cons]; omega
    have hne := hok.ne
    have hn2 : 2 ≤ n := by
      rw [← hl, hss]
      cases tl with
      | nil => exact absurd rfl hne
      | cons a b => simp
    obtain ⟨SH, hSH⟩ : ∃ l, shL ss = l := ⟨_, rfl⟩
    rw [hSH] at hshl ⊢
    obtain ⟨RS, hRS⟩ : ∃ x : List ByteArray, (if SH.length > 100 then [] else SH) = x := ⟨_, rfl⟩
    obtain ⟨RC, hRC⟩ : ∃ x : Int, (if SH.length > 100 then 5 else 0) = x := ⟨_, rfl⟩
    rw [hRS, hRC]
    have HRS := Lib.hid hRS
    have HRC := Lib.hid hRC
    clear hRS hRC
    have HSH := Lib.hid hSH
    have HL := Lib.hid hl
    clear hC e1 e2 hs0 hst hss hsL hok htl hrl hne htt hSH hl
    go_enter Tryd.func15, Tryd.ntmps15
    go_wp2_with fail
    refine KW.out.mono ?_; rintro e w1 (⟨-, g, rfl, hS⟩ | ⟨h0, -⟩)
    rotate_left
    · exact absurd rfl h0
    obtain ⟨U1, u1, U2, u2, U3, u3, A1, c1, A2, c2, A3, c3, SA, sc, BA, bc, m, hK, ⟨hu, -⟩, -⟩ := hS
    rw [hstart] at hK hu
    clear hstart
    obtain ⟨a1, a2, a3⟩ := hK.blkAt
    have HG := Lib.hid (box7' hK.drew)
    have hKa := hK.al [.int .i64 t.a.base, .slice U1 t.a.digits.length u1, .int .i64 t.b.base, .slice U2 t.b.digits.length u2, .int .i64 t.s.base, .slice U3 t.s.digits.length u3, .int .i64 t.carry, .int .i64 t.a.base, .slice U1 t.a.digits.length u1, .int .i64 t.b.base, .slice U2 t.b.digits.length u2, .int .i64 t.s.base, .slice U3 t.s.digits.length u3, .int .i64 t.carry, .slice none 0 0, .slice none 0 0, .bool false] 104
    have HA := Lib.hid (box7' (hKa.front 1 rfl).drew)
    go_upto_region 4 with fail
    go_region_held3 (fun W => W.cell? ⟨g, 0, none⟩ = some (.int .i64 t.a.base) ∧ W.cell? ⟨g, 1, none⟩ = some (.slice U1 t.a.digits.length u1) ∧ W.cell? ⟨g, 2, none⟩ = some (.int .i64 t.b.base) ∧ W.cell? ⟨g, 3, none⟩ = some (.slice U2 t.b.digits.length u2) ∧ W.cell? ⟨g, 4, none⟩ = some (.int .i64 t.s.base) ∧ W.cell? ⟨g, 5, none⟩ = some (.slice U3 t.s.digits.length u3) ∧ W.cell? ⟨g, 6, none⟩ = some (.int .i64 t.carry))
      (first | with_reducible exact HG.out | with_reducible exact HA.out) (fail)
    all_goals
      go_upto_region 6 with fail
      have hKb := (hKa.al [] 9).drew
      simp only [World.size_alloc] at hKb
      refine Code.wp.kn hKb ?_; intro w3 hK3
      obtain ⟨g2, hg2⟩ : ∃ g, w1.heap.size = g := ⟨_, rfl⟩
      rw [hg2] at hK3 ⊢
      have hK4 := ((hK3.litRow (n := 0) (size := 1) rfl (by decide)).nilRow 2 1).nilRow 2 1
      have hS2 : SesI [rowT (some ⟨g2 + 1, 0, none⟩) 0 []] w g2 ⟨t, t, [], [], false⟩ w3 := SesI.push (s := ⟨t, t, [], [], false⟩) (SA := none) (sc := 0) (BA := none) (bc := 0) (hK4.sel [2, 3, 0, 1] 4 (by decide) (by decide)) (hu.mono (fun e h => by simp [h])) (hu.mono (fun e h => by simp [h]))
      clear HG HA hKa hKb hK hK3 hK4 a1 a2 a3 hg2
      go_wp2_with fail
      go_loopw [33, 7, 8, 9, 10, 11] (fun ii v _ _ _ _ wr => ∃ (k : Nat) (O : List ByteArray) (X : Option Addr) (x : Nat) (s : SS), k ≤ n ∧ ii = .int .i64 k ∧ v = .slice X O.length x ∧ SesI [rowT X x O] w g2 s wr ∧ s.Good k ∧ s.ended = false ∧ O.length ≤ 2 * k ∧ ShSt ss t k O s) (fun ii _ _ _ _ _ _ => n - (intOf ii).toNat)
      case atStart => exact ⟨0, [], _, _, _, Nat.zero_le _, rfl, rfl, hS2, ⟨hvt, hvt, by simp, by simp⟩, rfl, by simp, .inl ⟨rfl, rfl, rfl⟩⟩
      case round =>
        clear hS2 hvt hu
        obtain ⟨k, O, X, x, s, hk, rfl, rfl, hS, hg, hen, hOl, hSt⟩ := hrel
        have hb := hS.below
        have hO10 : O.length ≤ 10000000 := by have := HL.out; omega
        by_cases hkn : k < n
        · obtain ⟨ad, hA, hlt, hkl, hx⟩ := (HR.out wr hb).at_ hkn
          have hx0 : wr.cell? (ad.add k) = some (.string ss[k]) := by have h : wr.cell? (ad.add (k * 1)) = some (.string ss[k]) := hx; rw [Nat.mul_one] at h; exact h
          have hzz := HZ.out _ (List.getElem_mem hkl)
          have hdr : ss.drop k = ss[k] :: ss.drop (k + 1) := List.drop_eq_getElem_cons hkl
          have hdn : k + 1 < ss.length ↔ ss.drop (k + 1) ≠ [] := by
            rw [ne_eq, List.drop_eq_nil_iff]; omega
          obtain ⟨z, hz⟩ : ∃ z, ss[k] = z := ⟨_, rfl⟩
          have HZ0 := Lib.hid hz
          rw [hz] at hx0 hzz hdr
          obtain ⟨r, hrr⟩ : ∃ r, ss.drop (k + 1) = r := ⟨_, rfl⟩
          rw [hrr] at hdr hdn
          have HRR := Lib.hid hrr
          have hi0 : (0 : Int) ≤ (k : Int) := by omega
          have hi1 : (k : Int) < (n : Int) := by omega
          subst hA
          clear hx hz hrr
          have hll := HL.out
          obtain ⟨U1, u1, U2, u2, U3, u3, A1, c1, A2, c2, A3, c3, SA, sc, BA, bc, m, hK, hu, hm⟩ := hS.pull (rowT_ne X x O)
          have hA : Kn w (.blk wr.heap.size [.string z] 9 :: rowS (.slice X O.length x) O :: _) _ := hK.al [.string z] 9
          rcases hSt with ⟨rfl, rfl, hmt⟩ | ⟨k1, k2, hsh, hoe⟩ | ⟨hke, -⟩
          · have hzL : z = L := by
              have h1 := HZ0.out
              have h2 := HSS.out
              subst h2
              exact h1.symm
            have HB := showNo hzz (by rw [hzL]; exact HST.out)
            have hx1 : wr.cell? ad = some (.string z) := by rw [show ad.add 0 = ad from by cases ad; simp [Addr.add]] at hx0; exact hx0
            have HNX := Lib.hid (show ShSt ss t 1 ([] ++ [z]) s by rw [hzL]; exact sh_first HSS.out HOK.out HSL.out hmt)
            clear hmt hzL
            go_wp2_with (first | (go_at_call 75; refine (HB.out _).mono ?_; rintro e w2 ⟨rfl, rfl⟩) | (at_builtin; refine kn_pushS rfl _ _ rfl (.slice X ([] : List ByteArray).length x) [] rfl rfl hA (by decide) ?_; intro v5 w5 hK5))
            obtain ⟨X5, x5, rfl⟩ := row_form hK5.at0
            go_roundw
            case rel => exact ⟨1, [] ++ [z], X5, x5, s, by omega, by go_num, rfl, SesI.push (e := rowT X5 x5 ([] ++ [z])) hK5 hu hm, hg.mono (by omega), hen, by simp, HNX.out⟩
            case measure => simp [intOf]; omega
          · have i0 : ((k : Int) == 0) = false := by rw [beq_eq_false_iff_ne]; omega
            by_cases hr0 : r = []
            · subst hr0
              obtain ⟨hz, hk1, hnx⟩ := sh_last (t := t) k2 hsh hoe hdr
              have i1 : ((k : Int) == (n : Int) - 1) = true := by rw [beq_iff_eq]; omega
              have HB := showNo hzz (by rw [hz]; decide)
              have HNX := Lib.hid hnx
              clear hz hnx hsh hoe hdr
              go_wp2_with (first | (go_at_call 75; refine (HB.out _).mono ?_; rintro e w2 ⟨rfl, rfl⟩) | (at_builtin; refine kn_pushS rfl _ _ rfl (.slice X O.length x) O rfl rfl hA hO10 ?_; intro v5 w5 hK5))
              obtain ⟨X5, x5, rfl⟩ := row_form hK5.at0
              go_roundw
              case rel => exact ⟨k + 1, O ++ [z], X5, x5, s, by omega, by go_num, rfl, SesI.push (e := rowT X5 x5 (O ++ [z])) hK5 hu hm, hg.mono (by omega), hen, by simp; omega, HNX.out⟩
              case measure => simp [intOf]; omega
            · have hk1 := hdn.2 hr0
              have i1 : ((k : Int) == (n : Int) - 1) = false := by rw [beq_eq_false_iff_ne]; omega
              rcases hbz : begins showB (strB z) with _ | _
              · obtain ⟨hz, hnx⟩ := sh_step (t := t) hsh hoe hdr hr0 hk1 HRR.out hbz
                have HB := showNo hzz hbz
                obtain ⟨f1, -, f3, -⟩ := lineS_step (i := (k : Int)) (b := strB z) hen
                have hgn := lineS_good (i := (k : Int)) (bs := strB z) hg
                have HLN := Lib.hid (show ∀ (F : List Ent) (W : World), SesI F w g2 s W → Calls Tryd.prog 76 #[.pointer (some ⟨g2, 0, none⟩), .int .i64 k, .string z] W fun e w' => e = .returned (.int .i64 (lineS s k (strB z)).2) ∧ SesI F w g2 (lineS s k (strB z)).1 w' from fun F W hS => lineI_any s k z W hS hg (by omega) hzz HT.out)
                obtain ⟨⟨s', cd⟩, hls⟩ : ∃ q, lineS s k (strB z) = q := ⟨_, rfl⟩
                rw [hls] at HLN f1 f3 hgn
                have f3' : s'.ended = false := by rw [f3, decide_eq_false hz]
                have HNX := Lib.hid (hnx s' f1)
                have hvt' := hgn.m
                obtain ⟨t', ht'⟩ : ∃ t, s'.m = t := ⟨_, rfl⟩
                have hsm := small_of hvt'
                have HMT := (fun (A1 A2 A3 : Option Addr) (c1 c2 c3 : Nat) W r1 r2 r3 hw => MachineText_any s'.m A1 A2 A3 c1 c2 c3 W r1 r2 r3 hsm hw)
                have hsT : showT s'.m = (⟨#[115, 104, 111, 119, 32]⟩ : ByteArray) ++ mtext s'.m := rfl
                have hTs := mtext_size hvt'
                obtain ⟨T, hT⟩ : ∃ T, mtext s'.m = T := ⟨_, rfl⟩
                rw [hT] at HMT hsT hTs
                rw [hsT] at HNX
                replace HMT := Lib.hid HMT
                obtain ⟨O2, hO2⟩ : ∃ l, O ++ [z] = l := ⟨_, rfl⟩
                rw [hO2] at HNX
                have HO2 := Lib.hid hO2
                have HO2L := Lib.hid (show O2.length = O.length + 1 by rw [← hO2]; simp)
                clear hsh hoe hdr hbz f1 f3 hls hz hnx hT hsT ht' hvt' hsm hO2
                go_wp2_with (first | (go_at_call 75; refine (HB.out _).mono ?_; rintro e w2 ⟨rfl, rfl⟩) | (at_builtin; refine kn_pushS rfl _ _ rfl (.slice X O.length x) O rfl rfl hA hO10 ?_; intro v5 w5 hK5; rw [HO2.out] at hK5; obtain ⟨X5, x5, rfl⟩ := row_form hK5.at0))
                refine (HLN.out [rowT X5 x5 O2] _ (SesI.push (e := rowT X5 x5 O2) hK5 hu hm)).mono ?_; rintro e w6 ⟨rfl, hS6⟩
                clear hK hA hK5 hu hm
                obtain ⟨U1, u1, U2, u2, U3, u3, A1, c1, A2, c2, A3, c3, SA, sc, BA, bc, m, hK6, hu, hm⟩ := hS6.pull (rowT_ne X5 x5 _)
                obtain ⟨a1, a2, a3, -⟩ := hK6.cells
                obtain ⟨r1, r2, r3⟩ := hm.ri hK6 (fun e h => by simp [h])
                go_wp2_with fail
                refine (HMT.out _ _ _ _ _ _ _ r1 r2 r3 (HTB.out _ hK6.below)).mono ?_; rintro e w7 ⟨rfl, hw7⟩
                have hK7 := hK6.keep hw7
                clear a1 a2 a3 r1 r2 r3 hK6
                obtain ⟨z2, hz2⟩ : ∃ q : ByteArray, (⟨#[115, 104, 111, 119, 32]⟩ : ByteArray) ++ T = q := ⟨_, rfl⟩
                rw [hz2] at HNX
                have HZ2 := Lib.hid hz2
                have hA : Kn w (.blk w7.heap.size [.string ((⟨#[115, 104, 111, 119, 32]⟩ : ByteArray) ++ T)] 9 :: rowS (.slice X5 O2.length x5) O2 :: _) _ := hK7.al [.string ((⟨#[115, 104, 111, 119, 32]⟩ : ByteArray) ++ T)] 9
                have hO11 : O2.length ≤ 10000000 := by have := HL.out; have := HO2L.out; omega
                clear hz2
                go_wp2_with (at_builtin; refine kn_pushS rfl _ _ rfl (.slice X5 O2.length x5) O2 rfl rfl hA hO11 ?_; intro v8 w8 hK8)
                obtain ⟨X8, x8, rfl⟩ := row_form hK8.at0
                go_roundw
                case rel =>
                  rw [HZ2.out] at hK8
                  refine ⟨k + 1, O2 ++ [z2], X8, x8, s', by omega, by go_num, ?_, SesI.push (e := rowT X8 x8 (O2 ++ [z2])) hK8 hu hm, hgn, f3', by have := HO2L.out; simp; omega, HNX.out⟩
                  first | rfl | simp
                case measure => simp [intOf]; omega
              · obtain ⟨R, -, -, hRc⟩ := showYes hzz hbz
                have HB := Lib.hid hRc
                have HNX := Lib.hid (sh_skip (t := t) hsh hoe hdr hr0 hk1 HRR.out hbz)
                clear hsh hoe hdr hbz hRc
                go_wp2_with (first | (go_at_call 75; refine (HB.out _).mono ?_; rintro e w2 ⟨rfl, rfl⟩))
                go_roundw
                case rel => exact ⟨k + 1, O, X, x, s, by omega, by go_num, rfl, hS, hg.mono (by omega), hen, by omega, HNX.out⟩
                case measure => simp [intOf]; omega
          · omega
        · have hkk : k = n := by omega
          have hi1 : ¬ (k : Int) < (n : Int) := by omega
          have hOS : O = SH := by
            have hll := HL.out
            rcases hSt with ⟨h, -⟩ | ⟨-, h, -⟩ | ⟨-, h⟩
            · omega
            · omega
            · rw [h, HSH.out]
          obtain ⟨U1, u1, U2, u2, U3, u3, A1, c1, A2, c2, A3, c3, SA, sc, BA, bc, m, hK, -, -⟩ := hS.pull (rowT_ne X x O)
          subst hOS
          clear hS hSt
          by_cases h1 : O.length > 100
          · have h2 : (100 : Int) < (O.length : Int) := by omega
            have h3 := HRS.out
            have h4 := HRC.out
            rw [if_pos h1] at h3 h4
            subst h3
            subst h4
            go_wp2_with fail
            go_ret2
            exact SCRet.none hb
          · have h2 : ¬ (100 : Int) < (O.length : Int) := by omega
            have h3 := HRS.out
            have h4 := HRC.out
            rw [if_neg h1] at h3 h4
            subst h3
            subst h4
            go_wp2_with fail
            go_ret2
            exact ⟨X, x, rfl, hK.only (by simp)⟩
end Go.Proofs.YtcapccadpbiecaaDoor

namespace Go.Proofs.YtcapccadpbiecaaDoor
open Go.RowKit Go.Sort
theorem kn_step2S {ops : Array Oper} {o : Oper} {a : Act} {Q : Exit → Act → World → Prop} {w0 w : World} {m : List Ent} {K : Act → World → Prop} {E : Prop} (hgd : o.guard = none) (s x : Operand) (ho : o.op = .call { callee := .builtin .append, args := #[s, x], argTypes := #[22, 22] })
    (v : Value) (ss : List ByteArray) (hs : a.eval s = v) {g c : Nat} {T' : TypeId} {y z : ByteArray} (hx : a.eval x = .slice (some ⟨g, 0, none⟩) 2 c)
    (hK : Kn w0 (.blk g [.string y, .string z] T' :: rowS v ss :: m) w) (hl : ss.length ≤ 10000000)
    (h : ∀ v' w', Kn w0 (rowS v' (ss ++ [y, z]) :: m) w' → K (a.put o.dst v') w') : if Region.wanted o (yielded ops a.tmps) = true then Oper.wp Tryd.prog o a w K Q else E := by
  refine kn_step_app tpS hgd s x ho v ss.length (ss.map Value.string) hs hx hK rfl (by simp [Value.oneCell']) (by omega) (by omega) (fun v' w' hK' => h v' w' ?_)
  unfold rowS
  rw [List.length_append, List.map_append, List.map_cons, List.map_cons, List.map_nil]
  exact hK'
theorem RL.pre {α : Type} {E : World → Addr → α → Prop} {sz : Nat} {w : World} {A : Option Addr} {n : Nat} {xs : List α} (h : RL E sz w A n xs) {k : Nat} (hk : k ≤ n) : RL E sz w A k (xs.take k) := by
  refine ⟨by rw [List.length_take]; have := h.1; omega, fun h0 => ?_⟩
  obtain ⟨ad, e, hl, hc⟩ := h.2 (by omega)
  exact ⟨ad, e, hl, fun j hj => by
    have hj' : j < xs.length := by rw [List.length_take] at hj; omega
    rw [List.getElem_take]; exact hc j hj'⟩
theorem foldT_take {t : Tri} {l : List (List UInt8)} {k : Nat} (h : k < l.length) : foldT t (l.take (k + 1)) = (stepM (foldT t (l.take k)) l[k]).1 := by
  unfold foldT
  rw [List.take_succ_eq_append_getElem h, List.foldl_append]; rfl
/-- the lines that do not show, of a whole session -/
theorem plain_parts {ss : List ByteArray} {L : ByteArray} {tl : List ByteArray} {t : Tri} (h1 : ss = L :: tl) (hs : startOk (strB L) = true) (ho : OkEnd t tl) (h3 : shL ss = L :: restL t tl) :
    ∃ pb, ss.filter notShow = L :: (pb ++ [endW]) ∧ AllOk t (pb.map strB) ∧ shL ss = L :: restP t (pb ++ [endW]) := by
  obtain ⟨e1, pb, e2, e3⟩ := rest_plain ho
  refine ⟨pb, ?_, e3, by rw [h3, e1, e2]⟩
  rw [h1, List.filter_cons_of_pos (by unfold notShow; rw [(start_not_show hs).2]; rfl), e2]
theorem Kn.rowCap {w0 w : World} {m : List Ent} {g n c size : Nat} {t : TypeId} {xs : List Value} (h : Kn w0 (.row (.slice (some ⟨g, 0, none⟩) n c) t size n xs :: m) w) : n ≤ c := by
  have h0 : w.ownsRow 0 t size (.slice (some ⟨g, 0, none⟩) n c) n xs := h.at0
  rcases h0.2 with ⟨h1, -⟩ | ⟨g', cap, cur, hv, -, -, hn, -⟩
  · cases h1
  · injection hv with hv hv2 hv3
    omega
theorem plain_run {PL pb : List ByteArray} {L : ByteArray} {t : Tri} {j : Nat} (h1 : PL = L :: (pb ++ [endW])) (hs : startOk (strB L) = true) (ht : rdMach ((strB L).drop 6) = t) (ho : AllOk t (pb.map strB)) (hj : j < pb.length) :
    (runS ((PL.take (j + 2)).map strB)).1.m = foldT t ((pb.take (j + 1)).map strB) := by
  have e1 : PL.take (j + 2) = L :: pb.take (j + 1) := by
    rw [h1, List.take_succ_cons, List.take_append_of_le_length (by omega)]
  rw [e1, List.map_cons, runS_cons, if_pos hs, ht]
  exact goS_fold (s := ⟨t, t, [], [], false⟩) rfl (by rw [List.map_take]; exact AllOk.take (t := t) _ ho)
theorem SesS.textAt {w0 w : World} {g : Nat} {s : SS} (h : SesS w0 g s w) : TriM w ⟨g, 7, none⟩ s.m ∧ g < w.heap.size := by
  obtain ⟨U1, u1, U2, u2, U3, u3, A1, c1, A2, c2, A3, c3, SA, sc, BA, bc, m, h, -⟩ := h
  exact ⟨TriC.tri (w := w) (b := g) (o := 7) (t := s.m) ⟨⟨h.blkAt.1 7, h.blkAt.1 8, h.blkAt.1 9, h.blkAt.1 10, h.blkAt.1 11, h.blkAt.1 12, h.blkAt.1 13⟩, (h.front 3 rfl).riv, (h.front 2 rfl).riv, (h.front 1 rfl).riv⟩, h.blkAt.2.2⟩
theorem SesS.keep {w0 w w' : World} {g : Nat} {s : SS} (h : SesS w0 g s w) (hb : Below w.heap.size w w') : SesS w0 g s w' := by
  obtain ⟨U1, u1, U2, u2, U3, u3, A1, c1, A2, c2, A3, c3, SA, sc, BA, bc, m, h, hu⟩ := h
  exact ⟨U1, u1, U2, u2, U3, u3, A1, c1, A2, c2, A3, c3, SA, sc, BA, bc, m, h.keep hb, hu⟩
theorem restP_step {t : Tri} {pb : List ByteArray} {j : Nat} (hj : j < pb.length) : restP (foldT t ((pb.take j).map strB)) ((pb ++ [endW]).drop j) = pb[j] :: showT (foldT t ((pb.take (j + 1)).map strB)) :: restP (foldT t ((pb.take (j + 1)).map strB)) ((pb ++ [endW]).drop (j + 1)) := by
  have hd : (pb ++ [endW]).drop j = pb[j] :: (pb ++ [endW]).drop (j + 1) := by
    rw [List.drop_eq_getElem_cons (by simp; omega), List.getElem_append_left hj]
  have hne : (pb ++ [endW]).drop (j + 1) ≠ [] := by
    rw [ne_eq, List.drop_eq_nil_iff]; simp; omega
  have hf : foldT t ((pb.take (j + 1)).map strB) = (stepM (foldT t ((pb.take j).map strB)) (strB pb[j])).1 := by
    have := foldT_take (t := t) (l := pb.map strB) (k := j) (by rw [List.length_map]; exact hj)
    rw [List.getElem_map] at this
    rw [List.map_take, List.map_take]; exact this
  rw [hd, hf]
  conv => lhs; unfold restP
  rw [if_neg hne]
theorem restP_end {t : Tri} {pb : List ByteArray} : restP t ((pb ++ [endW]).drop pb.length) = [endW] := by
  rw [List.drop_left]
  unfold restP; rfl
set_option maxRecDepth 100000 in
set_option maxHeartbeats 6400000 in
theorem specShownSession_any (A : Option Addr) (n c : Nat) (ss : List ByteArray) (w : World) (hr : RL StrM 1 w A n ss) (hsz : ∀ s ∈ ss, s.size ≤ 1048576) :
    Calls Tryd.prog 13 #[.slice A n c] w (SCRet (shR ss) (shC ss) w) := by
  have KW := (l24Ask_any A n c ss w hr hsz)
  unfold WholeS at KW
  have hl := hr.1
  have HR := Lib.hid (fun W (hW : Below w.heap.size w W) => hr.below steady_StrM hW)
  have HZ := Lib.hid hsz
  clear hr
  by_cases hC : wholeC (ss.map strB) = 0
  rotate_left
  · have e1 : shC ss = wholeC (ss.map strB) := by unfold shC; rw [if_neg hC]
    have e2 : shR ss = [] := by unfold shR; rw [e1, if_neg hC]
    rw [e1, e2]
    obtain ⟨C, hCC⟩ : ∃ C, wholeC (ss.map strB) = C := ⟨_, rfl⟩
    rw [hCC] at KW hC ⊢
    replace KW := Lib.hid KW
    have HC := Lib.hid hC
    clear e1 e2 hCC hsz
    go_enter Tryd.func13, Tryd.ntmps13
    go_wp2_with fail
    refine KW.out.mono ?_; rintro e w1 (⟨h0, -⟩ | ⟨-, g, rfl, hw⟩)
    · exact absurd h0 HC.out
    have hcb : (C == 0) = false := by simpa using hC
    clear hC
    go_wp2_with fail
    go_ret2
    exact SCRet.none hw
  · obtain ⟨h100, L, tl, hss, hst, hvt, hok, hstart⟩ := whole_lines hC
    rw [hC] at KW
    have e1 : shC ss = if (shL ss).length > 100 then 5 else 0 := by unfold shC; rw [if_pos hC]
    have e2 : shR ss = if (shL ss).length > 100 then [] else shL ss := by
      unfold shR; rw [e1]
      by_cases h : (shL ss).length > 100
      · rw [if_pos h, if_neg (by decide), if_pos h]
      · rw [if_neg h, if_pos rfl, if_neg h]
    rw [e1, e2]
    obtain ⟨t, htt⟩ : ∃ t, rdMach ((strB L).drop 6) = t := ⟨_, rfl⟩
    have hsL : shL ss = L :: restL t tl := by rw [hss, ← htt]; rfl
    have HTT := Lib.hid htt
    rw [htt] at hvt hok
    obtain ⟨pb, hpl, hpo, hps⟩ := plain_parts hss hst hok hsL
    have KP := Lib.hid (fun W (hW : Below w.heap.size w W) => l24Plain_any A n c ss W (HR.out W hW) (by omega) hsz)
    obtain ⟨PL, hPL⟩ : ∃ l, ss.filter notShow = l := ⟨_, rfl⟩
    rw [hPL] at KP hpl
    have hPn : PL.length ≤ 100 := by rw [← hPL]; exact Nat.le_trans (List.length_filter_le _ _) h100
    have HPM := Lib.hid (show PL.length = pb.length + 2 by rw [hpl]; simp)
    have hPz : ∀ s ∈ PL, s.size ≤ 1048576 := fun s h => hsz s (by rw [← hPL] at h; exact (List.mem_filter.1 h).1)
    have HPZ := Lib.hid hPz
    have HPL := Lib.hid hpl
    have HPO := Lib.hid hpo
    have HST := Lib.hid hst
    obtain ⟨SH, hSH⟩ : ∃ l, shL ss = l := ⟨_, rfl⟩
    rw [hSH] at hps
    have HPS := Lib.hid hps
    replace KW := Lib.hid KW
    rw [hSH]
    obtain ⟨RS, hRS⟩ : ∃ x : List ByteArray, (if SH.length > 100 then [] else SH) = x := ⟨_, rfl⟩
    obtain ⟨RC, hRC⟩ : ∃ x : Int, (if SH.length > 100 then 5 else 0) = x := ⟨_, rfl⟩
    rw [hRS, hRC]
    have HRS := Lib.hid hRS
    have HRC := Lib.hid hRC
    clear hRS hRC hC e1 e2 hstart hst hss hsL hok htt hPL hpl hpo hps hSH hPz hsz hl
    go_enter Tryd.func13, Tryd.ntmps13
    go_wp2_with fail
    refine KW.out.mono ?_; rintro e w1 (⟨-, g, rfl, hS⟩ | ⟨h0, -⟩)
    rotate_left
    · exact absurd rfl h0
    have hw1 := hS.below
    clear hS
    go_wp2_with fail
    refine (KP.out _ hw1).mono ?_; rintro e w2 ⟨X, x, rfl, hKn⟩
    have hK2 := (Kn.nil w).keep hw1 |>.join hKn
    clear hKn hw1
    have hp00 : 0 < PL.length := by have := HPM.out; omega
    obtain ⟨-, gP, rfl, hc0, -, -⟩ := hK2.rowS_at (k := 0) hp00
    have hc1 : w2.cell? ⟨gP, 0, none⟩ = some (.string L) := by
      rw [hc0]
      congr 2
      simp only [HPL.out, List.getElem_cons_zero]
    have hp0 : (0 : Int) < (PL.length : Int) := by omega
    have hK3 := (hK2.al [.string L] 9).litRow (n := 1) (size := 1) rfl (by decide)
    clear hc0
    go_upto_region 6 with fail
    refine Code.wp.kn hK3 ?_; intro w3 hK4
    obtain ⟨gO, hgO⟩ : ∃ g, w2.heap.size = g := ⟨_, rfl⟩
    rw [hgO] at hK4 ⊢
    clear hgO hK3 hK2 hc1
    go_wp2_with fail
    go_loopw [8, 7, 9, 10, 11] (fun ii v _ _ _ wr => ∃ (j : Nat) (O : List ByteArray) (XO : Option Addr) (xo : Nat), j ≤ pb.length ∧ ii = .int .i64 ((j + 1 : Nat) : Int) ∧ v = .slice XO O.length xo ∧ Kn w [rowS (.slice XO O.length xo) O, rowS (.slice (some ⟨gP, 0, none⟩) PL.length x) PL] wr ∧ O.length ≤ 2 * j + 1 ∧ O ++ restP (foldT t ((pb.take j).map strB)) ((pb ++ [endW]).drop j) = SH) (fun ii _ _ _ _ _ => PL.length - (intOf ii).toNat)
    case atStart => exact ⟨0, [L], some ⟨gO, 0, none⟩, 1, Nat.zero_le _, rfl, rfl, hK4, by simp, by rw [HPS.out]; rfl⟩
    case round =>
      clear hK4
      obtain ⟨j, O, XO, xo, hj, rfl, rfl, hK, hOl, hsh⟩ := hrel
      have hpm := HPM.out
      have hO10 : O.length ≤ 10000000 := by omega
      have HSHH := Lib.hid hsh
      obtain ⟨k, hk⟩ : ∃ k, j + 1 = k := ⟨_, rfl⟩
      rw [hk]
      have hK1 := hK.sw1
      by_cases hjn : j < pb.length
      · obtain ⟨-, g', hg', hc0, -, -⟩ := hK1.rowS_at (k := k) (by omega)
        have hgg : g' = gP := by injection hg' with h; injection h with h; exact h.symm
        subst hgg
        have hz : PL[k]'(by omega) = pb[j] := by
          have h1 := HPL.out
          subst hk
          simp only [h1, List.getElem_cons_succ]
          rw [List.getElem_append_left hjn]
        rw [hz] at hc0
        have hrun := plain_run (j := j) HPL.out HST.out HTT.out HPO.out hjn
        have hstp := restP_step (t := t) hjn
        have hvt2 := foldT_ok (l := (pb.take (j + 1)).map strB) hvt
        have hpz := HPZ.out _ (List.getElem_mem (l := PL) (n := k) (by omega))
        rw [hz] at hpz
        obtain ⟨z, hzz⟩ : ∃ z, pb[j] = z := ⟨_, rfl⟩
        rw [hzz] at hc0 hstp hpz
        obtain ⟨t', ht'⟩ : ∃ t', foldT t ((pb.take (j + 1)).map strB) = t' := ⟨_, rfl⟩
        rw [ht'] at hrun hstp hvt2
        have HT' := Lib.hid ht'
        have hcap := hK1.rowCap
        have hrl := hK1.rlS.2.pre (k := k + 1) (by omega)
        have KR := (l24Run_any (some ⟨g', 0, none⟩) (k + 1) x (PL.take (k + 1)) wr hrl (by omega) (fun s h => HPZ.out s (List.mem_of_mem_take h)))
        have hjk : j + 2 = k + 1 := by omega
        rw [hjk] at hrun
        obtain ⟨s', hs'⟩ : ∃ s, (runS ((PL.take (k + 1)).map strB)).1 = s := ⟨_, rfl⟩
        obtain ⟨ra, hra⟩ : ∃ s, (runS ((PL.take (k + 1)).map strB)).2.1 = s := ⟨_, rfl⟩
        obtain ⟨rb, hrb⟩ : ∃ s, (runS ((PL.take (k + 1)).map strB)).2.2 = s := ⟨_, rfl⟩
        rw [hs', hra, hrb] at KR
        rw [hs'] at hrun
        replace KR := Lib.hid KR
        have HSTP := Lib.hid hstp
        have HRUN := Lib.hid hrun
        have i1 : (k : Int) < (PL.length : Int) - 1 := by omega
        have i2 : (0 : Int) ≤ (k : Int) := by omega
        have i3 : (k : Int) < (PL.length : Int) := by omega
        have i4 : (k : Int) + 1 ≤ (x : Int) := by omega
        have i5 : k + 1 ≤ x := by omega
        have hkl : k ≤ 100 := by omega
        have hkp : k < PL.length := by omega
        have HZK := Lib.hid (show PL[k]'hkp = z from hz.trans hzz)
        have hmt : mtext t' = mtextL t' := by unfold mtext; rw [if_pos hvt2]
        have hTs := mtext_size hvt2
        have hsT : showT t' = (⟨#[115, 104, 111, 119, 32]⟩ : ByteArray) ++ mtext t' := rfl
        obtain ⟨T, hT⟩ : ∃ T, mtextL t' = T := ⟨_, rfl⟩
        rw [hmt, hT] at hTs hsT
        have HSTW := Lib.hid hsT
        have HMT := (fun (gq : Nat) (W : World) (hW : TriM W ⟨gq, 7, none⟩ t') (hlt : gq < W.heap.size) => l10Text_any ⟨gq, 7, none⟩ t' W hW hlt hvt2)
        rw [hT] at HMT
        replace HMT := Lib.hid HMT
        have hcat : ¬ 9223372036854775807 < 5 + T.size := by omega
        have HX := Lib.hid (fun W (h : Kn w (rowS (.slice (some ⟨g', 0, none⟩) PL.length x) PL :: rowS (.slice XO O.length xo) O :: []) W) => show W.cell? ⟨g', k, none⟩ = some (.string z) by rw [h.rowS_get hkp, HZK.out])
        have HK := Lib.hid hk
        clear hrl hcap hs' hra hrb hrun hstp ht' hzz hz hsh hjk hpm hmt hT hsT hk hK hg' hc0
        go_wp2_with fail
        refine KR.out.mono ?_; rintro e w5 ⟨gr, rfl, hS⟩
        have hK5 := (hK1.keep hS.below).drew
        have hSd := (hS.keep (Below.refl w5.heap.size w5).drew).textAt
        rw [HRUN.out] at hSd
        have HSD := Lib.hid hSd
        have HG := Lib.hid (HX.out _ hK5)
        clear hK1 hS hSd
        go_wp2_with fail
        go_region_held3 (fun W => W.cell? ⟨g', k, none⟩ = some (.string z)) (first | with_reducible exact HG.out | with_reducible exact HA.out) (first
          | (go_at_call 73; (refine (HMT.out _ _ HSD.out.1 HSD.out.2).mono ?_); rintro e w6 ⟨rfl, hw6⟩; have hK6 := hK5.keep hw6; clear HG; have HG := Lib.hid (HX.out _ hK6); have hA : Kn w (.blk w6.heap.size [.string z, .string ((⟨#[115, 104, 111, 119, 32]⟩ : ByteArray) ++ T)] 9 :: rowS (.slice XO O.length xo) O :: rowS (.slice (some ⟨g', 0, none⟩) PL.length x) PL :: []) _ := hK6.sw1.al [.string z, .string ((⟨#[115, 104, 111, 119, 32]⟩ : ByteArray) ++ T)] 9; have HA := Lib.hid (HX.out _ (hA.sel [2, 1] 3 (by decide) (by decide))))
          | (refine kn_step2S (by rfl) _ _ (by rfl) (.slice XO O.length xo) O (by rfl) (by rfl) hA hO10 ?_; intro v8 w8 hK8; clear HG HA; have HG := Lib.hid (show w8.cell? ⟨g', k, none⟩ = some (.string z) by rw [hK8.sw1.rowS_get hkp, HZK.out])))
        all_goals
          go_wp2_with fail
          obtain ⟨X8, x8, rfl⟩ := row_form hK8.at0
          go_roundw
          case rel =>
            have hk := HK.out
            refine ⟨j + 1, O ++ [z, (⟨#[115, 104, 111, 119, 32]⟩ : ByteArray) ++ T], X8, x8, by omega, ?_, rfl, hK8, by simp; omega, ?_⟩
            · rw [hk]; go_num
            · have h1 := HSHH.out
              rw [HSTP.out, HSTW.out] at h1
              rw [HT'.out]
              simpa using h1
          case measure => simp [intOf]; omega
      · obtain rfl : j = pb.length := by omega
        have i1 : ¬ (k : Int) < (PL.length : Int) - 1 := by omega
        have hfin : O ++ [endW] = SH := by
          have h1 := HSHH.out
          rw [restP_end] at h1
          exact h1
        have HFIN := Lib.hid hfin
        have hA : Kn w (.blk wr.heap.size [.string ⟨#[101, 110, 100]⟩] 9 :: rowS (.slice XO O.length xo) O :: _) _ := hK.al [.string ⟨#[101, 110, 100]⟩] 9
        clear hfin hsh hpm hK1
        by_cases h1 : SH.length > 100
        · have h2 : (100 : Int) < (SH.length : Int) := by omega
          have h3 := HRS.out
          have h4 := HRC.out
          rw [if_pos h1] at h3 h4
          subst h3
          subst h4
          go_wp2_with (at_builtin; refine kn_pushS rfl _ _ rfl (.slice XO O.length xo) O rfl rfl hA hO10 ?_; intro v8 w8 hK8; rw [show O ++ [(⟨#[101, 110, 100]⟩ : ByteArray)] = SH from HFIN.out] at hK8; obtain ⟨X8, x8, rfl⟩ := row_form hK8.at0)
          go_ret2
          exact SCRet.none hK8.below
        · have h2 : ¬ (100 : Int) < (SH.length : Int) := by omega
          have h3 := HRS.out
          have h4 := HRC.out
          rw [if_neg h1] at h3 h4
          subst h3
          subst h4
          go_wp2_with (at_builtin; refine kn_pushS rfl _ _ rfl (.slice XO O.length xo) O rfl rfl hA hO10 ?_; intro v8 w8 hK8; rw [show O ++ [(⟨#[101, 110, 100]⟩ : ByteArray)] = SH from HFIN.out] at hK8; obtain ⟨X8, x8, rfl⟩ := row_form hK8.at0)
          go_ret2
          exact ⟨X8, x8, rfl, hK8.sel [0] 99 (by decide) (by decide)⟩
end Go.Proofs.YtcapccadpbiecaaDoor

namespace Go.Proofs.YtcapccadpbiecaaDoor
open Go.RowKit Go.Sort
set_option maxRecDepth 100000 in
set_option maxHeartbeats 6400000 in
theorem law_ShownSession (SA0 : Option Addr) (sn0 sc0 : Nat) (SL0 : List ByteArray) (w : World) (hs0 : RL StrM 1 w SA0 sn0 SL0) (hsn0 : sn0 ≤ 9223372036854775807) (hsz0 : ∀ s ∈ SL0, s.size ≤ 9223372036854775807) (ht : TB w) :
    Calls Tryd.prog 3 #[.slice SA0 sn0 sc0] w fun e w' => e = .returned (.bool true) ∧ Below w.heap.size w w' := by
  have HID0 := True.intro
  by_cases hsl0 : (sn0 : Int) + totS SL0 ≤ (1048576 : Int)
  rotate_left
  · have hsm0 : (-1 : Int) < 0 := by omega
    go_enter Tryd.func3, Tryd.ntmps3
    go_wp2_with fail
    refine (szStringS_any SA0 sn0 sc0 SL0 _ _ hs0 hsz0 (by first | exact hl0 | omega) (by first | exact hl1 | omega) hsn0).mono ?_; rintro e w3 ⟨rfl, hww⟩
    subst hww
    rw [if_neg (by omega)]
    go_wp2_with fail
    go_ret
    exact ⟨rfl, Below.refl _ _⟩
  have hsb0 : sn0 ≤ 1048576 := by omega
  have hsp0 : ¬ ((1048576 : Int) - (sn0 : Int) - totS SL0 < 0) := by omega
  have hst0 : ∀ s ∈ SL0, s.size ≤ 1048576 := fun s hs => by have := totS_mem hs; omega
  have TS0 := Lib.hid (fun W (hW : Below w.heap.size w W) => toStringS_kn SA0 sn0 sc0 SL0 W (hs0.below steady_StrM hW) hsb0)
  have HST0 := Lib.hid hst0
  have HSZ0 := Lib.hid hsz0
  have HTB := Lib.hid (fun W (hW : Below w.heap.size w W) => TB.below ht hW)
  have KS := (fun (SX0 : Option Addr) (sx0 : Nat) W ht0 (hW : Below w.heap.size w W) => specShownSession_any SX0 sn0 sx0 SL0 W ht0 HST0.out)
  have KI := (fun (SX0 : Option Addr) (sx0 : Nat) W ht0 (hW : Below w.heap.size w W) => ShownSession_any SX0 sn0 sx0 SL0 W ht0 HST0.out (HTB.out W hW))
  unfold SCRet at KS KI
  have ls := shR_len SL0
  obtain ⟨RS_, hRS⟩ : ∃ x : List ByteArray, shR SL0 = x := ⟨_, rfl⟩
  rw [hRS] at KS KI ls
  clear hRS
  obtain ⟨ks, hks⟩ : ∃ n, RS_.length = n := ⟨_, rfl⟩
  unfold rowT at KI KS
  rw [hks] at KS KI ls
  clear hks
  obtain ⟨RI1, hRI1⟩ : ∃ x, shC SL0 = x := ⟨_, rfl⟩
  rw [hRI1] at KS KI
  clear hRI1
  have KS := Lib.hid KS
  have KI := Lib.hid KI
  clear hst0
  go_enter Tryd.func3, Tryd.ntmps3
  go_wp2_with fail
  refine (szStringS_any SA0 sn0 sc0 SL0 _ _ hs0 hsz0 (by first | exact hl0 | omega) (by first | exact hl1 | omega) hsn0).mono ?_; rintro e w3 ⟨rfl, hww⟩
  subst hww
  rw [if_pos (by omega)]
  have hK := Kn.nil w
  go_wp2_with fail
  refine (TS0.out _ hK.below).mono ?_; rintro e w4 ⟨X1, x1, rfl, hKn⟩
  have hK : Kn w [rowSN X1 sn0 x1 SL0] w4 := hK.join hKn
  clear hKn
  go_wp2_with fail
  refine (KS.out X1 x1 _ (Kn.rlSN (hK.sel [0] 99 (by decide) (by decide))).2 hK.below).mono ?_; rintro e w5 ⟨SS, ss, rfl, hKn⟩
  have hK : Kn w [rowSN SS ks ss RS_, rowSN X1 sn0 x1 SL0] w5 := hK.join hKn
  clear hKn
  go_wp2_with fail
  refine (TS0.out _ hK.below).mono ?_; rintro e w6 ⟨X2, x2, rfl, hKn⟩
  have hK : Kn w [rowSN X2 sn0 x2 SL0, rowSN SS ks ss RS_, rowSN X1 sn0 x1 SL0] w6 := hK.join hKn
  clear hKn
  go_wp2_with fail
  refine (KI.out X2 x2 _ (Kn.rlSN (hK.sel [0] 99 (by decide) (by decide))).2 hK.below).mono ?_; rintro e w7 ⟨GS, gs, rfl, hKn⟩
  have hK : Kn w [rowSN GS ks gs RS_, rowSN X2 sn0 x2 SL0, rowSN SS ks ss RS_, rowSN X1 sn0 x1 SL0] w7 := hK.join hKn
  clear hKn
  go_wp2_with fail
  refine (eqS_same _ _ _ _ _ _ _ ((Kn.rlSN (hK.sel [0] 99 (by decide) (by decide))).2) ((Kn.rlSN (hK.sel [2] 99 (by decide) (by decide))).2) (by omega)).mono ?_; rintro e w8 ⟨rfl, hw⟩
  have hK : Kn w [rowSN GS ks gs RS_, rowSN X2 sn0 x2 SL0, rowSN SS ks ss RS_, rowSN X1 sn0 x1 SL0] w8 := hK.keep hw
  clear hw
  go_wp2_with fail
  refine (TS0.out _ hK.below).mono ?_; rintro e w9 ⟨X3, x3, rfl, hKn⟩
  have hK : Kn w [rowSN X3 sn0 x3 SL0, rowSN GS ks gs RS_, rowSN X2 sn0 x2 SL0, rowSN SS ks ss RS_, rowSN X1 sn0 x1 SL0] w9 := hK.join hKn
  clear hKn
  go_wp2_with fail
  refine (eqS_same _ _ _ _ _ _ _ ((Kn.rlSN (hK.sel [2] 99 (by decide) (by decide))).2) ((Kn.rlSN (hK.sel [0] 99 (by decide) (by decide))).2) (by omega)).mono ?_; rintro e w10 ⟨rfl, hw⟩
  have hK : Kn w [rowSN X3 sn0 x3 SL0, rowSN GS ks gs RS_, rowSN X2 sn0 x2 SL0, rowSN SS ks ss RS_, rowSN X1 sn0 x1 SL0] w10 := hK.keep hw
  clear hw
  go_wp2_with fail
  have hK : Kn w [rowSN X2 sn0 x2 SL0, rowSN X3 sn0 x3 SL0, rowSN GS ks gs RS_, rowSN SS ks ss RS_, rowSN X1 sn0 x1 SL0] w10 := hK.sel [2, 0, 1, 3, 4] 5 (by decide) (by decide)
  refine (markS_kn w _ X2 sn0 x2 SL0 1 _ hK (by omega) (by omega)).mono ?_; rintro e w11 ⟨rfl, hKn⟩
  have hK : Kn w [rowSN X2 sn0 x2 (marksS 1 sn0), rowSN X3 sn0 x3 SL0, rowSN GS ks gs RS_, rowSN SS ks ss RS_, rowSN X1 sn0 x1 SL0] w11 := hKn
  clear hKn
  obtain ⟨pk1, hpk1⟩ : ∃ x : Int, 1 + (sn0 : Int) = x := ⟨_, rfl⟩
  have hpk1n : ¬ pk1 < 0 := by omega
  have hpk1b : 0 ≤ pk1 ∧ pk1 ≤ 40000000 := by omega
  rw [hpk1]
  have Hpk1 := Lib.hid hpk1
  clear hpk1
  go_wp2_with fail
  refine (eqS_same _ _ _ _ _ _ _ ((Kn.rlSN (hK.sel [2] 99 (by decide) (by decide))).2) ((Kn.rlSN (hK.sel [3] 99 (by decide) (by decide))).2) (by omega)).mono ?_; rintro e w12 ⟨rfl, hw⟩
  have hK : Kn w [rowSN X2 sn0 x2 (marksS 1 sn0), rowSN X3 sn0 x3 SL0, rowSN GS ks gs RS_, rowSN SS ks ss RS_, rowSN X1 sn0 x1 SL0] w12 := hK.keep hw
  clear hw
  go_wp2_with fail
  have hK : Kn w [rowSN GS ks gs RS_, rowSN X2 sn0 x2 (marksS 1 sn0), rowSN X3 sn0 x3 SL0, rowSN SS ks ss RS_, rowSN X1 sn0 x1 SL0] w12 := hK.sel [2, 0, 1, 3, 4] 5 (by decide) (by decide)
  refine (markS_kn w _ GS ks gs RS_ 1 _ hK (by omega) (by omega)).mono ?_; rintro e w13 ⟨rfl, hKn⟩
  have hK : Kn w [rowSN GS ks gs (marksS 1 ks), rowSN X2 sn0 x2 (marksS 1 sn0), rowSN X3 sn0 x3 SL0, rowSN SS ks ss RS_, rowSN X1 sn0 x1 SL0] w13 := hKn
  clear hKn
  obtain ⟨pk2, hpk2⟩ : ∃ x : Int, 1 + (ks : Int) = x := ⟨_, rfl⟩
  have hpk2n : ¬ pk2 < 0 := by omega
  have hpk2b : 0 ≤ pk2 ∧ pk2 ≤ 40000000 := by omega
  rw [hpk2]
  have Hpk2 := Lib.hid hpk2
  clear hpk2
  go_wp2_with fail
  refine (heldS_any GS ks gs 1 _ ((Kn.rlSN (hK.sel [0] 99 (by decide) (by decide))).2) (by omega) (by omega)).mono ?_; rintro e w14 ⟨rfl, hw⟩
  have hK : Kn w [rowSN GS ks gs (marksS 1 ks), rowSN X2 sn0 x2 (marksS 1 sn0), rowSN X3 sn0 x3 SL0, rowSN SS ks ss RS_, rowSN X1 sn0 x1 SL0] w14 := hK.keep hw
  clear hw
  rw [Hpk2.out]
  go_wp2_with fail
  refine (TS0.out _ hK.below).mono ?_; rintro e w15 ⟨X4, x4, rfl, hKn⟩
  have hK : Kn w [rowSN X4 sn0 x4 SL0, rowSN GS ks gs (marksS 1 ks), rowSN X2 sn0 x2 (marksS 1 sn0), rowSN X3 sn0 x3 SL0, rowSN SS ks ss RS_, rowSN X1 sn0 x1 SL0] w15 := hK.join hKn
  clear hKn
  go_wp2_with fail
  refine (KI.out X4 x4 _ (Kn.rlSN (hK.sel [0] 99 (by decide) (by decide))).2 hK.below).mono ?_; rintro e w16 ⟨HS, hs, rfl, hKn⟩
  have hK : Kn w [rowSN HS ks hs RS_, rowSN X4 sn0 x4 SL0, rowSN GS ks gs (marksS 1 ks), rowSN X2 sn0 x2 (marksS 1 sn0), rowSN X3 sn0 x3 SL0, rowSN SS ks ss RS_, rowSN X1 sn0 x1 SL0] w16 := hK.join hKn
  clear hKn
  go_wp2_with fail
  refine (eqS_same _ _ _ _ _ _ _ ((Kn.rlSN (hK.sel [0] 99 (by decide) (by decide))).2) ((Kn.rlSN (hK.sel [5] 99 (by decide) (by decide))).2) (by omega)).mono ?_; rintro e w17 ⟨rfl, hw⟩
  have hK : Kn w [rowSN HS ks hs RS_, rowSN X4 sn0 x4 SL0, rowSN GS ks gs (marksS 1 ks), rowSN X2 sn0 x2 (marksS 1 sn0), rowSN X3 sn0 x3 SL0, rowSN SS ks ss RS_, rowSN X1 sn0 x1 SL0] w17 := hK.keep hw
  clear hw
  go_wp2_with fail
  refine (heldS_any GS ks gs 1 _ ((Kn.rlSN (hK.sel [2] 99 (by decide) (by decide))).2) (by omega) (by omega)).mono ?_; rintro e w18 ⟨rfl, hw⟩
  have hK : Kn w [rowSN HS ks hs RS_, rowSN X4 sn0 x4 SL0, rowSN GS ks gs (marksS 1 ks), rowSN X2 sn0 x2 (marksS 1 sn0), rowSN X3 sn0 x3 SL0, rowSN SS ks ss RS_, rowSN X1 sn0 x1 SL0] w18 := hK.keep hw
  clear hw
  rw [Hpk2.out]
  go_wp2_with fail
  go_ret
  exact ⟨rfl, hK.below⟩
end Go.Proofs.YtcapccadpbiecaaDoor

namespace Go.Proofs.YtcapccadpbiecaaDoor.fnExactShownSession
open Go.ChangeShapes Go.WideShapes Go.ChangeAt Go.RowKit
set_option maxRecDepth 100000 in
theorem contract (H : Type) (enc : TypeId × Value → H) (W : World) (base : Nat) (args : Array Value) (ds gs : List (DataW H)) (before : List MemPlace)
    (hval : ∀ (j : Nat) t v, Tryd.f3.params[j]? = some t → args[j]? = some v → Value.okWide Tryd.prog W .any base t v)
    (hW : DataW.Whole enc Tryd.prog Tryd.f3.params.toList Rows.fnExactShownSessionSpec.vars false W args.toList ds gs before) (hL : laidMetH Tryd.prog Rows.fnExactShownSessionRow.laid W) :
    Calls Tryd.prog 3 args W fun e W' => ∃ v, e = .returned v ∧ Rows.fnExactShownSessionSpec.post enc Tryd.prog Tryd.f3 false true false false W args v W' := by
  have hW' := hW
  obtain ⟨p, q, hA0, hV, rfl, hfz, hnd⟩ := hW
  have hA : DataW.TrodAll enc Tryd.prog W 0 (fun _ => true) true Tryd.f3.params.toList args.toList ds p := hA0
  rw [Tryd.params3] at hA hval
  obtain ⟨v0, vs0, d0, ds0, p0, q0, hargs, rfl, rfl, h0, r0⟩ := trodAll_cons hA
  obtain ⟨rfl, rfl, rfl⟩ := trodAll_nil r0
  obtain rfl : args = #[v0] := by cases args; simp_all
  obtain ⟨rfl, rfl⟩ := trodVars_none hV
  clear hA0
  simp only [List.append_nil] at hW'
  have hlt : ∀ x ∈ p0, x.block < W.heap.size := fun x hx => by
    have := hW'.lt x (by simpa using hx)
    simpa using this
  obtain ⟨S0A, S0n, S0c, rfl⟩ := okWide_slice Tryd.underlying22 (hval 0 _ _ rfl rfl)
  have t0 := h0
  obtain ⟨fuel0, hf0⟩ := h0
  obtain ⟨A0, n0, c0, S0xs, hcs0, hr0, hn0, hs0⟩ := rd_strings hf0
  obtain ⟨rfl, rfl, rfl⟩ : A0 = S0A ∧ n0 = S0n ∧ c0 = S0c := by
    have : [Value.slice S0A S0n S0c] = [.slice A0 n0 c0] := hcs0
    injection this with this
    injection this with e1 e2 e3
    exact ⟨e1.symm, e2.symm, e3.symm⟩
  have walk : Calls Tryd.prog 3 #[.slice A0 n0 c0] W fun e w' => e = .returned (.bool true) ∧ Below W.heap.size W w' :=
    law_ShownSession A0 n0 c0 S0xs W hr0 hn0 hs0 (tb_of_laid hL)
  refine walk.mono fun e W' ⟨he, hb⟩ => ?_
  subst he
  have u0 := Below.trod laidOut (by kernel_rfl) (of_decide_eq_true (by kernel_rfl)) t0 hb hlt
  exact ⟨_, rfl, [d0], [], p0 ++ [], [], p0 ++ [], [], by simpa using hW', trodAll_cons_mk (shut_bool Tryd.underlying4 _) trodAll_mk0, (trodAll_cons_mk u0 trodAll_mk0), rfl, hb.frame _, fun h => by cases h⟩
theorem reads (os : Os) {H : Type} (enc : TypeId × Value → H) : ∃ places, DataW.whole enc Tryd.prog ((laidWorld os).forCall (fun _ _ => 0) ⟨#[], #[.slice none 0 0], []⟩).memory Tryd.f3.params.toList Rows.fnExactShownSessionSpec.vars false (#[.slice none 0 0] : Array Value).toList 8 = some ([.nil], [], places) :=
  ⟨[], by kernel_rfl⟩
set_option maxRecDepth 100000 in
theorem lifted (os : Os) (started : os.Started) (H : Type) (enc : TypeId × Value → H) (F : Stop.Interp) :
    ReturnsInHanded {} Tryd.checked os 3 .any ((OpenSpec.ofChange Rows.fnExactShownSessionSpec).preRow enc Tryd.prog Tryd.f3 Rows.fnExactShownSessionRow.domain false Rows.fnExactShownSessionRow.laid) (((OpenSpec.ofChange Rows.fnExactShownSessionSpec).at F).post enc Tryd.prog Tryd.f3 false true false false) := by
  obtain ⟨places, hx⟩ := reads os enc
  refine returnsInHanded_of_row (C := Tryd.checked) (s := OpenSpec.ofChange Rows.fnExactShownSessionSpec) own started (by kernel_rfl) Tryd.func3
    (witness_row_at (enc := enc) (C := Tryd.checked) false (laidWorld os) #[.slice none 0 0] rfl (by kernel_rfl) (by kernel_rfl) (by kernel_rfl)
      (OpenSpec.preRow_of_cond 8 hx (by kernel_rfl) (fun k hk => by cases hk) (by kernel_rfl) (laid_met os _))) ?_
  intro W base args ds gs before hval hW _ _ _ hL _ _
  exact contract H enc W base args ds gs before hval hW hL
theorem said : Rows.FnExactShownSessionSaid :=
  OpenClaim.holds_of_cond 3 Tryd.f3 rfl rfl rfl rfl rfl rfl rfl ⟨rfl, rfl, rfl, rfl, rfl⟩ rfl rfl rfl rfl rfl (by kernel_rfl) Tryd.func3 (by kernel_rfl)
    (of_decide_eq_true (by kernel_rfl)) (by unfold Func.isWrapper; first | (rw [if_pos (by decide +kernel)]; kernel_rfl) | (rw [if_neg (by decide +kernel)]; exact ⟨rfl, rfl⟩))
    (fun os started H enc _ F => by rw [OpenClaim.pre_eq_preRow]; exact lifted os started H enc F)
theorem plain (f : FuncId) (fn : Func) (hf : Tryd.pinned.checked.prog.funcNamed "loop.example/g00930/laws.FnExactShownSession" = some f) (hfn : Tryd.pinned.checked.prog.funcs[f]? = some fn) :
    false = Tryd.pinned.checked.prog.looks [] ∧ ∀ (j : Nat) t, fn.params[j]? = some t → Tryd.pinned.checked.prog.wantsStandIn t = false := by
  obtain rfl : f = 3 := Option.some.inj ((show Tryd.prog.funcNamed "loop.example/g00930/laws.FnExactShownSession" = some 3 by kernel_rfl).symm.trans hf) |>.symm
  obtain rfl : fn = Tryd.f3 := (Option.some.inj (Tryd.func3.symm.trans hfn)).symm
  refine ⟨by kernel_rfl, fun j t ht => ?_⟩
  rw [Tryd.params3] at ht
  have s0 : Tryd.prog.wantsStandIn 22 = false := by kernel_rfl
  have hm := Array.mem_of_getElem? ht
  obtain rfl : t = 22 := by simpa using hm
  exact s0
/-- THE CARD. -/
theorem card : Rows.FnExactShownSessionCardSaid :=
  Claim7.holds_tied_plain_at .later [] _ _ _ _ said (fun _ h => by cases h) (by kernel_rfl) (fun _ h => by cases h) fnExactShownSession_row_tie rfl ⟨rfl, rfl⟩ (by kernel_rfl) rfl plain (by kernel_rfl)
end Go.Proofs.YtcapccadpbiecaaDoor.fnExactShownSession
