/- For every input the law FnExactRecordSession returns true and leaves its arguments as they were: the program's recorded session is the reference's. Condition: the tables of strconv hold what the program's text lays (tied by the card). -/
import Derived.Test.YtikcifpdnbhpiaaGreatDoorZC1
import Derived.Test.YtikcifpdnbhpiaaGreatDoorZC2
import Derived.Test.YtikcifpdnbhpiaaGreatDoorZC3
import Derived.Test.YtikcifpdnbhpiaaGreatDoorZC4
import Derived.Test.YtikcifpdnbhpiaaGreatDoorZC5
import Derived.Test.YtikcifpdnbhpiaaGreatDoorZC6
import Derived.Test.YtikcifpdnbhpiaaGreatDoorZC7
import Derived.Test.YtikcifpdnbhpiaaGreatDoorZC8
import Derived.Deep.Slices
import Derived.OpenShut
import Derived.ProofKit
import Derived.Carry
import Derived.ChangeMaps5
namespace Go.Proofs.YtikcifpdnbhpiaaGreatDoor
open Go.RowKit Go.Sort
/-! whole sessions, plainly -/
/-- what a line does to a machine -/
def stepM (t : Tri) (b : List UInt8) : Tri × Int :=
  if kindOf b ≠ 0 then ((strokeT (kindOf b) t).1, 0)
  else if b = endB then (t, 0)
  else if begins setB b then (if (rdDec (b.drop 4)).isSome && decide (0 ≤ rdN (b.drop 4) ∧ rdN (b.drop 4) < pw t.a.base t.a.digits.length) then (setT t (rdN (b.drop 4)), 0) else (t, 3))
  else if begins showB b then (if b.drop 5 = strB (mtextL t) then (t, 0) else (t, 4))
  else (t, 2)
theorem kind_end : kindOf endB = 0 := by decide
theorem lineS_step {s : SS} {i : Int} {b : List UInt8} (h : s.ended = false) : (lineS s i b).1.m = (stepM s.m b).1 ∧ (lineS s i b).2 = (stepM s.m b).2 ∧ (lineS s i b).1.ended = decide (b = endB) ∧ (lineS s i b).1.start = s.start := by
  unfold lineS stepM
  rw [if_neg (by rw [h]; decide)]
  by_cases hk : kindOf b = 0
  · have hk' : ¬ (kindOf b ≠ 0) := fun h => h hk
    rw [if_neg hk', if_neg hk']
    by_cases he : b = endB
    · rw [if_pos he, if_pos he]; simp [he]
    · rw [if_neg he, if_neg he]
      have hd : decide (b = endB) = false := decide_eq_false he
      rw [hd]
      rcases begins setB b with _ | _
      · simp only [Bool.false_eq_true, if_false]
        rcases begins showB b with _ | _
        · simp [h]
        · simp only [if_true]; split <;> simp [h]
      · simp only [if_true]; split <;> simp [h]
  · rw [if_pos hk, if_pos hk]
    have he : b ≠ endB := by rintro rfl; exact hk kind_end
    simp [he]
def foldT (t : Tri) (l : List (List UInt8)) : Tri := l.foldl (fun t b => (stepM t b).1) t
def AllOk : Tri → List (List UInt8) → Prop
  | _, [] => True
  | t, b :: l => (stepM t b).2 = 0 ∧ b ≠ endB ∧ AllOk (stepM t b).1 l
theorem goS_ended {s : SS} {i : Int} {l : List (List UInt8)} (h : s.ended = true) (h0 : (goS s i l).2.2 = 0) : l = [] := by
  cases l with
  | nil => rfl
  | cons b l =>
    rw [goS_cons, lineS_ended i b h] at h0
    rw [if_pos (show (5 : Int) ≠ 0 by decide)] at h0
    cases h0
/-- a whole session: its lines are fine, and the last one ends it -/
theorem goS_valid : ∀ {l : List (List UInt8)} {s : SS} {i : Int}, s.ended = false → (goS s i l).2.2 = 0 → ∃ body, l = body ++ [endB] ∧ AllOk s.m body ∧ (goS s i l).1.m = foldT s.m body ∧ (goS s i l).1.start = s.start
  | [], s, i, h, h0 => by
    rw [goS_nil, h, if_neg (by decide)] at h0
    cases h0
  | b :: l, s, i, h, h0 => by
    obtain ⟨e1, e2, e3, e4⟩ := lineS_step (i := i) (b := b) h
    by_cases hc : (lineS s i b).2 = 0
    · rw [goS_cons, if_neg (fun h => h hc)] at h0 ⊢
      by_cases he : b = endB
      · have hl := goS_ended (by rw [e3, decide_eq_true he]) h0
        subst hl
        refine ⟨[], by rw [he]; rfl, trivial, ?_, ?_⟩
        · rw [goS_nil, e3, decide_eq_true he, if_pos rfl, e1, he]
          show (stepM s.m endB).1 = s.m
          unfold stepM
          rw [if_neg (fun h => h kind_end), if_pos rfl]
        · rw [goS_nil, e3, decide_eq_true he, if_pos rfl, e4]
      · have he' : (lineS s i b).1.ended = false := by rw [e3, decide_eq_false he]
        obtain ⟨body, h1, h2, h3, h4⟩ := goS_valid (l := l) he' h0
        refine ⟨b :: body, by rw [h1]; rfl, ⟨e2.symm.trans hc, he, by rw [← e1]; exact h2⟩, ?_, by rw [h4, e4]⟩
        rw [h3, e1]; rfl
    · rw [goS_cons, if_pos hc] at h0
      exact absurd h0 hc
/-- fine lines without an end: the machine behind them -/
theorem goS_fold : ∀ {l : List (List UInt8)} {s : SS} {i : Int}, s.ended = false → AllOk s.m l → (goS s i l).1.m = foldT s.m l
  | [], s, i, h, _ => by rw [goS_nil, h, if_neg (by decide)]; rfl
  | b :: l, s, i, h, h0 => by
    obtain ⟨e1, e2, e3, e4⟩ := lineS_step (i := i) (b := b) h
    obtain ⟨h1, h2, h3⟩ := h0
    rw [goS_cons, if_neg (fun h => h (e2.trans h1))]
    rw [goS_fold (by rw [e3, decide_eq_false h2]) (by rw [e1]; exact h3), e1]; rfl
theorem foldT_ok : ∀ {l : List (List UInt8)} {t : Tri}, vmach t = true → vmach (foldT t l) = true
  | [], t, h => h
  | b :: l, t, h => by
    show vmach (foldT (stepM t b).1 l) = true
    refine foldT_ok ?_
    have hg : (SS.mk t t [] [] false).Good 0 := ⟨h, h, Nat.le_refl _, Nat.le_refl _⟩
    have := (lineS_good (i := 0) (bs := b) hg).m
    rw [(lineS_step (s := ⟨t, t, [], [], false⟩) (i := 0) (b := b) rfl).1] at this
    exact this
/-- a whole session, from its lines -/
theorem whole_parts {l : List (List UInt8)} (h : wholeC l = 0) : l.length ≤ 100 ∧ ∃ b0 body, l = b0 :: (body ++ [endB]) ∧ startOk b0 = true ∧ vmach (rdMach (b0.drop 6)) = true ∧ AllOk (rdMach (b0.drop 6)) body ∧ (runS l).1.m = foldT (rdMach (b0.drop 6)) body ∧ (runS l).1.start = rdMach (b0.drop 6) := by
  obtain ⟨h1, h2⟩ := wholeC_ok h
  refine ⟨h1, ?_⟩
  match l, h2 with
  | [], h2 => simp [runS] at h2
  | b :: t, h2 =>
    rw [runS_cons] at h2 ⊢
    rcases hs : startOk b with _ | _
    · rw [hs, if_neg (by decide)] at h2; cases h2
    · rw [hs, if_pos rfl] at h2
      obtain ⟨body, e1, e2, e3, e4⟩ := goS_valid (s := ⟨rdMach (b.drop 6), rdMach (b.drop 6), [], [], false⟩) rfl h2
      have hv : vmach (rdMach (b.drop 6)) = true := by
        unfold startOk at hs
        rw [Bool.and_eq_true] at hs
        exact rdm_good hs.2
      rw [if_pos rfl]
      exact ⟨b, body, by rw [e1], hs, hv, e2, e3, e4⟩
theorem show_step {t : Tri} {b : List UInt8} (h : begins showB b = true) (h0 : (stepM t b).2 = 0) : (stepM t b).1 = t := by
  unfold stepM at h0 ⊢
  by_cases hk : kindOf b = 0
  · have hk' : ¬ (kindOf b ≠ 0) := fun h => h hk
    rw [if_neg hk'] at h0 ⊢
    rw [if_neg (begins_ne h (by decide)), show_not_set h, if_neg (by decide), if_pos h] at h0 ⊢
    split <;> rfl
  · have hkk := kindOf_name hk
    have hb := (begins_iff.1 h).1
    have : b.length ≤ 5 := by rw [← hkk, strB_len]; exact sname_len _
    change 5 < b.length at hb
    omega
/-- the bytes "show " alone are no line of a session -/
theorem show_alone {t : Tri} (h : (stepM t showB).2 = 0) : False := by
  have : stepM t showB = (t, 2) := by
    unfold stepM
    rw [if_neg (by decide), if_neg (by decide), if_neg (by decide), if_neg (by decide)]
  rw [this] at h
  cases h
/-- is a line one that shows? (the reference's test) -/
def isShow (b : List UInt8) : Bool := decide (5 ≤ b.length) && decide (b.take 5 = showB)
theorem isShow_eq {t : Tri} {b : List UInt8} (h : (stepM t b).2 = 0) : isShow b = begins showB b := by
  unfold isShow begins
  by_cases h5 : b.length = 5
  · by_cases hb : b.take 5 = showB
    · rw [List.take_of_length_le (by omega)] at hb
      subst hb
      exact (show_alone h).elim
    · show (_ && decide (b.take 5 = showB)) = (_ && decide (b.take 5 = showB))
      rw [decide_eq_false hb]; simp
  · show (decide (5 ≤ b.length) && _) = (decide (5 < b.length) && _)
    have : decide (5 ≤ b.length) = decide (5 < b.length) := by
      by_cases h6 : 5 < b.length
      · rw [decide_eq_true h6, decide_eq_true (by omega)]
      · rw [decide_eq_false h6, decide_eq_false (by omega)]
    rw [this]; rfl
theorem isShow_end : isShow endB = false := by decide
theorem start_not_show {b : List UInt8} (h : startOk b = true) : begins showB b = false ∧ isShow b = false := by
  unfold startOk at h
  rw [Bool.and_eq_true] at h
  have h1 := (begins_iff.1 h.1).2
  have h2 : b.take 5 = startB.take 5 := by rw [← h1, List.take_take]; rfl
  constructor
  · unfold begins
    have : ¬ b.take showB.length = showB := by
      show ¬ b.take 5 = showB
      rw [h2]; decide
    rw [decide_eq_false this]; simp
  · unfold isShow
    rw [h2]
    have : decide (startB.take 5 = showB) = false := by decide
    rw [this]; simp
end Go.Proofs.YtikcifpdnbhpiaaGreatDoor

namespace Go.Proofs.YtikcifpdnbhpiaaGreatDoor
open Go.RowKit Go.Sort
/-! the shown session, plainly -/
def endW : ByteArray := ⟨#[101, 110, 100]⟩
def showT (t : Tri) : ByteArray := showW ++ mtext t
/-- what follows in the shown session, behind the first line -/
def restL (t : Tri) : List ByteArray → List ByteArray
  | [] => []
  | b :: r => if r = [] then [b] else if begins showB (strB b) then restL t r else b :: showT (stepM t (strB b)).1 :: restL (stepM t (strB b)).1 r
/-- the same of lines none of which shows -/
def restP (t : Tri) : List ByteArray → List ByteArray
  | [] => []
  | b :: r => if r = [] then [b] else b :: showT (stepM t (strB b)).1 :: restP (stepM t (strB b)).1 r
def notShow (b : ByteArray) : Bool := !isShow (strB b)
/-- lines that are fine, and the end behind them -/
def OkEnd (t : Tri) (l : List ByteArray) : Prop := ∃ body, l = body ++ [endW] ∧ AllOk t (body.map strB)
theorem endW_of {E : ByteArray} (h : strB E = endB) : E = endW := by
  have : endW = E := str_eq.2 (show ([101, 110, 100] : List UInt8) = strB E from h.symm)
  exact this.symm
theorem OkEnd.cons {t : Tri} {b : ByteArray} {r : List ByteArray} (h : OkEnd t (b :: r)) (hr : r ≠ []) : (stepM t (strB b)).2 = 0 ∧ strB b ≠ endB ∧ OkEnd (stepM t (strB b)).1 r := by
  obtain ⟨body, h1, h2⟩ := h
  cases body with
  | nil =>
    simp only [List.nil_append, List.cons.injEq] at h1
    exact absurd h1.2 hr
  | cons c body =>
    simp only [List.cons_append, List.cons.injEq] at h1
    obtain ⟨rfl, rfl⟩ := h1
    exact ⟨h2.1, h2.2.1, body, rfl, h2.2.2⟩
theorem OkEnd.last {t : Tri} {b : ByteArray} (h : OkEnd t [b]) : b = endW := by
  obtain ⟨body, h1, h2⟩ := h
  cases body with
  | nil => simpa using h1
  | cons c body => simp at h1
theorem OkEnd.ne {t : Tri} {l : List ByteArray} (h : OkEnd t l) : l ≠ [] := by
  obtain ⟨body, h1, -⟩ := h
  rw [h1]; simp
theorem whole_lines {ss : List ByteArray} (h : wholeC (ss.map strB) = 0) : ss.length ≤ 100 ∧ ∃ L tl, ss = L :: tl ∧ startOk (strB L) = true ∧ vmach (rdMach ((strB L).drop 6)) = true ∧ OkEnd (rdMach ((strB L).drop 6)) tl ∧ (runS (ss.map strB)).1.start = rdMach ((strB L).drop 6) := by
  obtain ⟨h1, b0, body, h2, h3, h4, h5, h6, h7⟩ := whole_parts h
  rw [List.length_map] at h1
  refine ⟨h1, ?_⟩
  match ss, h2, h7 with
  | L :: tl, g2, h7 =>
    simp only [List.map_cons, List.cons.injEq] at g2
    obtain ⟨rfl, g3⟩ := g2
    refine ⟨L, tl, rfl, h3, h4, ?_, h7⟩
    obtain ⟨l1, l2, rfl, e1, e2⟩ := List.map_eq_append_iff.1 g3
    have hl2 : l2.length = 1 := by have := congrArg List.length e2; simpa using this
    obtain ⟨E, rfl⟩ := List.length_eq_one_iff.1 hl2
    have e3 : strB E = endB := by simpa using e2
    exact ⟨l1, by rw [endW_of e3], by rw [e1]; exact h5⟩
theorem endW_notShow : notShow endW = true := by decide
/-- the lines that do not show, and the machine -/
theorem rest_plain : ∀ {l : List ByteArray} {t : Tri}, OkEnd t l → restL t l = restP t (l.filter notShow) ∧ OkEnd t (l.filter notShow)
  | [], t, h => absurd rfl h.ne
  | [b], t, h => by
    have hb := h.last
    subst hb
    have hf : [endW].filter notShow = [endW] := by rw [List.filter_cons_of_pos endW_notShow, List.filter_nil]
    rw [hf]
    exact ⟨by unfold restL restP; simp, h⟩
  | b :: c :: r, t, h => by
    obtain ⟨h1, h2, h3⟩ := h.cons (by simp)
    obtain ⟨ih1, ih2⟩ := rest_plain h3
    have hs : notShow b = !begins showB (strB b) := by unfold notShow; rw [isShow_eq h1]
    rcases hb : begins showB (strB b) with _ | _
    · rw [hb] at hs
      rw [List.filter_cons_of_pos (by rw [hs]; rfl)]
      have hne := ih2.ne
      refine ⟨?_, ?_⟩
      · have e1 : restL t (b :: c :: r) = b :: showT (stepM t (strB b)).1 :: restL (stepM t (strB b)).1 (c :: r) := by
          conv => lhs; unfold restL
          rw [if_neg (by simp), hb, if_neg (by decide)]
        have e2 : restP t (b :: (c :: r).filter notShow) = b :: showT (stepM t (strB b)).1 :: restP (stepM t (strB b)).1 ((c :: r).filter notShow) := by
          conv => lhs; unfold restP
          rw [if_neg hne]
        rw [e1, e2, ih1]
      · obtain ⟨body, e, ok⟩ := ih2
        exact ⟨b :: body, by rw [e]; rfl, h1, h2, ok⟩
    · rw [hb] at hs
      rw [List.filter_cons_of_neg (by rw [hs]; decide)]
      have ht := show_step hb h1
      rw [ht] at ih1 ih2
      refine ⟨?_, ih2⟩
      have e1 : restL t (b :: c :: r) = restL t (c :: r) := by
        conv => lhs; unfold restL
        rw [if_neg (by simp), hb, if_pos rfl]
      rw [e1, ih1]
/-- the shown session, and its code -/
def shL (ss : List ByteArray) : List ByteArray := match ss with | [] => [] | L :: tl => L :: restL (rdMach ((strB L).drop 6)) tl
def shC (ss : List ByteArray) : Int := if wholeC (ss.map strB) = 0 then (if (shL ss).length > 100 then 5 else 0) else wholeC (ss.map strB)
def shR (ss : List ByteArray) : List ByteArray := if shC ss = 0 then shL ss else []
theorem shR_len (ss : List ByteArray) : (shR ss).length ≤ 100 := by
  unfold shR
  split
  · rename_i h
    unfold shC at h
    split at h
    · split at h
      · cases h
      · omega
    · rename_i h'; exact absurd h h'
  · simp
/-- a row of strings, of its own length -/
def rowT (A : Option Addr) (c : Nat) (ss : List ByteArray) : Ent := rowSN A ss.length c ss
/-- strings and a code -/
def SCRet (l : List ByteArray) (C : Int) (w : World) (e : Ending) (w' : World) : Prop := ∃ X x, e = .returned (.tuple #[.slice X l.length x, .int .i64 C]) ∧ Kn w [rowT X x l] w'
theorem SCRet.none {C : Int} {w w' : World} (h : Below w.heap.size w w') : SCRet [] C w (.returned (.tuple #[.slice none 0 0, .int .i64 C])) w' :=
  ⟨_, _, rfl, ((Kn.nil w).keep h).nilRow _ _⟩
theorem AllOk.take {t : Tri} : ∀ {l : List (List UInt8)} {t : Tri} (k : Nat), AllOk t l → AllOk t (l.take k)
  | [], t, k, h => by rw [List.take_nil]; trivial
  | b :: l, t, 0, h => trivial
  | b :: l, t, k + 1, h => ⟨h.1, h.2.1, AllOk.take (t := t) k h.2.2⟩
theorem restL_len : ∀ (l : List ByteArray) (t : Tri), (restL t l).length ≤ 2 * l.length
  | [], t => by simp [restL]
  | b :: r, t => by
    unfold restL
    have h1 := restL_len r t
    have h2 := restL_len r (stepM t (strB b)).1
    split
    · simp; omega
    · split
      · simp only [List.length_cons]; omega
      · simp only [List.length_cons]; omega
end Go.Proofs.YtikcifpdnbhpiaaGreatDoor

namespace Go.Proofs.YtikcifpdnbhpiaaGreatDoor
open Go.RowKit Go.Sort
instance : Inhabited RS := ⟨⟨default, [], 0, 0⟩⟩
/-- where a run ends -/
noncomputable def endR (L : List Ins) (t : Tri) : RS := Classical.epsilon (fun s' => ∃ b', Ev L (.run 0 L.length) (startR t) s' b')
theorem endR_eq {L : List Ins} {t : Tri} {s' : RS} {b' : Bool} (h : Ev L (.run 0 L.length) (startR t) s' b') : endR L t = s' := by
  obtain ⟨b2, h2⟩ := Classical.epsilon_spec (p := fun s' => ∃ b', Ev L (.run 0 L.length) (startR t) s' b') ⟨s', b', h⟩
  exact (h2.one h).1
noncomputable def rpC (L : List Ins) (t : Tri) : Int := if vmach t && vprog L then (endR L t).code else 1
noncomputable def rpM (L : List Ins) (t : Tri) : Tri := if rpC L t = 0 ∧ vmach (endR L t).m = true then (endR L t).m else zTri
noncomputable def rpT (L : List Ins) (t : Tri) : List Int := if rpC L t = 0 ∧ (endR L t).tr.length ≤ 3001 then (endR L t).tr else []
theorem rp_bad {L : List Ins} {t : Tri} (h : (vmach t && vprog L) = false) : rpC L t = 1 ∧ rpM L t = zTri ∧ rpT L t = [] := by
  have h1 : rpC L t = 1 := by unfold rpC; rw [h]; rfl
  refine ⟨h1, ?_, ?_⟩
  · unfold rpM; rw [h1, if_neg (fun h => absurd h.1 (by decide))]
  · unfold rpT; rw [h1, if_neg (fun h => absurd h.1 (by decide))]
theorem rp_code {L : List Ins} {t : Tri} (h1 : vmach t = true) (h2 : vprog L = true) {s' : RS} {b' : Bool} (h : Ev L (.run 0 L.length) (startR t) s' b') (hc : ¬ s'.code = 0) : rpC L t = s'.code ∧ rpM L t = zTri ∧ rpT L t = [] := by
  have h3 : rpC L t = s'.code := by unfold rpC; rw [h1, h2, endR_eq h]; rfl
  refine ⟨h3, ?_, ?_⟩
  · unfold rpM; rw [h3, if_neg (fun h => hc h.1)]
  · unfold rpT; rw [h3, if_neg (fun h => hc h.1)]
theorem rp_fine {L : List Ins} {t : Tri} (h1 : vmach t = true) (h2 : vprog L = true) {s' : RS} {b' : Bool} (h : Ev L (.run 0 L.length) (startR t) s' b') (hg : s'.Good) (hc : s'.code = 0) : rpC L t = 0 ∧ rpM L t = s'.m ∧ rpT L t = s'.tr := by
  have h3 : rpC L t = 0 := by unfold rpC; rw [h1, h2, endR_eq h]; exact hc
  refine ⟨h3, ?_, ?_⟩
  · unfold rpM; rw [h3, endR_eq h, if_pos ⟨rfl, hg.m⟩]
  · unfold rpT; rw [h3, endR_eq h, if_pos ⟨rfl, by have := hg.tr; have := hg.top; omega⟩]
theorem rpM_len (L : List Ins) (t : Tri) : (rpM L t).a.digits.length ≤ 16 ∧ (rpM L t).b.digits.length ≤ 16 ∧ (rpM L t).s.digits.length ≤ 16 := by
  unfold rpM
  split
  · rename_i h
    have := sized_of h.2
    exact ⟨this.a, this.b, this.s⟩
  · simp [zTri]
theorem rpT_len (L : List Ins) (t : Tri) : (rpT L t).length ≤ 3001 := by
  unfold rpT
  split
  · rename_i h; exact h.2
  · simp
/-- what RunProgram returns -/
def RPRet (L : List Ins) (t : Tri) (w : World) (e : Ending) (w' : World) : Prop := ∃ A1 c1 A2 c2 A3 c3, e = .returned (.tuple #[.agg #[.int .i64 (rpM L t).a.base, .slice A1 (rpM L t).a.digits.length c1, .int .i64 (rpM L t).b.base, .slice A2 (rpM L t).b.digits.length c2, .int .i64 (rpM L t).s.base, .slice A3 (rpM L t).s.digits.length c3, .int .i64 (rpM L t).carry], .int .i64 ((rpT L t).length : Int), .int .i64 (rpC L t)]) ∧
  Kn w [rowI A3 c3 (rpM L t).s.digits, rowI A2 c2 (rpM L t).b.digits, rowI A1 c1 (rpM L t).a.digits] w'
/-- what TraceProgram returns -/
def TPRet (L : List Ins) (t : Tri) (w : World) (e : Ending) (w' : World) : Prop := ∃ A c, e = .returned (.tuple #[.slice A (rpT L t).length c, .int .i64 (rpC L t)]) ∧ Kn w [rowI A c (rpT L t)] w'
end Go.Proofs.YtikcifpdnbhpiaaGreatDoor

namespace Go.Proofs.YtikcifpdnbhpiaaGreatDoor
open Go.RowKit Go.Sort
theorem StrokeName_all (k : Int) (w : World) : Calls Tryz.prog 42 #[.int .i64 k] w fun e w' => e = .returned (.string (sname k)) ∧ Below w.heap.size w w' := by
  by_cases h : 1 ≤ k ∧ k ≤ 6
  · exact StrokeName_any k w h
  · have hs : sname k = ⟨#[]⟩ := by
      unfold sname
      rw [if_neg (by omega), if_neg (by omega), if_neg (by omega), if_neg (by omega), if_neg (by omega), if_neg (by omega)]
    have hb : betB k 1 6 = false := betB_false.2 (by omega)
    have KB := Lib.hid (fun W => calls_val (between_any k 1 6 W) (congrArg Value.bool hb))
    have KI : ∀ W, Calls Tryz.prog 73 #[.int .i64 k] W fun e w' => e = .returned (.bool false) ∧ W = w' := fun W => by
      go_enter Tryz.func73, Tryz.ntmps73
      go_wp2_with (go_at_call 66; refine (KB.out _).mono ?_; rintro e w' ⟨rfl, rfl⟩)
      go_ret
      exact ⟨rfl, rfl⟩
    have KI := Lib.hid KI
    rw [hs]
    clear hb h hs KB
    go_enter Tryz.func42, Tryz.ntmps42
    go_wp2_with (go_at_call 73; refine (KI.out _).mono ?_; rintro e w' ⟨rfl, rfl⟩)
    go_ret
    exact ⟨rfl, Below.refl _ _⟩
theorem specStrokeName_all (k : Int) (w : World) : Calls Tryz.prog 35 #[.int .i64 k] w fun e w' => e = .returned (.string (sname k)) ∧ Below w.heap.size w w' := by
  by_cases h : 1 ≤ k ∧ k ≤ 6
  · exact specStrokeName_any k w h
  · have hs : sname k = ⟨#[]⟩ := by
      unfold sname
      rw [if_neg (by omega), if_neg (by omega), if_neg (by omega), if_neg (by omega), if_neg (by omega), if_neg (by omega)]
    have hb : betB k 1 6 = false := betB_false.2 (by omega)
    have KB := Lib.hid (fun W => calls_val (l00In_any k 1 6 W) (congrArg Value.bool hb))
    have KI : ∀ W, Calls Tryz.prog 61 #[.int .i64 k] W fun e w' => e = .returned (.bool false) ∧ W = w' := fun W => by
      go_enter Tryz.func61, Tryz.ntmps61
      go_wp2_with (go_at_call 53; refine (KB.out _).mono ?_; rintro e w' ⟨rfl, rfl⟩)
      go_ret
      exact ⟨rfl, rfl⟩
    have KI := Lib.hid KI
    rw [hs]
    clear hb h hs KB
    go_enter Tryz.func35, Tryz.ntmps35
    go_wp2_with (go_at_call 61; refine (KI.out _).mono ?_; rintro e w' ⟨rfl, rfl⟩)
    go_ret
    exact ⟨rfl, by first | exact Below.refl _ _ | exact (Below.refl _ _).alloc (Nat.le_refl _) _⟩
/-- a recorded session -/
def startT (t : Tri) : ByteArray := startW ++ mtext t
def recL (t : Tri) (s : RS) : List ByteArray := startT t :: (s.tr.map sname ++ [showT s.m, endW])
def hasSet (L : List Ins) : Bool := L.any (fun x => x.op == 1)
noncomputable def rcC (L : List Ins) (t : Tri) : Int :=
  if (vmach t && vprog L) = false then 1 else if hasSet L then 6 else if (endR L t).code ≠ 0 then (endR L t).code else if (recL t (endR L t)).length > 100 then 5 else 0
noncomputable def rcR (L : List Ins) (t : Tri) : List ByteArray := if rcC L t = 0 then recL t (endR L t) else []
theorem rcR_len (L : List Ins) (t : Tri) : (rcR L t).length ≤ 100 := by
  unfold rcR
  split
  · rename_i h
    unfold rcC at h
    split at h
    · cases h
    · split at h
      · cases h
      · split at h
        · rename_i h1; exact absurd h h1
        · split at h
          · cases h
          · omega
  · simp
theorem rc_bad {L : List Ins} {t : Tri} (h : (vmach t && vprog L) = false) : rcC L t = 1 ∧ rcR L t = [] := by
  have h1 : rcC L t = 1 := by unfold rcC; rw [if_pos h]
  exact ⟨h1, by unfold rcR; rw [h1, if_neg (by decide)]⟩
theorem rc_set {L : List Ins} {t : Tri} (h : (vmach t && vprog L) = true) (hs : hasSet L = true) : rcC L t = 6 ∧ rcR L t = [] := by
  have h1 : rcC L t = 6 := by unfold rcC; rw [if_neg (by rw [h]; decide), if_pos hs]
  exact ⟨h1, by unfold rcR; rw [h1, if_neg (by decide)]⟩
theorem rc_code {L : List Ins} {t : Tri} (h : (vmach t && vprog L) = true) (hs : hasSet L = false) {s' : RS} {b' : Bool} (he : Ev L (.run 0 L.length) (startR t) s' b') (hc : s'.code ≠ 0) : rcC L t = s'.code ∧ rcR L t = [] := by
  have h1 : rcC L t = s'.code := by unfold rcC; rw [if_neg (by rw [h]; decide), hs, if_neg (by decide), endR_eq he, if_pos hc]
  exact ⟨h1, by unfold rcR; rw [h1, if_neg hc]⟩
theorem rc_fine {L : List Ins} {t : Tri} (h : (vmach t && vprog L) = true) (hs : hasSet L = false) {s' : RS} {b' : Bool} (he : Ev L (.run 0 L.length) (startR t) s' b') (hc : s'.code = 0) : rcC L t = (if (recL t s').length > 100 then 5 else 0) ∧ rcR L t = (if (recL t s').length > 100 then [] else recL t s') := by
  have h1 : rcC L t = (if (recL t s').length > 100 then 5 else 0) := by
    unfold rcC; rw [if_neg (by rw [h]; decide), hs, if_neg (by decide), endR_eq he, if_neg (fun h => h hc)]
  refine ⟨h1, ?_⟩
  unfold rcR
  rw [h1, endR_eq he]
  by_cases hl : (recL t s').length > 100
  · rw [if_pos hl, if_neg (by decide), if_pos hl]
  · rw [if_neg hl, if_pos rfl, if_neg hl]
theorem hasSet_take_succ {L : List Ins} {k : Nat} (h : k < L.length) : hasSet (L.take (k + 1)) = (hasSet (L.take k) || (L[k].op == 1)) := by
  unfold hasSet
  rw [List.take_succ_eq_append_getElem h, List.any_append]; simp
theorem hasSet_at {L : List Ins} {k : Nat} (h : k < L.length) (h1 : (L[k].op == 1) = true) : hasSet L = true := by
  unfold hasSet
  rw [List.any_eq_true]
  exact ⟨_, List.getElem_mem h, h1⟩
theorem mtext_size {t : Tri} (hv : vmach t = true) : (mtext t).size ≤ 300 := by
  obtain ⟨o1, o2, o3, y0, y1⟩ := vmach_parts hv
  have l1 := rtext_len t.a
  have l2 := rtext_len t.b
  have l3 := rtext_len t.s
  have l4 := dec_len t.carry (by omega) (by omega)
  unfold mtext
  rw [if_pos hv]
  unfold mtextL
  have e1 : (⟨#[32]⟩ : ByteArray).size = 1 := rfl
  simp only [ByteArray.size_append, size_mk, e1]
  omega
theorem small_of' {t : Tri} (h : vmach t = true) : SmallTri t := by
  have hz := sized_of h
  exact ⟨by have := hz.a; unfold SmallReg; omega, by have := hz.b; unfold SmallReg; omega, by have := hz.s; unfold SmallReg; omega⟩
end Go.Proofs.YtikcifpdnbhpiaaGreatDoor

namespace Go.Proofs.YtikcifpdnbhpiaaGreatDoor
open Go.RowKit Go.Sort
theorem kn_push2S {ops : Array Oper} {rest : List Oper} {o : Oper} {a : Act} {Q : Exit → Act → World → Prop} {w0 w : World} {m : List Ent} (hgd : o.guard = none) (s x : Operand) (ho : o.op = .call { callee := .builtin .append, args := #[s, x], argTypes := #[22, 22] })
    (v : Value) (ss : List ByteArray) (hs : a.eval s = v) {g c : Nat} {T' : TypeId} {y z : ByteArray} (hx : a.eval x = .slice (some ⟨g, 0, none⟩) 2 c)
    (hK : Kn w0 (.blk g [.string y, .string z] T' :: rowS v ss :: m) w) (hl : ss.length ≤ 10000000)
    (h : ∀ v' w', Kn w0 (rowS v' (ss ++ [y, z]) :: m) w' → wpList Tryz.prog ops Q rest (a.put o.dst v') w') : wpList Tryz.prog ops Q (o :: rest) a w := by
  refine kn_app tpS hgd s x ho v ss.length (ss.map Value.string) hs hx hK rfl (by simp [Value.oneCell']) (by omega) (by omega) (fun v' w' hK' => h v' w' ?_)
  unfold rowS
  rw [List.length_append, List.map_append, List.map_cons, List.map_cons, List.map_nil]
  exact hK'
set_option maxRecDepth 100000 in
set_option maxHeartbeats 6400000 in
theorem RecordSession_any {L : List Ins} {n lc : Nat} {LA : Option Addr} (t : Tri) (A1 A2 A3 : Option Addr) (c1 c2 c3 : Nat) (w : World) (r1 : RI w A1 t.a.digits.length t.a.digits) (r2 : RI w A2 t.b.digits.length t.b.digits) (r3 : RI w A3 t.s.digits.length t.s.digits) (hs : SmallTri t) (hr : RL InsM 2 w LA n L) (hn : n ≤ 9223372036854775807) (htb : TB w) :
    Calls Tryz.prog 19 #[.agg #[.int .i64 t.a.base, .slice A1 t.a.digits.length c1, .int .i64 t.b.base, .slice A2 t.b.digits.length c2, .int .i64 t.s.base, .slice A3 t.s.digits.length c3, .int .i64 t.carry], .slice LA n lc] w (SCRet (rcR L t) (rcC L t) w) := by
  have KV := (fun W (hW : Below w.heap.size w W) => ValidMachine_any t A1 A2 A3 c1 c2 c3 W (r1.below hW) (r2.below hW) (r3.below hW) hs)
  have KP := (fun W (hW : Below w.heap.size w W) => ValidProgram_any LA n lc L W (hr.below steady_InsM hW) hn)
  have HTB := Lib.hid (fun W (hW : Below w.heap.size w W) => TB.below htb hW)
  have hK0 := (Kn.nil w).al [.int .i64 t.a.base, .slice A1 t.a.digits.length c1, .int .i64 t.b.base, .slice A2 t.b.digits.length c2, .int .i64 t.s.base, .slice A3 t.s.digits.length c3, .int .i64 t.carry] 28
  rcases hv : vmach t with _ | _
  · rw [hv] at KV
    obtain ⟨e1, e2⟩ := rc_bad (L := L) (t := t) (by rw [hv]; rfl)
    rw [e1, e2]
    replace KV := Lib.hid KV
    clear hv KP r1 r2 r3 hr hs hn e1 e2 htb
    go_enter Tryz.func19, Tryz.ntmps19
    go_wp2_with fail
    refine Calls.kn hK0 ?_; intro w1 hK1
    refine (KV.out _ hK1.below).mono ?_; rintro e w2 ⟨rfl, hw⟩
    have hK2 := hK1.keep hw
    go_wp2_with fail
    go_ret2
    exact SCRet.none hK2.below
  rcases hp : vprog L with _ | _
  · rw [hv] at KV
    rw [hp] at KP
    obtain ⟨e1, e2⟩ := rc_bad (L := L) (t := t) (by rw [hv, hp]; rfl)
    rw [e1, e2]
    replace KV := Lib.hid KV
    replace KP := Lib.hid KP
    clear hv hp r1 r2 r3 hr hs hn e1 e2 htb
    go_enter Tryz.func19, Tryz.ntmps19
    go_wp2_with fail
    refine Calls.kn hK0 ?_; intro w1 hK1
    refine (KV.out _ hK1.below).mono ?_; rintro e w2 ⟨rfl, hw⟩
    have hK2 := hK1.keep hw
    go_wp2_with fail
    refine (KP.out _ hK2.below).mono ?_; rintro e w3 ⟨rfl, hw⟩
    have hK3 := hK2.keep hw
    go_wp2_with fail
    go_ret2
    exact SCRet.none hK3.below
  have hok : (vmach t && vprog L) = true := by rw [hv, hp]; rfl
  rw [hv] at KV
  rw [hp] at KP
  have KR := Lib.hid (fun W (hW : Below w.heap.size w W) => runProgram_any (lc := lc) t A1 A2 A3 c1 c2 c3 W (r1.below hW) (r2.below hW) (r3.below hW) hv hp (hr.below steady_InsM hW))
  have KM := (fun W (hW : Below w.heap.size w W) => MachineText_any t A1 A2 A3 c1 c2 c3 W (r1.below hW) (r2.below hW) (r3.below hW) hs (HTB.out W hW))
  have hTs := mtext_size hv
  have hsT : startT t = (⟨#[115, 116, 97, 114, 116, 32]⟩ : ByteArray) ++ mtext t := rfl
  obtain ⟨T, hT⟩ : ∃ T, mtext t = T := ⟨_, rfl⟩
  rw [hT] at KM hTs hsT
  replace KM := Lib.hid KM
  have HSTT := Lib.hid hsT
  have HR := Lib.hid (fun W (hW : Below w.heap.size w W) => hr.below steady_InsM hW)
  have HL := Lib.hid hr.1
  have HOK := Lib.hid hok
  replace KV := Lib.hid KV
  replace KP := Lib.hid KP
  obtain ⟨RC, hRC⟩ : ∃ C, rcC L t = C := ⟨_, rfl⟩
  obtain ⟨RR, hRR⟩ : ∃ C, rcR L t = C := ⟨_, rfl⟩
  rw [hRC, hRR]
  have HRC := Lib.hid hRC
  have HRR := Lib.hid hRR
  clear hv hp r1 r2 r3 hr hs hok hT hsT hRC hRR htb
  go_enter Tryz.func19, Tryz.ntmps19
  go_wp2_with fail
  refine Calls.kn hK0 ?_; intro w1 hK1
  refine (KV.out _ hK1.below).mono ?_; rintro e w2 ⟨rfl, hw⟩
  have hK2 := hK1.keep hw
  clear hK0 hK1 hw
  go_wp2_with fail
  refine (KP.out _ hK2.below).mono ?_; rintro e w3 ⟨rfl, hw⟩
  have hK3 := hK2.keep hw
  clear hK2 hw
  go_wp2_with fail
  go_loopw [22, 7] (fun ii _ wr => ∃ k : Nat, k ≤ n ∧ ii = .int .i64 k ∧ hasSet (L.take k) = false ∧ Kn w [.blk w.heap.size [.int .i64 t.a.base, .slice A1 t.a.digits.length c1, .int .i64 t.b.base, .slice A2 t.b.digits.length c2, .int .i64 t.s.base, .slice A3 t.s.digits.length c3, .int .i64 t.carry] 28] wr) (fun ii _ _ => n - (intOf ii).toNat)
  case atStart => exact ⟨0, Nat.zero_le _, rfl, rfl, hK3⟩
  case round =>
    clear hK3
    obtain ⟨k, hk, rfl, hset, hK⟩ := hrel
    have HSET := Lib.hid hset
    clear hset
    by_cases hkn : k < n
    · obtain ⟨ad, hA, hlt, hkl, hx⟩ := (HR.out wr hK.below).at_ hkn
      obtain ⟨x1, x2⟩ := hx
      have hst := hasSet_take_succ (L := L) hkl
      have hat := hasSet_at (L := L) hkl
      obtain ⟨x, hxe⟩ : ∃ x, L[k] = x := ⟨_, rfl⟩
      rw [hxe] at x1 x2 hst hat
      have HSN := Lib.hid hst
      have HAT := Lib.hid hat
      have hi0 : (0 : Int) ≤ (k : Int) := by omega
      have hi1 : (k : Int) < (n : Int) := by omega
      subst hA
      clear hxe hst hat
      rcases ho : (x.op == 1) with _ | _
      · go_wp2_with fail
        go_roundw
        case rel => exact ⟨k + 1, by omega, by go_num, by rw [HSN.out, HSET.out, ho]; rfl, hK.al_ _⟩
        case measure => simp [intOf]; omega
      · obtain ⟨e1, e2⟩ := rc_set HOK.out (HAT.out ho)
        have h1 := HRC.out
        have h2 := HRR.out
        rw [e1] at h1
        rw [e2] at h2
        subst h1
        subst h2
        clear e1 e2
        go_wp2_with fail
        go_ret2
        exact SCRet.none (hK.al_ (.cells #[.int .i64 x.op, .int .i64 x.arg] 69)).below
    · have hi1 : ¬ (k : Int) < (n : Int) := by omega
      have HNS : Hid (hasSet L = false) := by
        have h1 := HSET.out
        rwa [List.take_of_length_le (by have := HL.out; omega)] at h1
      clear HSET
      obtain ⟨a1, a2, a3⟩ := hK.blkAt
      go_wp2_with fail
      refine (KR.out _ hK.below).mono ?_; rintro e w4 ⟨g, s, b', rfl, he, ⟨SA, sc, B1, d1, B2, d2, B3, d3, hKr⟩, hg⟩
      have HE := Lib.hid he
      have HG := Lib.hid hg
      have hK5 := hK.join hKr
      clear he hg hKr hK a1 a2 a3
      obtain ⟨a1, a2, a3, b1, b2, b3, -⟩ := hK5.cells
      rcases hc0 : (s.code == 0) with _ | _
      · have hcn : s.code ≠ 0 := by simpa using hc0
        obtain ⟨e1, e2⟩ := rc_code HOK.out HNS.out HE.out hcn
        have h1 := HRC.out
        have h2 := HRR.out
        rw [e1] at h1
        rw [e2] at h2
        subst h2
        have HC := Lib.hid h1
        clear e1 e2 hcn h1
        go_wp2_with fail
        go_quiet (fail)
        go_wp2_with fail
        go_ret2
        rw [← HC.out]
        exact SCRet.none (below_drewN hK5.below _)
      · have hcn : s.code = 0 := by simpa using hc0
        obtain ⟨e1, e2⟩ := rc_fine HOK.out HNS.out HE.out hcn
        have h1 := HRC.out
        have h2 := HRR.out
        rw [e1] at h1
        rw [e2] at h2
        have HC := Lib.hid h1
        have HD := Lib.hid h2
        have hgt := HG.out.tr
        have hgp := HG.out.top
        have hmv := HG.out.m
        have hsm := small_of' hmv
        have KM2 := (fun W r1 r2 r3 hw => MachineText_any s.m B1 B2 B3 d1 d2 d3 W r1 r2 r3 hsm hw)
        have hT2s := mtext_size hmv
        have hsT2 : showT s.m = (⟨#[115, 104, 111, 119, 32]⟩ : ByteArray) ++ mtext s.m := rfl
        obtain ⟨T2, hT2⟩ : ∃ T, mtext s.m = T := ⟨_, rfl⟩
        rw [hT2] at KM2 hT2s hsT2
        replace KM2 := Lib.hid KM2
        have HSTH := Lib.hid hsT2
        clear e1 e2 h1 h2 hT2 hsT2 hmv hsm hcn
        go_wp2_with fail
        refine (KM.out _ hK5.below).mono ?_; rintro e w5 ⟨rfl, hw⟩
        have hK6 := hK5.keep hw
        clear hK5 hw a1 a2 a3 b1 b2 b3
        obtain ⟨a1, a2, a3, -⟩ := hK6.cells
        have hK7 := (hK6.al [.string ((⟨#[115, 116, 97, 114, 116, 32]⟩ : ByteArray) ++ T)] 9).litRow (n := 1) (size := 1) rfl (by decide)
        go_upto_region 13 with fail
        refine Code.wp.kn (w0 := w) (m := rowS (.slice (some ⟨w5.heap.size, 0, none⟩) 1 1) [(⟨#[115, 116, 97, 114, 116, 32]⟩ : ByteArray) ++ T] :: .blk g [.int .i64 s.m.a.base, .slice B1 s.m.a.digits.length d1, .int .i64 s.m.b.base, .slice B2 s.m.b.digits.length d2, .int .i64 s.m.s.base, .slice B3 s.m.s.digits.length d3, .int .i64 s.m.carry, .slice LA n lc, .int .i64 (s.done : Int), .slice SA s.tr.length sc, .int .i64 s.code] 83 :: rowI B3 d3 s.m.s.digits :: rowI B2 d2 s.m.b.digits :: rowI B1 d1 s.m.a.digits :: rowI SA sc s.tr :: []) (hK7.sel [0, 1, 2, 3, 4, 5] 99 (by decide) (by decide)) ?_; intro w6 hK8
        obtain ⟨gO, hgO⟩ : ∃ g, w5.heap.size = g := ⟨_, rfl⟩
        rw [hgO] at hK8 ⊢
        clear hgO hK7 hK6 a1 a2 a3
        obtain ⟨a1, a2, a3, -⟩ := hK8.cells
        go_wp2_with fail
        clear a1 a2 a3
        go_loopw [51, 9, 11] (fun ii v _ wr => ∃ (k : Nat) (O : List ByteArray) (X : Option Addr) (x : Nat), k ≤ s.tr.length ∧ ii = .int .i64 k ∧ v = .slice X O.length x ∧ O = ((⟨#[115, 116, 97, 114, 116, 32]⟩ : ByteArray) ++ T) :: (s.tr.take k).map sname ∧ Kn w (rowS (.slice X O.length x) O :: .blk g [.int .i64 s.m.a.base, .slice B1 s.m.a.digits.length d1, .int .i64 s.m.b.base, .slice B2 s.m.b.digits.length d2, .int .i64 s.m.s.base, .slice B3 s.m.s.digits.length d3, .int .i64 s.m.carry, .slice LA n lc, .int .i64 (s.done : Int), .slice SA s.tr.length sc, .int .i64 s.code] 83 :: rowI B3 d3 s.m.s.digits :: rowI B2 d2 s.m.b.digits :: rowI B1 d1 s.m.a.digits :: rowI SA sc s.tr :: []) wr) (fun ii _ _ _ => s.tr.length - (intOf ii).toNat)
        case atStart => exact ⟨0, [(⟨#[115, 116, 97, 114, 116, 32]⟩ : ByteArray) ++ T], some ⟨gO, 0, none⟩, 1, Nat.zero_le _, rfl, rfl, rfl, hK8⟩
        case round =>
          clear hK8
          obtain ⟨k, O, X, x, hk, rfl, rfl, hO, hK⟩ := hrel
          have hOl : O.length ≤ 10000 := by rw [hO]; simp; omega
          have hO10 : O.length ≤ 10000000 := by omega
          have HO := Lib.hid hO
          clear hO
          by_cases hkn : k < s.tr.length
          · obtain ⟨ad, hA, hlt, hkl, hx⟩ := (Kn.riv (hK.front 5 rfl)).at_ hkn
            obtain ⟨kd, hkd⟩ : ∃ v, s.tr[k] = v := ⟨_, rfl⟩
            rw [hkd] at hx
            have KN := (fun W => StrokeName_all kd W)
            obtain ⟨nm, hnm⟩ : ∃ v, sname kd = v := ⟨_, rfl⟩
            rw [hnm] at KN
            replace KN := Lib.hid KN
            have HNX := Lib.hid (show O ++ [nm] = ((⟨#[115, 116, 97, 114, 116, 32]⟩ : ByteArray) ++ T) :: (s.tr.take (k + 1)).map sname by
              rw [HO.out, List.take_succ_eq_append_getElem hkn, List.map_append, hkd]; simp [hnm])
            obtain ⟨O2, hO2⟩ : ∃ l, O ++ [nm] = l := ⟨_, rfl⟩
            rw [hO2] at HNX
            have HO2 := Lib.hid hO2
            have hi0 : (0 : Int) ≤ (k : Int) := by omega
            have hi1 : (k : Int) < (s.tr.length : Int) := by omega
            subst hA
            clear hkd hnm hO2
            go_wp2_with fail
            refine (KN.out _).mono ?_; rintro e w7 ⟨rfl, hw⟩
            have hK1 := hK.keep hw
            have hA : Kn w (.blk w7.heap.size [.string nm] 9 :: rowS (.slice X O.length x) O :: _) _ := hK1.al [.string nm] 9
            clear hK hw hx
            go_wp2_with (at_builtin; refine kn_pushS rfl _ _ rfl (.slice X O.length x) O rfl rfl hA hO10 ?_; intro v8 w8 hK2; rw [HO2.out] at hK2)
            obtain ⟨X8, x8, rfl⟩ := row_form hK2.at0
            go_roundw
            case rel => exact ⟨k + 1, O2, X8, x8, by omega, by go_num, rfl, HNX.out, hK2⟩
            case measure => simp [intOf]; omega
          · have hi1 : ¬ (k : Int) < (s.tr.length : Int) := by omega
            have HFIN := Lib.hid (show O ++ [(⟨#[115, 104, 111, 119, 32]⟩ : ByteArray) ++ T2, ⟨#[101, 110, 100]⟩] = recL t s by
              rw [HO.out, List.take_of_length_le (by omega)]
              unfold recL
              rw [HSTT.out, HSTH.out]
              simp [endW])
            obtain ⟨SH, hSH⟩ : ∃ l, recL t s = l := ⟨_, rfl⟩
            rw [hSH] at HFIN HC HD
            clear hSH
            have hK1 := hK.sel [1, 0, 2, 3, 4, 5] 6 (by decide) (by decide)
            obtain ⟨a1, a2, a3, -⟩ := hK1.cells
            go_wp2_with fail
            refine (KM2.out _ (Kn.riv (hK.front 4 rfl)) (Kn.riv (hK.front 3 rfl)) (Kn.riv (hK.front 2 rfl)) (HTB.out _ hK.below)).mono ?_; rintro e w7 ⟨rfl, hw⟩
            have hK2 := hK.keep hw
            have hA : Kn w (.blk w7.heap.size [.string ((⟨#[115, 104, 111, 119, 32]⟩ : ByteArray) ++ T2), .string ⟨#[101, 110, 100]⟩] 9 :: rowS (.slice X O.length x) O :: _) _ := hK2.al [.string ((⟨#[115, 104, 111, 119, 32]⟩ : ByteArray) ++ T2), .string ⟨#[101, 110, 100]⟩] 9
            clear hK hK1 hw a1 a2 a3
            by_cases h1 : SH.length > 100
            · have h2 : (100 : Int) < (SH.length : Int) := by omega
              have h3 := HD.out
              have h4 := HC.out
              rw [if_pos h1] at h3 h4
              subst h3
              subst h4
              go_wp2_with (at_builtin; refine kn_push2S rfl _ _ rfl (.slice X O.length x) O rfl rfl hA hO10 ?_; intro v8 w8 hK8; rw [HFIN.out] at hK8; obtain ⟨X8, x8, rfl⟩ := row_form hK8.at0)
              go_ret2
              exact SCRet.none hK8.below
            · have h2 : ¬ (100 : Int) < (SH.length : Int) := by omega
              have h3 := HD.out
              have h4 := HC.out
              rw [if_neg h1] at h3 h4
              subst h3
              subst h4
              go_wp2_with (at_builtin; refine kn_push2S rfl _ _ rfl (.slice X O.length x) O rfl rfl hA hO10 ?_; intro v8 w8 hK8; rw [HFIN.out] at hK8; obtain ⟨X8, x8, rfl⟩ := row_form hK8.at0)
              go_ret2
              exact ⟨X8, x8, rfl, hK8.sel [0] 99 (by decide) (by decide)⟩
end Go.Proofs.YtikcifpdnbhpiaaGreatDoor

namespace Go.Proofs.YtikcifpdnbhpiaaGreatDoor
open Go.RowKit Go.Sort
set_option maxRecDepth 100000 in
set_option maxHeartbeats 6400000 in
theorem specRecordSession_any {L : List Ins} {n lc : Nat} {LA : Option Addr} (t : Tri) (A1 A2 A3 : Option Addr) (c1 c2 c3 : Nat) (w : World) (r1 : RI w A1 t.a.digits.length t.a.digits) (r2 : RI w A2 t.b.digits.length t.b.digits) (r3 : RI w A3 t.s.digits.length t.s.digits) (hs : SmallTri t) (hr : RL InsM 2 w LA n L) (hn : n ≤ 9223372036854775807) :
    Calls Tryz.prog 16 #[.agg #[.int .i64 t.a.base, .slice A1 t.a.digits.length c1, .int .i64 t.b.base, .slice A2 t.b.digits.length c2, .int .i64 t.s.base, .slice A3 t.s.digits.length c3, .int .i64 t.carry], .slice LA n lc] w (SCRet (rcR L t) (rcC L t) w) := by
  have hTC : ∀ W, Kn w [.blk w.heap.size [.int .i64 t.a.base, .slice A1 t.a.digits.length c1, .int .i64 t.b.base, .slice A2 t.b.digits.length c2, .int .i64 t.s.base, .slice A3 t.s.digits.length c3, .int .i64 t.carry] 28] W → TriC W ⟨w.heap.size, 0, none⟩ t A1 c1 A2 c2 A3 c3 := fun W h => ⟨⟨h.blkAt.1 0, h.blkAt.1 1, h.blkAt.1 2, h.blkAt.1 3, h.blkAt.1 4, h.blkAt.1 5, h.blkAt.1 6⟩, r1.below h.below, r2.below h.below, r3.below h.below⟩
  have KV := (fun W (hW : Kn w [.blk w.heap.size [.int .i64 t.a.base, .slice A1 t.a.digits.length c1, .int .i64 t.b.base, .slice A2 t.b.digits.length c2, .int .i64 t.s.base, .slice A3 t.s.digits.length c3, .int .i64 t.carry] 28] W) => l10Ok_any ⟨w.heap.size, 0, none⟩ t W (hTC W hW).tri hs)
  have KP := (fun W (hW : Below w.heap.size w W) => l11Ok_any LA n lc L W (hr.below steady_InsM hW) hn)
  have hK0 := (Kn.nil w).al [.int .i64 t.a.base, .slice A1 t.a.digits.length c1, .int .i64 t.b.base, .slice A2 t.b.digits.length c2, .int .i64 t.s.base, .slice A3 t.s.digits.length c3, .int .i64 t.carry] 28
  rcases hv : vmach t with _ | _
  · rw [hv] at KV
    obtain ⟨e1, e2⟩ := rc_bad (L := L) (t := t) (by rw [hv]; rfl)
    rw [e1, e2]
    replace KV := Lib.hid KV
    clear hv KP hTC r1 r2 r3 hr hs hn e1 e2
    go_enter Tryz.func16, Tryz.ntmps16
    go_wp2_with fail
    refine Calls.kn hK0 ?_; intro w1 hK1
    refine (KV.out _ hK1).mono ?_; rintro e w2 ⟨rfl, q, rfl⟩
    have hK2 := hK1.drewN q
    generalize w1.drewN q = w2 at hK2 ⊢
    go_wp2_with fail
    go_ret2
    exact SCRet.none hK2.below
  rcases hp : vprog L with _ | _
  · rw [hv] at KV
    rw [hp] at KP
    obtain ⟨e1, e2⟩ := rc_bad (L := L) (t := t) (by rw [hv, hp]; rfl)
    rw [e1, e2]
    replace KV := Lib.hid KV
    replace KP := Lib.hid KP
    clear hv hp hTC r1 r2 r3 hr hs hn e1 e2
    go_enter Tryz.func16, Tryz.ntmps16
    go_wp2_with fail
    refine Calls.kn hK0 ?_; intro w1 hK1
    refine (KV.out _ hK1).mono ?_; rintro e w2 ⟨rfl, q, rfl⟩
    have hK2 := hK1.drewN q
    generalize w1.drewN q = w2 at hK2 ⊢
    go_wp2_with fail
    refine (KP.out _ hK2.below).mono ?_; rintro e w3 ⟨rfl, q, rfl⟩
    have hK3 := hK2.drewN q
    go_wp2_with fail
    go_ret2
    exact SCRet.none hK3.below
  have hok : (vmach t && vprog L) = true := by rw [hv, hp]; rfl
  rw [hv] at KV
  rw [hp] at KP
  have KR := Lib.hid (fun W (hW : Kn w [.blk w.heap.size [.int .i64 t.a.base, .slice A1 t.a.digits.length c1, .int .i64 t.b.base, .slice A2 t.b.digits.length c2, .int .i64 t.s.base, .slice A3 t.s.digits.length c3, .int .i64 t.carry] 28] W) => l11Run_any (lc := lc) w.heap.size t A1 A2 A3 c1 c2 c3 W (hTC W hW) hv hp (hr.below steady_InsM hW.below))
  have hml : mtext t = mtextL t := by unfold mtext; rw [if_pos hv]
  have KM := (fun W (hW : Kn w [.blk w.heap.size [.int .i64 t.a.base, .slice A1 t.a.digits.length c1, .int .i64 t.b.base, .slice A2 t.b.digits.length c2, .int .i64 t.s.base, .slice A3 t.s.digits.length c3, .int .i64 t.carry] 28] W) => l10Text_any ⟨w.heap.size, 0, none⟩ t W (hTC W hW).tri hW.blkAt.2.2 hv)
  rw [← hml] at KM
  clear hml
  have hTs := mtext_size hv
  have hsT : startT t = (⟨#[115, 116, 97, 114, 116, 32]⟩ : ByteArray) ++ mtext t := rfl
  obtain ⟨T, hT⟩ : ∃ T, mtext t = T := ⟨_, rfl⟩
  rw [hT] at KM hTs hsT
  replace KM := Lib.hid KM
  have HSTT := Lib.hid hsT
  have HR := Lib.hid (fun W (hW : Below w.heap.size w W) => hr.below steady_InsM hW)
  have HL := Lib.hid hr.1
  have HOK := Lib.hid hok
  replace KV := Lib.hid KV
  replace KP := Lib.hid KP
  obtain ⟨RC, hRC⟩ : ∃ C, rcC L t = C := ⟨_, rfl⟩
  obtain ⟨RR, hRR⟩ : ∃ C, rcR L t = C := ⟨_, rfl⟩
  rw [hRC, hRR]
  have HRC := Lib.hid hRC
  have HRR := Lib.hid hRR
  clear hv hp hTC r1 r2 r3 hr hs hok hT hsT hRC hRR
  go_enter Tryz.func16, Tryz.ntmps16
  go_wp2_with fail
  refine Calls.kn hK0 ?_; intro w1 hK1
  refine (KV.out _ hK1).mono ?_; rintro e w2 ⟨rfl, q, rfl⟩
  have hK2 := hK1.drewN q
  generalize w1.drewN q = w2 at hK2 ⊢
  clear hK0 hK1
  go_wp2_with fail
  refine (KP.out _ hK2.below).mono ?_; rintro e w3 ⟨rfl, q, rfl⟩
  have hK3 := hK2.drewN q
  generalize w2.drewN q = w3 at hK3 ⊢
  clear hK2
  go_wp2_with fail
  go_loopw [6] (fun ii wr => ∃ k : Nat, k ≤ n ∧ ii = .int .i64 k ∧ hasSet (L.take k) = false ∧ Kn w [.blk w.heap.size [.int .i64 t.a.base, .slice A1 t.a.digits.length c1, .int .i64 t.b.base, .slice A2 t.b.digits.length c2, .int .i64 t.s.base, .slice A3 t.s.digits.length c3, .int .i64 t.carry] 28] wr) (fun ii _ => n - (intOf ii).toNat)
  case atStart => exact ⟨0, Nat.zero_le _, rfl, rfl, hK3⟩
  case round =>
    clear hK3
    obtain ⟨k, hk, rfl, hset, hK⟩ := hrel
    have HSET := Lib.hid hset
    clear hset
    by_cases hkn : k < n
    · obtain ⟨ad, hA, hlt, hkl, hx⟩ := (HR.out wr hK.below).at_ hkn
      obtain ⟨x1, x2⟩ := hx
      have hst := hasSet_take_succ (L := L) hkl
      have hat := hasSet_at (L := L) hkl
      obtain ⟨x, hxe⟩ : ∃ x, L[k] = x := ⟨_, rfl⟩
      rw [hxe] at x1 x2 hst hat
      have HSN := Lib.hid hst
      have HAT := Lib.hid hat
      have hi0 : (0 : Int) ≤ (k : Int) := by omega
      have hi1 : (k : Int) < (n : Int) := by omega
      subst hA
      clear hxe hst hat
      rcases ho : (x.op == 1) with _ | _
      · go_wp2_with fail
        go_roundw
        case rel => exact ⟨k + 1, by omega, by go_num, by rw [HSN.out, HSET.out, ho]; rfl, hK⟩
        case measure => simp [intOf]; omega
      · obtain ⟨e1, e2⟩ := rc_set HOK.out (HAT.out ho)
        have h1 := HRC.out
        have h2 := HRR.out
        rw [e1] at h1
        rw [e2] at h2
        subst h1
        subst h2
        clear e1 e2
        go_wp2_with fail
        go_ret2
        exact SCRet.none hK.below
    · have hi1 : ¬ (k : Int) < (n : Int) := by omega
      have HNS : Hid (hasSet L = false) := by
        have h1 := HSET.out
        rwa [List.take_of_length_le (by have := HL.out; omega)] at h1
      clear HSET
      obtain ⟨a1, a2, a3⟩ := hK.blkAt
      go_wp2_with fail
      refine (KR.out _ hK).mono ?_; rintro e w4 ⟨g, s, b', bl, rfl, he, ⟨SA, sc, B1, d1, B2, d2, B3, d3, hKr⟩, hg⟩
      have HE := Lib.hid he
      have HG := Lib.hid hg
      have hK5 := hK.join hKr
      clear he hg hKr hK a1 a2 a3
      obtain ⟨a1, a2, a3, b1, b2, b3, -⟩ := hK5.cells
      rcases hc0 : (s.code == 0) with _ | _
      · have hcn : s.code ≠ 0 := by simpa using hc0
        obtain ⟨e1, e2⟩ := rc_code HOK.out HNS.out HE.out hcn
        have h1 := HRC.out
        have h2 := HRR.out
        rw [e1] at h1
        rw [e2] at h2
        subst h2
        have HC := Lib.hid h1
        clear e1 e2 hcn h1
        go_wp2_with fail
        go_quiet (fail)
        go_wp2_with fail
        go_ret2
        rw [← HC.out]
        exact SCRet.none (below_drewN hK5.below _)
      · have hcn : s.code = 0 := by simpa using hc0
        obtain ⟨e1, e2⟩ := rc_fine HOK.out HNS.out HE.out hcn
        have h1 := HRC.out
        have h2 := HRR.out
        rw [e1] at h1
        rw [e2] at h2
        have HC := Lib.hid h1
        have HD := Lib.hid h2
        have hgt := HG.out.tr
        have hgp := HG.out.top
        have hmv := HG.out.m
        have hsm := small_of' hmv
        have hml : mtext s.m = mtextL s.m := by unfold mtext; rw [if_pos hmv]
        have KM2 := (fun (gq : Nat) (W : World) (hW : TriM W ⟨gq, 0, none⟩ s.m) (hlt : gq < W.heap.size) => l10Text_any ⟨gq, 0, none⟩ s.m W hW hlt hmv)
        rw [← hml] at KM2
        clear hml
        have hT2s := mtext_size hmv
        have hsT2 : showT s.m = (⟨#[115, 104, 111, 119, 32]⟩ : ByteArray) ++ mtext s.m := rfl
        obtain ⟨T2, hT2⟩ : ∃ T, mtext s.m = T := ⟨_, rfl⟩
        rw [hT2] at KM2 hT2s hsT2
        replace KM2 := Lib.hid KM2
        have HSTH := Lib.hid hsT2
        clear e1 e2 h1 h2 hT2 hsT2 hmv hsm hcn
        go_wp2_with fail
        refine (KM.out _ (hK5.sel [5] 99 (by decide) (by decide))).mono ?_; rintro e w5 ⟨rfl, hw⟩
        have hK6 := hK5.keep hw
        clear hK5 hw a1 a2 a3 b1 b2 b3
        obtain ⟨a1, a2, a3, -⟩ := hK6.cells
        have hK7 := (hK6.al [.string ((⟨#[115, 116, 97, 114, 116, 32]⟩ : ByteArray) ++ T)] 9).litRow (n := 1) (size := 1) rfl (by decide)
        go_upto_region 12 with fail
        refine Code.wp.kn (w0 := w) (m := rowS (.slice (some ⟨w5.heap.size, 0, none⟩) 1 1) [(⟨#[115, 116, 97, 114, 116, 32]⟩ : ByteArray) ++ T] :: .blk g [.int .i64 s.m.a.base, .slice B1 s.m.a.digits.length d1, .int .i64 s.m.b.base, .slice B2 s.m.b.digits.length d2, .int .i64 s.m.s.base, .slice B3 s.m.s.digits.length d3, .int .i64 s.m.carry, .slice LA n lc, .slice SA s.tr.length sc, .int .i64 (s.done : Int), .bool bl, .int .i64 s.code] 73 :: rowI B3 d3 s.m.s.digits :: rowI B2 d2 s.m.b.digits :: rowI B1 d1 s.m.a.digits :: rowI SA sc s.tr :: []) (hK7.sel [0, 1, 2, 3, 4, 5] 99 (by decide) (by decide)) ?_; intro w6 hK8
        obtain ⟨gO, hgO⟩ : ∃ g, w5.heap.size = g := ⟨_, rfl⟩
        rw [hgO] at hK8 ⊢
        clear hgO hK7 hK6 a1 a2 a3
        obtain ⟨a1, a2, a3, -⟩ := hK8.cells
        go_wp2_with fail
        clear a1 a2 a3
        go_loopw [9, 8] (fun ii v wr => ∃ (k : Nat) (O : List ByteArray) (X : Option Addr) (x : Nat), k ≤ s.tr.length ∧ ii = .int .i64 k ∧ v = .slice X O.length x ∧ O = ((⟨#[115, 116, 97, 114, 116, 32]⟩ : ByteArray) ++ T) :: (s.tr.take k).map sname ∧ Kn w (rowS (.slice X O.length x) O :: .blk g [.int .i64 s.m.a.base, .slice B1 s.m.a.digits.length d1, .int .i64 s.m.b.base, .slice B2 s.m.b.digits.length d2, .int .i64 s.m.s.base, .slice B3 s.m.s.digits.length d3, .int .i64 s.m.carry, .slice LA n lc, .slice SA s.tr.length sc, .int .i64 (s.done : Int), .bool bl, .int .i64 s.code] 73 :: rowI B3 d3 s.m.s.digits :: rowI B2 d2 s.m.b.digits :: rowI B1 d1 s.m.a.digits :: rowI SA sc s.tr :: []) wr) (fun ii _ _ => s.tr.length - (intOf ii).toNat)
        case atStart => exact ⟨0, [(⟨#[115, 116, 97, 114, 116, 32]⟩ : ByteArray) ++ T], some ⟨gO, 0, none⟩, 1, Nat.zero_le _, rfl, rfl, rfl, hK8⟩
        case round =>
          clear hK8
          obtain ⟨k, O, X, x, hk, rfl, rfl, hO, hK⟩ := hrel
          have hOl : O.length ≤ 10000 := by rw [hO]; simp; omega
          have hO10 : O.length ≤ 10000000 := by omega
          have HO := Lib.hid hO
          clear hO
          by_cases hkn : k < s.tr.length
          · obtain ⟨ad, hA, hlt, hkl, hx⟩ := (Kn.riv (hK.front 5 rfl)).at_ hkn
            obtain ⟨kd, hkd⟩ : ∃ v, s.tr[k] = v := ⟨_, rfl⟩
            rw [hkd] at hx
            have KN := (fun W => specStrokeName_all kd W)
            obtain ⟨nm, hnm⟩ : ∃ v, sname kd = v := ⟨_, rfl⟩
            rw [hnm] at KN
            replace KN := Lib.hid KN
            have HNX := Lib.hid (show O ++ [nm] = ((⟨#[115, 116, 97, 114, 116, 32]⟩ : ByteArray) ++ T) :: (s.tr.take (k + 1)).map sname by
              rw [HO.out, List.take_succ_eq_append_getElem hkn, List.map_append, hkd]; simp [hnm])
            obtain ⟨O2, hO2⟩ : ∃ l, O ++ [nm] = l := ⟨_, rfl⟩
            rw [hO2] at HNX
            have HO2 := Lib.hid hO2
            have hi0 : (0 : Int) ≤ (k : Int) := by omega
            have hi1 : (k : Int) < (s.tr.length : Int) := by omega
            subst hA
            clear hkd hnm hO2
            obtain ⟨a1, a2, a3⟩ := (hK.front 1 rfl).blkAt
            go_wp2_with fail
            refine (KN.out _).mono ?_; rintro e w7 ⟨rfl, hw⟩
            have hK1 := hK.keep hw
            have hA : Kn w (.blk w7.heap.size [.string nm] 9 :: rowS (.slice X O.length x) O :: _) _ := hK1.al [.string nm] 9
            clear hK hw hx a1 a2 a3
            go_wp2_with (at_builtin; refine kn_pushS rfl _ _ rfl (.slice X O.length x) O rfl rfl hA hO10 ?_; intro v8 w8 hK2; rw [HO2.out] at hK2)
            obtain ⟨X8, x8, rfl⟩ := row_form hK2.at0
            go_roundw
            case rel => exact ⟨k + 1, O2, X8, x8, by omega, by go_num, rfl, HNX.out, hK2⟩
            case measure => simp [intOf]; omega
          · have hi1 : ¬ (k : Int) < (s.tr.length : Int) := by omega
            have HFIN := Lib.hid (show O ++ [(⟨#[115, 104, 111, 119, 32]⟩ : ByteArray) ++ T2, ⟨#[101, 110, 100]⟩] = recL t s by
              rw [HO.out, List.take_of_length_le (by omega)]
              unfold recL
              rw [HSTT.out, HSTH.out]
              simp [endW])
            obtain ⟨SH, hSH⟩ : ∃ l, recL t s = l := ⟨_, rfl⟩
            rw [hSH] at HFIN HC HD
            clear hSH
            have hK1 := hK.sel [1, 0, 2, 3, 4, 5] 6 (by decide) (by decide)
            obtain ⟨a1, a2, a3, -⟩ := hK1.cells
            go_wp2_with fail
            refine (KM2.out g _ (TriC.tri (w := wr) (b := g) (o := 0) (t := s.m) ⟨⟨hK1.blkAt.1 0, hK1.blkAt.1 1, hK1.blkAt.1 2, hK1.blkAt.1 3, hK1.blkAt.1 4, hK1.blkAt.1 5, hK1.blkAt.1 6⟩, Kn.riv (hK.front 4 rfl), Kn.riv (hK.front 3 rfl), Kn.riv (hK.front 2 rfl)⟩) hK1.blkAt.2.2).mono ?_; rintro e w7 ⟨rfl, hw⟩
            have hK2 := hK.keep hw
            have hA : Kn w (.blk w7.heap.size [.string ((⟨#[115, 104, 111, 119, 32]⟩ : ByteArray) ++ T2), .string ⟨#[101, 110, 100]⟩] 9 :: rowS (.slice X O.length x) O :: _) _ := hK2.al [.string ((⟨#[115, 104, 111, 119, 32]⟩ : ByteArray) ++ T2), .string ⟨#[101, 110, 100]⟩] 9
            clear hK hK1 hw a1 a2 a3
            by_cases h1 : SH.length > 100
            · have h2 : (100 : Int) < (SH.length : Int) := by omega
              have h3 := HD.out
              have h4 := HC.out
              rw [if_pos h1] at h3 h4
              subst h3
              subst h4
              go_wp2_with (at_builtin; refine kn_push2S rfl _ _ rfl (.slice X O.length x) O rfl rfl hA hO10 ?_; intro v8 w8 hK8; rw [HFIN.out] at hK8; obtain ⟨X8, x8, rfl⟩ := row_form hK8.at0)
              go_ret2
              exact SCRet.none hK8.below
            · have h2 : ¬ (100 : Int) < (SH.length : Int) := by omega
              have h3 := HD.out
              have h4 := HC.out
              rw [if_neg h1] at h3 h4
              subst h3
              subst h4
              go_wp2_with (at_builtin; refine kn_push2S rfl _ _ rfl (.slice X O.length x) O rfl rfl hA hO10 ?_; intro v8 w8 hK8; rw [HFIN.out] at hK8; obtain ⟨X8, x8, rfl⟩ := row_form hK8.at0)
              go_ret2
              exact ⟨X8, x8, rfl, hK8.sel [0] 99 (by decide) (by decide)⟩
end Go.Proofs.YtikcifpdnbhpiaaGreatDoor

namespace Go.Proofs.YtikcifpdnbhpiaaGreatDoor
open Go.RowKit Go.Sort
set_option maxRecDepth 100000 in
set_option maxHeartbeats 6400000 in
theorem law_RecordSession (b1 b2 b3 cy : Int) (A1 A2 A3 : Option Addr) (n1 n2 n3 c1 c2 c3 : Nat) (d1 d2 d3 : List Int) (LA : Option Addr) (ln lc : Nat) (L : List Ins) (w : World) (r1 : RI w A1 n1 d1) (r2 : RI w A2 n2 d2) (r3 : RI w A3 n3 d3) (m1 : n1 ≤ 9223372036854775807) (m2 : n2 ≤ 9223372036854775807) (m3 : n3 ≤ 9223372036854775807) (hr : RL InsM 2 w LA ln L) (hln : ln ≤ 9223372036854775807) (ht : TB w) :
    Calls Tryz.prog 4 #[.agg #[.int .i64 b1, .slice A1 n1 c1, .int .i64 b2, .slice A2 n2 c2, .int .i64 b3, .slice A3 n3 c3, .int .i64 cy], .slice LA ln lc] w fun e w' => e = .returned (.bool true) ∧ Below w.heap.size w w' := by
  have hB0 := (Kn.nil w).al [.int .i64 b1, .slice A1 n1 c1, .int .i64 b2, .slice A2 n2 c2, .int .i64 b3, .slice A3 n3 c3, .int .i64 cy] 38
  have HID0 := True.intro
  obtain ⟨v1, v2⟩ := lf3_lo n1 n2 n3 (by omega) (by omega) (by omega)
  by_cases hneg : lft3 1048576 n1 n2 n3 < 0
  · go_enter Tryz.func4, Tryz.ntmps4
    go_wp2_with fail
    refine Calls.kn hB0 ?_; intro w1 hK
    refine (szMachine_any b1 b2 b3 cy A1 A2 A3 _ _ _ c1 c2 c3 1048576 _ (by omega) (by omega) m1 m2 m3).mono ?_; rintro e w2 ⟨rfl, hw⟩
    have hK := hK.keep hw
    go_wp2_with fail
    go_ret
    exact ⟨rfl, hK.below⟩
  obtain ⟨s1, s2, s3⟩ := lf3_small (by omega) (by omega) (by omega) hneg
  have hl0 : 0 ≤ lft3 1048576 n1 n2 n3 := by omega
  have hl1 : lft3 1048576 n1 n2 n3 ≤ 1048576 := by omega
  by_cases hpl : (ln : Int) ≤ lft3 1048576 n1 n2 n3
  rotate_left
  · have hpn := hpl
    go_enter Tryz.func4, Tryz.ntmps4
    go_wp2_with fail
    refine Calls.kn hB0 ?_; intro w1 hK
    refine (szMachine_any b1 b2 b3 cy A1 A2 A3 _ _ _ c1 c2 c3 1048576 _ (by omega) (by omega) m1 m2 m3).mono ?_; rintro e w2 ⟨rfl, hw⟩
    have hK := hK.keep hw
    go_wp2_with fail
    refine (szInstrS_any LA ln lc _ _ (by first | exact hl0 | omega) (by first | exact hl1 | omega) hln).mono ?_; rintro e w3 ⟨rfl, hww⟩
    subst hww
    rw [if_neg (by omega)]
    go_wp2_with fail
    go_ret
    exact ⟨rfl, hK.below⟩
  have hlb : ln ≤ 1048576 := by omega
  have hpm : ¬ (lft3 1048576 n1 n2 n3 - (ln : Int) < 0) := by omega
  obtain rfl : d1.length = n1 := r1.1
  obtain rfl : d2.length = n2 := r2.1
  obtain rfl : d3.length = n3 := r3.1
  have hsm : SmallTri ⟨⟨b1, d1⟩, ⟨b2, d2⟩, ⟨b3, d3⟩, cy⟩ := by unfold SmallTri SmallReg; simp only; omega
  have TM := Lib.hid (fun W (hW : Below w.heap.size w W) => toMachine_kn b1 b2 b3 cy A1 A2 A3 _ _ _ c1 c2 c3 d1 d2 d3 W (r1.below hW) (r2.below hW) (r3.below hW) (by omega) (by omega) (by omega))
  obtain ⟨mk, hmk⟩ : ∃ mk : Int, (1 : Int) + d1.length + d2.length + d3.length = mk := ⟨_, rfl⟩
  have hmk0 : ¬ mk < 0 := by omega
  have hmk1 : 0 ≤ mk ∧ mk ≤ 4000000 := by omega
  have HMK := Lib.hid hmk
  have TP := Lib.hid (fun W (hW : Below w.heap.size w W) => toInstrS_kn LA ln lc L W (hr.below steady_InsM hW) hlb)
  have HLL := Lib.hid hr.1
  have HTB := Lib.hid (fun W (hW : Below w.heap.size w W) => TB.below ht hW)
  have KS := (fun (X1 : Option Addr) (x1 : Nat) (X2 : Option Addr) (x2 : Nat) (X3 : Option Addr) (x3 : Nat) (PA : Option Addr) (pa : Nat) W h1 h2 h3 hp (hW : Below w.heap.size w W) => specRecordSession_any (lc := pa) ⟨⟨b1, d1⟩, ⟨b2, d2⟩, ⟨b3, d3⟩, cy⟩ X1 X2 X3 x1 x2 x3 W h1 h2 h3 hsm (LA := PA) (n := ln) (L := L) hp (by omega))
  have KI := (fun (X1 : Option Addr) (x1 : Nat) (X2 : Option Addr) (x2 : Nat) (X3 : Option Addr) (x3 : Nat) (PA : Option Addr) (pa : Nat) W h1 h2 h3 hp (hW : Below w.heap.size w W) => RecordSession_any (lc := pa) ⟨⟨b1, d1⟩, ⟨b2, d2⟩, ⟨b3, d3⟩, cy⟩ X1 X2 X3 x1 x2 x3 W h1 h2 h3 hsm (LA := PA) (n := ln) (L := L) hp (by omega) (HTB.out W hW))
  unfold SCRet at KS KI
  have ls := rcR_len L ⟨⟨b1, d1⟩, ⟨b2, d2⟩, ⟨b3, d3⟩, cy⟩
  obtain ⟨RS_, hRS⟩ : ∃ x : List ByteArray, rcR L ⟨⟨b1, d1⟩, ⟨b2, d2⟩, ⟨b3, d3⟩, cy⟩ = x := ⟨_, rfl⟩
  rw [hRS] at KS KI ls
  clear hRS
  obtain ⟨ks, hks⟩ : ∃ n, RS_.length = n := ⟨_, rfl⟩
  unfold rowT at KI KS
  rw [hks] at KS KI ls
  clear hks
  obtain ⟨RI1, hRI1⟩ : ∃ x, rcC L ⟨⟨b1, d1⟩, ⟨b2, d2⟩, ⟨b3, d3⟩, cy⟩ = x := ⟨_, rfl⟩
  rw [hRI1] at KS KI
  clear hRI1
  have KS := Lib.hid KS
  have KI := Lib.hid KI
  clear hmk r1 r2 r3 hr
  go_enter Tryz.func4, Tryz.ntmps4
  go_wp2_with fail
  refine Calls.kn hB0 ?_; intro w1 hK
  refine (szMachine_any b1 b2 b3 cy A1 A2 A3 _ _ _ c1 c2 c3 1048576 _ (by omega) (by omega) m1 m2 m3).mono ?_; rintro e w2 ⟨rfl, hw⟩
  have hK := hK.keep hw
  go_wp2_with fail
  refine (szInstrS_any LA ln lc _ _ (by first | exact hl0 | omega) (by first | exact hl1 | omega) hln).mono ?_; rintro e w3 ⟨rfl, hww⟩
  subst hww
  rw [if_pos (by omega)]
  clear hB0
  have hK : Kn w [.blk w.heap.size [.int .i64 b1, .slice A1 d1.length c1, .int .i64 b2, .slice A2 d2.length c2, .int .i64 b3, .slice A3 d3.length c3, .int .i64 cy] 38] w2 := hK
  obtain ⟨q0, p0, o0, -⟩ := hK.cells
  go_wp2_with fail
  clear q0 p0 o0
  refine (TM.out _ hK.below).mono ?_; rintro e w4 ⟨X11, x11, X12, x12, X13, x13, rfl, hKn⟩
  have hK : Kn w [rowN X13 d3.length x13 d3, rowN X12 d2.length x12 d2, rowN X11 d1.length x11 d1, .blk w.heap.size [.int .i64 b1, .slice A1 d1.length c1, .int .i64 b2, .slice A2 d2.length c2, .int .i64 b3, .slice A3 d3.length c3, .int .i64 cy] 38] w4 := hK.join hKn
  clear hKn
  obtain ⟨q0, p0, o0, -⟩ := hK.cells
  go_wp2_with fail
  clear q0 p0 o0
  refine (TP.out _ hK.below).mono ?_; rintro e w5 ⟨X2, x2, rfl, hKn⟩
  have hK : Kn w [rowInsN X2 ln x2 L, rowN X13 d3.length x13 d3, rowN X12 d2.length x12 d2, rowN X11 d1.length x11 d1, .blk w.heap.size [.int .i64 b1, .slice A1 d1.length c1, .int .i64 b2, .slice A2 d2.length c2, .int .i64 b3, .slice A3 d3.length c3, .int .i64 cy] 38] w5 := hK.join hKn
  clear hKn
  obtain ⟨q0, p0, o0, -⟩ := hK.cells
  go_wp2_with fail
  clear q0 p0 o0
  refine (KS.out X11 x11 X12 x12 X13 x13 X2 x2 _ (Kn.riN (hK.sel [3] 99 (by decide) (by decide))) (Kn.riN (hK.sel [2] 99 (by decide) (by decide))) (Kn.riN (hK.sel [1] 99 (by decide) (by decide))) ((hK.sel [0] 99 (by decide) (by decide)).rlInsN HLL.out) hK.below).mono ?_; rintro e w6 ⟨SS, ss, rfl, hKn⟩
  have hK : Kn w [rowSN SS ks ss RS_, rowInsN X2 ln x2 L, rowN X13 d3.length x13 d3, rowN X12 d2.length x12 d2, rowN X11 d1.length x11 d1, .blk w.heap.size [.int .i64 b1, .slice A1 d1.length c1, .int .i64 b2, .slice A2 d2.length c2, .int .i64 b3, .slice A3 d3.length c3, .int .i64 cy] 38] w6 := hK.join hKn
  clear hKn
  obtain ⟨q0, p0, o0, -⟩ := hK.cells
  go_wp2_with fail
  clear q0 p0 o0
  refine (TM.out _ hK.below).mono ?_; rintro e w7 ⟨X31, x31, X32, x32, X33, x33, rfl, hKn⟩
  have hK : Kn w [rowN X33 d3.length x33 d3, rowN X32 d2.length x32 d2, rowN X31 d1.length x31 d1, rowSN SS ks ss RS_, rowInsN X2 ln x2 L, rowN X13 d3.length x13 d3, rowN X12 d2.length x12 d2, rowN X11 d1.length x11 d1, .blk w.heap.size [.int .i64 b1, .slice A1 d1.length c1, .int .i64 b2, .slice A2 d2.length c2, .int .i64 b3, .slice A3 d3.length c3, .int .i64 cy] 38] w7 := hK.join hKn
  clear hKn
  obtain ⟨q0, p0, o0, -⟩ := hK.cells
  go_wp2_with fail
  have hK' := (hK.al [.int .i64 b1, .slice X31 d1.length x31, .int .i64 b2, .slice X32 d2.length x32, .int .i64 b3, .slice X33 d3.length x33, .int .i64 cy] 28)
  refine Calls.kn hK' ?_; clear hK'; intro w8 hK'
  clear q0 p0 o0
  have hK : Kn w [.blk w7.heap.size [.int .i64 b1, .slice X31 d1.length x31, .int .i64 b2, .slice X32 d2.length x32, .int .i64 b3, .slice X33 d3.length x33, .int .i64 cy] 28, rowN X33 d3.length x33 d3, rowN X32 d2.length x32 d2, rowN X31 d1.length x31 d1, rowSN SS ks ss RS_, rowInsN X2 ln x2 L, rowN X13 d3.length x13 d3, rowN X12 d2.length x12 d2, rowN X11 d1.length x11 d1, .blk w.heap.size [.int .i64 b1, .slice A1 d1.length c1, .int .i64 b2, .slice A2 d2.length c2, .int .i64 b3, .slice A3 d3.length c3, .int .i64 cy] 38] w8 := hK'
  clear hK'
  refine (TP.out _ hK.below).mono ?_; rintro e w9 ⟨X4, x4, rfl, hKn⟩
  have hK : Kn w [rowInsN X4 ln x4 L, .blk w7.heap.size [.int .i64 b1, .slice X31 d1.length x31, .int .i64 b2, .slice X32 d2.length x32, .int .i64 b3, .slice X33 d3.length x33, .int .i64 cy] 28, rowN X33 d3.length x33 d3, rowN X32 d2.length x32 d2, rowN X31 d1.length x31 d1, rowSN SS ks ss RS_, rowInsN X2 ln x2 L, rowN X13 d3.length x13 d3, rowN X12 d2.length x12 d2, rowN X11 d1.length x11 d1, .blk w.heap.size [.int .i64 b1, .slice A1 d1.length c1, .int .i64 b2, .slice A2 d2.length c2, .int .i64 b3, .slice A3 d3.length c3, .int .i64 cy] 38] w9 := hK.join hKn
  clear hKn
  obtain ⟨q0, p0, o0, q1, p1, o1, -⟩ := hK.cells
  go_wp2_with fail
  clear q0 p0 o0 q1 p1 o1
  refine (KI.out X31 x31 X32 x32 X33 x33 X4 x4 _ (Kn.riN (hK.sel [4] 99 (by decide) (by decide))) (Kn.riN (hK.sel [3] 99 (by decide) (by decide))) (Kn.riN (hK.sel [2] 99 (by decide) (by decide))) ((hK.sel [0] 99 (by decide) (by decide)).rlInsN HLL.out) hK.below).mono ?_; rintro e w10 ⟨GS, gs, rfl, hKn⟩
  have hK : Kn w [rowSN GS ks gs RS_, rowInsN X4 ln x4 L, .blk w7.heap.size [.int .i64 b1, .slice X31 d1.length x31, .int .i64 b2, .slice X32 d2.length x32, .int .i64 b3, .slice X33 d3.length x33, .int .i64 cy] 28, rowN X33 d3.length x33 d3, rowN X32 d2.length x32 d2, rowN X31 d1.length x31 d1, rowSN SS ks ss RS_, rowInsN X2 ln x2 L, rowN X13 d3.length x13 d3, rowN X12 d2.length x12 d2, rowN X11 d1.length x11 d1, .blk w.heap.size [.int .i64 b1, .slice A1 d1.length c1, .int .i64 b2, .slice A2 d2.length c2, .int .i64 b3, .slice A3 d3.length c3, .int .i64 cy] 38] w10 := hK.join hKn
  clear hKn
  obtain ⟨q0, p0, o0, q1, p1, o1, -⟩ := hK.cells
  go_wp2_with fail
  clear q0 p0 o0 q1 p1 o1
  refine (eqS_same _ _ _ _ _ _ _ ((Kn.rlSN (hK.sel [0] 99 (by decide) (by decide))).2) ((Kn.rlSN (hK.sel [6] 99 (by decide) (by decide))).2) (by omega)).mono ?_; rintro e w11 ⟨rfl, hw⟩
  have hK : Kn w [rowSN GS ks gs RS_, rowInsN X4 ln x4 L, .blk w7.heap.size [.int .i64 b1, .slice X31 d1.length x31, .int .i64 b2, .slice X32 d2.length x32, .int .i64 b3, .slice X33 d3.length x33, .int .i64 cy] 28, rowN X33 d3.length x33 d3, rowN X32 d2.length x32 d2, rowN X31 d1.length x31 d1, rowSN SS ks ss RS_, rowInsN X2 ln x2 L, rowN X13 d3.length x13 d3, rowN X12 d2.length x12 d2, rowN X11 d1.length x11 d1, .blk w.heap.size [.int .i64 b1, .slice A1 d1.length c1, .int .i64 b2, .slice A2 d2.length c2, .int .i64 b3, .slice A3 d3.length c3, .int .i64 cy] 38] w11 := hK.keep hw
  clear hw
  obtain ⟨q0, p0, o0, q1, p1, o1, -⟩ := hK.cells
  go_wp2_with fail
  have HG := Lib.hid (And.intro (box7at hK.drew 2 rfl) (box7at hK.drew 11 rfl))
  go_region_held3 (fun W => (W.cell? ⟨w7.heap.size, 0, none⟩ = some (.int .i64 b1) ∧ W.cell? ⟨w7.heap.size, 1, none⟩ = some (.slice X31 d1.length x31) ∧ W.cell? ⟨w7.heap.size, 2, none⟩ = some (.int .i64 b2) ∧ W.cell? ⟨w7.heap.size, 3, none⟩ = some (.slice X32 d2.length x32) ∧ W.cell? ⟨w7.heap.size, 4, none⟩ = some (.int .i64 b3) ∧ W.cell? ⟨w7.heap.size, 5, none⟩ = some (.slice X33 d3.length x33) ∧ W.cell? ⟨w7.heap.size, 6, none⟩ = some (.int .i64 cy)) ∧ (W.cell? ⟨w.heap.size, 0, none⟩ = some (.int .i64 b1) ∧ W.cell? ⟨w.heap.size, 1, none⟩ = some (.slice A1 d1.length c1) ∧ W.cell? ⟨w.heap.size, 2, none⟩ = some (.int .i64 b2) ∧ W.cell? ⟨w.heap.size, 3, none⟩ = some (.slice A2 d2.length c2) ∧ W.cell? ⟨w.heap.size, 4, none⟩ = some (.int .i64 b3) ∧ W.cell? ⟨w.heap.size, 5, none⟩ = some (.slice A3 d3.length c3) ∧ W.cell? ⟨w.heap.size, 6, none⟩ = some (.int .i64 cy)))
    (first | with_reducible exact HG.out | exact HG.out) (first
    | (go_at_call 17; refine (TM.out _ hK.drew.below).mono ?_; rintro e w12 ⟨X51, x51, X52, x52, X53, x53, rfl, hKn⟩; have hK2 : Kn w [rowN X53 d3.length x53 d3, rowN X52 d2.length x52 d2, rowN X51 d1.length x51 d1, rowSN GS ks gs RS_, rowInsN X4 ln x4 L, .blk w7.heap.size [.int .i64 b1, .slice X31 d1.length x31, .int .i64 b2, .slice X32 d2.length x32, .int .i64 b3, .slice X33 d3.length x33, .int .i64 cy] 28, rowN X33 d3.length x33 d3, rowN X32 d2.length x32 d2, rowN X31 d1.length x31 d1, rowSN SS ks ss RS_, rowInsN X2 ln x2 L, rowN X13 d3.length x13 d3, rowN X12 d2.length x12 d2, rowN X11 d1.length x11 d1, .blk w.heap.size [.int .i64 b1, .slice A1 d1.length c1, .int .i64 b2, .slice A2 d2.length c2, .int .i64 b3, .slice A3 d3.length c3, .int .i64 cy] 38] w12 := hK.drew.join hKn; clear HG; have HG := Lib.hid (And.intro (box7at hK2 5 rfl) (box7at hK2 14 rfl)))
    | (go_at_call 9; refine (eqM_same b1 b2 b3 cy X31 X32 X33 X51 X52 X53 _ _ _ x31 x32 x33 x51 x52 x53 d1 d2 d3 _ (Kn.riN (hK2.sel [8] 99 (by decide) (by decide))) (Kn.riN (hK2.sel [7] 99 (by decide) (by decide))) (Kn.riN (hK2.sel [6] 99 (by decide) (by decide))) (Kn.riN (hK2.sel [2] 99 (by decide) (by decide))) (Kn.riN (hK2.sel [1] 99 (by decide) (by decide))) (Kn.riN (hK2.sel [0] 99 (by decide) (by decide))) (by omega) (by omega) (by omega)).mono ?_; rintro e w13 ⟨rfl, hw⟩; have hK3 : Kn w [rowN X53 d3.length x53 d3, rowN X52 d2.length x52 d2, rowN X51 d1.length x51 d1, rowSN GS ks gs RS_, rowInsN X4 ln x4 L, .blk w7.heap.size [.int .i64 b1, .slice X31 d1.length x31, .int .i64 b2, .slice X32 d2.length x32, .int .i64 b3, .slice X33 d3.length x33, .int .i64 cy] 28, rowN X33 d3.length x33 d3, rowN X32 d2.length x32 d2, rowN X31 d1.length x31 d1, rowSN SS ks ss RS_, rowInsN X2 ln x2 L, rowN X13 d3.length x13 d3, rowN X12 d2.length x12 d2, rowN X11 d1.length x11 d1, .blk w.heap.size [.int .i64 b1, .slice A1 d1.length c1, .int .i64 b2, .slice A2 d2.length c2, .int .i64 b3, .slice A3 d3.length c3, .int .i64 cy] 38] w13 := hK2.keep hw; clear HG; have HG := Lib.hid (And.intro (box7at hK3 5 rfl) (box7at hK3 14 rfl))))
  clear q0 p0 o0 q1 p1 o1
  have hK := hK3
  clear HG hK2 hK3 hKn hw
  obtain ⟨q0, p0, o0, q1, p1, o1, -⟩ := hK.cells
  go_wp2_with fail
  clear q0 p0 o0 q1 p1 o1
  refine (TP.out _ hK.below).mono ?_; rintro e w14 ⟨X6, x6, rfl, hKn⟩
  have hK : Kn w [rowInsN X6 ln x6 L, rowN X53 d3.length x53 d3, rowN X52 d2.length x52 d2, rowN X51 d1.length x51 d1, rowSN GS ks gs RS_, rowInsN X4 ln x4 L, .blk w7.heap.size [.int .i64 b1, .slice X31 d1.length x31, .int .i64 b2, .slice X32 d2.length x32, .int .i64 b3, .slice X33 d3.length x33, .int .i64 cy] 28, rowN X33 d3.length x33 d3, rowN X32 d2.length x32 d2, rowN X31 d1.length x31 d1, rowSN SS ks ss RS_, rowInsN X2 ln x2 L, rowN X13 d3.length x13 d3, rowN X12 d2.length x12 d2, rowN X11 d1.length x11 d1, .blk w.heap.size [.int .i64 b1, .slice A1 d1.length c1, .int .i64 b2, .slice A2 d2.length c2, .int .i64 b3, .slice A3 d3.length c3, .int .i64 cy] 38] w14 := hK.join hKn
  clear hKn
  obtain ⟨q0, p0, o0, q1, p1, o1, -⟩ := hK.cells
  go_wp2_with fail
  clear q0 p0 o0 q1 p1 o1
  refine (eqInstrS_same _ _ _ _ _ _ _ ((hK.sel [5] 99 (by decide) (by decide)).rlInsN HLL.out) ((hK.sel [0] 99 (by decide) (by decide)).rlInsN HLL.out) (by omega)).mono ?_; rintro e w15 ⟨rfl, hw⟩
  have hK : Kn w [rowInsN X6 ln x6 L, rowN X53 d3.length x53 d3, rowN X52 d2.length x52 d2, rowN X51 d1.length x51 d1, rowSN GS ks gs RS_, rowInsN X4 ln x4 L, .blk w7.heap.size [.int .i64 b1, .slice X31 d1.length x31, .int .i64 b2, .slice X32 d2.length x32, .int .i64 b3, .slice X33 d3.length x33, .int .i64 cy] 28, rowN X33 d3.length x33 d3, rowN X32 d2.length x32 d2, rowN X31 d1.length x31 d1, rowSN SS ks ss RS_, rowInsN X2 ln x2 L, rowN X13 d3.length x13 d3, rowN X12 d2.length x12 d2, rowN X11 d1.length x11 d1, .blk w.heap.size [.int .i64 b1, .slice A1 d1.length c1, .int .i64 b2, .slice A2 d2.length c2, .int .i64 b3, .slice A3 d3.length c3, .int .i64 cy] 38] w15 := hK.keep hw
  clear hw
  obtain ⟨q0, p0, o0, q1, p1, o1, -⟩ := hK.cells
  go_wp2_with fail
  clear q0 p0 o0 q1 p1 o1
  have hK : Kn w [rowN X33 d3.length x33 d3, rowN X32 d2.length x32 d2, rowN X31 d1.length x31 d1, rowInsN X6 ln x6 L, rowN X53 d3.length x53 d3, rowN X52 d2.length x52 d2, rowN X51 d1.length x51 d1, rowSN GS ks gs RS_, rowInsN X4 ln x4 L, .blk w7.heap.size [.int .i64 b1, .slice X31 d1.length x31, .int .i64 b2, .slice X32 d2.length x32, .int .i64 b3, .slice X33 d3.length x33, .int .i64 cy] 28, rowSN SS ks ss RS_, rowInsN X2 ln x2 L, rowN X13 d3.length x13 d3, rowN X12 d2.length x12 d2, rowN X11 d1.length x11 d1, .blk w.heap.size [.int .i64 b1, .slice A1 d1.length c1, .int .i64 b2, .slice A2 d2.length c2, .int .i64 b3, .slice A3 d3.length c3, .int .i64 cy] 38] w15 := hK.sel [7, 8, 9, 0, 1, 2, 3, 4, 5, 6, 10, 11, 12, 13, 14, 15] 16 (by decide) (by decide)
  refine (markMachine_kn w _ _ _ _ _ X31 X32 X33 d1.length d2.length d3.length x31 x32 x33 d1 d2 d3  1 _ hK (by omega) (by omega)).mono ?_; rintro e w16 ⟨rfl, hKn⟩
  have hK : Kn w [rowN X33 d3.length x33 (upto (1 + (d1.length : Int) + (d2.length : Int)) d3.length), rowN X32 d2.length x32 (upto (1 + (d1.length : Int)) d2.length), rowN X31 d1.length x31 (upto 1 d1.length), rowInsN X6 ln x6 L, rowN X53 d3.length x53 d3, rowN X52 d2.length x52 d2, rowN X51 d1.length x51 d1, rowSN GS ks gs RS_, rowInsN X4 ln x4 L, .blk w7.heap.size [.int .i64 b1, .slice X31 d1.length x31, .int .i64 b2, .slice X32 d2.length x32, .int .i64 b3, .slice X33 d3.length x33, .int .i64 cy] 28, rowSN SS ks ss RS_, rowInsN X2 ln x2 L, rowN X13 d3.length x13 d3, rowN X12 d2.length x12 d2, rowN X11 d1.length x11 d1, .blk w.heap.size [.int .i64 b1, .slice A1 d1.length c1, .int .i64 b2, .slice A2 d2.length c2, .int .i64 b3, .slice A3 d3.length c3, .int .i64 cy] 38] w16 := hKn
  clear hKn
  rw [HMK.out]
  obtain ⟨q0, p0, o0, q1, p1, o1, -⟩ := hK.cells
  go_wp2_with fail
  clear q0 p0 o0 q1 p1 o1
  have hK : Kn w [rowInsN X4 ln x4 L, rowN X33 d3.length x33 (upto (1 + (d1.length : Int) + (d2.length : Int)) d3.length), rowN X32 d2.length x32 (upto (1 + (d1.length : Int)) d2.length), rowN X31 d1.length x31 (upto 1 d1.length), rowInsN X6 ln x6 L, rowN X53 d3.length x53 d3, rowN X52 d2.length x52 d2, rowN X51 d1.length x51 d1, rowSN GS ks gs RS_, .blk w7.heap.size [.int .i64 b1, .slice X31 d1.length x31, .int .i64 b2, .slice X32 d2.length x32, .int .i64 b3, .slice X33 d3.length x33, .int .i64 cy] 28, rowSN SS ks ss RS_, rowInsN X2 ln x2 L, rowN X13 d3.length x13 d3, rowN X12 d2.length x12 d2, rowN X11 d1.length x11 d1, .blk w.heap.size [.int .i64 b1, .slice A1 d1.length c1, .int .i64 b2, .slice A2 d2.length c2, .int .i64 b3, .slice A3 d3.length c3, .int .i64 cy] 38] w16 := hK.sel [8, 0, 1, 2, 3, 4, 5, 6, 7, 9, 10, 11, 12, 13, 14, 15] 16 (by decide) (by decide)
  refine (markInstrS_kn w _ X4 ln x4 _ mk _ hK (by omega) (by omega)).mono ?_; rintro e w17 ⟨rfl, hKn⟩
  have hK : Kn w [.row (.slice X4 ln x4) 69 2 ln ((upto mk (ln * 2)).map (Value.int .i64)), rowN X33 d3.length x33 (upto (1 + (d1.length : Int) + (d2.length : Int)) d3.length), rowN X32 d2.length x32 (upto (1 + (d1.length : Int)) d2.length), rowN X31 d1.length x31 (upto 1 d1.length), rowInsN X6 ln x6 L, rowN X53 d3.length x53 d3, rowN X52 d2.length x52 d2, rowN X51 d1.length x51 d1, rowSN GS ks gs RS_, .blk w7.heap.size [.int .i64 b1, .slice X31 d1.length x31, .int .i64 b2, .slice X32 d2.length x32, .int .i64 b3, .slice X33 d3.length x33, .int .i64 cy] 28, rowSN SS ks ss RS_, rowInsN X2 ln x2 L, rowN X13 d3.length x13 d3, rowN X12 d2.length x12 d2, rowN X11 d1.length x11 d1, .blk w.heap.size [.int .i64 b1, .slice A1 d1.length c1, .int .i64 b2, .slice A2 d2.length c2, .int .i64 b3, .slice A3 d3.length c3, .int .i64 cy] 38] w17 := hKn
  clear hKn
  obtain ⟨pk1, hpk1⟩ : ∃ x : Int, mk + (ln : Int) * 2 = x := ⟨_, rfl⟩
  have hpk1n : ¬ pk1 < 0 := by omega
  have hpk1b : 0 ≤ pk1 ∧ pk1 ≤ 40000000 := by omega
  rw [hpk1]
  have Hpk1 := Lib.hid hpk1
  clear hpk1
  obtain ⟨q0, p0, o0, q1, p1, o1, -⟩ := hK.cells
  go_wp2_with fail
  clear q0 p0 o0 q1 p1 o1
  refine (eqS_same _ _ _ _ _ _ _ ((Kn.rlSN (hK.sel [8] 99 (by decide) (by decide))).2) ((Kn.rlSN (hK.sel [10] 99 (by decide) (by decide))).2) (by omega)).mono ?_; rintro e w18 ⟨rfl, hw⟩
  have hK : Kn w [.row (.slice X4 ln x4) 69 2 ln ((upto mk (ln * 2)).map (Value.int .i64)), rowN X33 d3.length x33 (upto (1 + (d1.length : Int) + (d2.length : Int)) d3.length), rowN X32 d2.length x32 (upto (1 + (d1.length : Int)) d2.length), rowN X31 d1.length x31 (upto 1 d1.length), rowInsN X6 ln x6 L, rowN X53 d3.length x53 d3, rowN X52 d2.length x52 d2, rowN X51 d1.length x51 d1, rowSN GS ks gs RS_, .blk w7.heap.size [.int .i64 b1, .slice X31 d1.length x31, .int .i64 b2, .slice X32 d2.length x32, .int .i64 b3, .slice X33 d3.length x33, .int .i64 cy] 28, rowSN SS ks ss RS_, rowInsN X2 ln x2 L, rowN X13 d3.length x13 d3, rowN X12 d2.length x12 d2, rowN X11 d1.length x11 d1, .blk w.heap.size [.int .i64 b1, .slice A1 d1.length c1, .int .i64 b2, .slice A2 d2.length c2, .int .i64 b3, .slice A3 d3.length c3, .int .i64 cy] 38] w18 := hK.keep hw
  clear hw
  obtain ⟨q0, p0, o0, q1, p1, o1, -⟩ := hK.cells
  go_wp2_with fail
  clear q0 p0 o0 q1 p1 o1
  have hK : Kn w [rowSN GS ks gs RS_, .row (.slice X4 ln x4) 69 2 ln ((upto mk (ln * 2)).map (Value.int .i64)), rowN X33 d3.length x33 (upto (1 + (d1.length : Int) + (d2.length : Int)) d3.length), rowN X32 d2.length x32 (upto (1 + (d1.length : Int)) d2.length), rowN X31 d1.length x31 (upto 1 d1.length), rowInsN X6 ln x6 L, rowN X53 d3.length x53 d3, rowN X52 d2.length x52 d2, rowN X51 d1.length x51 d1, .blk w7.heap.size [.int .i64 b1, .slice X31 d1.length x31, .int .i64 b2, .slice X32 d2.length x32, .int .i64 b3, .slice X33 d3.length x33, .int .i64 cy] 28, rowSN SS ks ss RS_, rowInsN X2 ln x2 L, rowN X13 d3.length x13 d3, rowN X12 d2.length x12 d2, rowN X11 d1.length x11 d1, .blk w.heap.size [.int .i64 b1, .slice A1 d1.length c1, .int .i64 b2, .slice A2 d2.length c2, .int .i64 b3, .slice A3 d3.length c3, .int .i64 cy] 38] w18 := hK.sel [8, 0, 1, 2, 3, 4, 5, 6, 7, 9, 10, 11, 12, 13, 14, 15] 16 (by decide) (by decide)
  refine (markS_kn w _ GS ks gs RS_ 1 _ hK (by omega) (by omega)).mono ?_; rintro e w19 ⟨rfl, hKn⟩
  have hK : Kn w [rowSN GS ks gs (marksS 1 ks), .row (.slice X4 ln x4) 69 2 ln ((upto mk (ln * 2)).map (Value.int .i64)), rowN X33 d3.length x33 (upto (1 + (d1.length : Int) + (d2.length : Int)) d3.length), rowN X32 d2.length x32 (upto (1 + (d1.length : Int)) d2.length), rowN X31 d1.length x31 (upto 1 d1.length), rowInsN X6 ln x6 L, rowN X53 d3.length x53 d3, rowN X52 d2.length x52 d2, rowN X51 d1.length x51 d1, .blk w7.heap.size [.int .i64 b1, .slice X31 d1.length x31, .int .i64 b2, .slice X32 d2.length x32, .int .i64 b3, .slice X33 d3.length x33, .int .i64 cy] 28, rowSN SS ks ss RS_, rowInsN X2 ln x2 L, rowN X13 d3.length x13 d3, rowN X12 d2.length x12 d2, rowN X11 d1.length x11 d1, .blk w.heap.size [.int .i64 b1, .slice A1 d1.length c1, .int .i64 b2, .slice A2 d2.length c2, .int .i64 b3, .slice A3 d3.length c3, .int .i64 cy] 38] w19 := hKn
  clear hKn
  obtain ⟨pk2, hpk2⟩ : ∃ x : Int, 1 + (ks : Int) = x := ⟨_, rfl⟩
  have hpk2n : ¬ pk2 < 0 := by omega
  have hpk2b : 0 ≤ pk2 ∧ pk2 ≤ 40000000 := by omega
  rw [hpk2]
  have Hpk2 := Lib.hid hpk2
  clear hpk2
  obtain ⟨q0, p0, o0, q1, p1, o1, -⟩ := hK.cells
  go_wp2_with fail
  clear q0 p0 o0 q1 p1 o1
  refine (heldS_any GS ks gs 1 _ ((Kn.rlSN (hK.sel [0] 99 (by decide) (by decide))).2) (by omega) (by omega)).mono ?_; rintro e w20 ⟨rfl, hw⟩
  have hK : Kn w [rowSN GS ks gs (marksS 1 ks), .row (.slice X4 ln x4) 69 2 ln ((upto mk (ln * 2)).map (Value.int .i64)), rowN X33 d3.length x33 (upto (1 + (d1.length : Int) + (d2.length : Int)) d3.length), rowN X32 d2.length x32 (upto (1 + (d1.length : Int)) d2.length), rowN X31 d1.length x31 (upto 1 d1.length), rowInsN X6 ln x6 L, rowN X53 d3.length x53 d3, rowN X52 d2.length x52 d2, rowN X51 d1.length x51 d1, .blk w7.heap.size [.int .i64 b1, .slice X31 d1.length x31, .int .i64 b2, .slice X32 d2.length x32, .int .i64 b3, .slice X33 d3.length x33, .int .i64 cy] 28, rowSN SS ks ss RS_, rowInsN X2 ln x2 L, rowN X13 d3.length x13 d3, rowN X12 d2.length x12 d2, rowN X11 d1.length x11 d1, .blk w.heap.size [.int .i64 b1, .slice A1 d1.length c1, .int .i64 b2, .slice A2 d2.length c2, .int .i64 b3, .slice A3 d3.length c3, .int .i64 cy] 38] w20 := hK.keep hw
  clear hw
  rw [Hpk2.out]
  obtain ⟨q0, p0, o0, q1, p1, o1, -⟩ := hK.cells
  go_wp2_with fail
  clear q0 p0 o0 q1 p1 o1
  refine (TM.out _ hK.below).mono ?_; rintro e w21 ⟨X71, x71, X72, x72, X73, x73, rfl, hKn⟩
  have hK : Kn w [rowN X73 d3.length x73 d3, rowN X72 d2.length x72 d2, rowN X71 d1.length x71 d1, rowSN GS ks gs (marksS 1 ks), .row (.slice X4 ln x4) 69 2 ln ((upto mk (ln * 2)).map (Value.int .i64)), rowN X33 d3.length x33 (upto (1 + (d1.length : Int) + (d2.length : Int)) d3.length), rowN X32 d2.length x32 (upto (1 + (d1.length : Int)) d2.length), rowN X31 d1.length x31 (upto 1 d1.length), rowInsN X6 ln x6 L, rowN X53 d3.length x53 d3, rowN X52 d2.length x52 d2, rowN X51 d1.length x51 d1, .blk w7.heap.size [.int .i64 b1, .slice X31 d1.length x31, .int .i64 b2, .slice X32 d2.length x32, .int .i64 b3, .slice X33 d3.length x33, .int .i64 cy] 28, rowSN SS ks ss RS_, rowInsN X2 ln x2 L, rowN X13 d3.length x13 d3, rowN X12 d2.length x12 d2, rowN X11 d1.length x11 d1, .blk w.heap.size [.int .i64 b1, .slice A1 d1.length c1, .int .i64 b2, .slice A2 d2.length c2, .int .i64 b3, .slice A3 d3.length c3, .int .i64 cy] 38] w21 := hK.join hKn
  clear hKn
  obtain ⟨q0, p0, o0, q1, p1, o1, -⟩ := hK.cells
  go_wp2_with fail
  clear q0 p0 o0 q1 p1 o1
  refine (TP.out _ hK.below).mono ?_; rintro e w22 ⟨X8, x8, rfl, hKn⟩
  have hK : Kn w [rowInsN X8 ln x8 L, rowN X73 d3.length x73 d3, rowN X72 d2.length x72 d2, rowN X71 d1.length x71 d1, rowSN GS ks gs (marksS 1 ks), .row (.slice X4 ln x4) 69 2 ln ((upto mk (ln * 2)).map (Value.int .i64)), rowN X33 d3.length x33 (upto (1 + (d1.length : Int) + (d2.length : Int)) d3.length), rowN X32 d2.length x32 (upto (1 + (d1.length : Int)) d2.length), rowN X31 d1.length x31 (upto 1 d1.length), rowInsN X6 ln x6 L, rowN X53 d3.length x53 d3, rowN X52 d2.length x52 d2, rowN X51 d1.length x51 d1, .blk w7.heap.size [.int .i64 b1, .slice X31 d1.length x31, .int .i64 b2, .slice X32 d2.length x32, .int .i64 b3, .slice X33 d3.length x33, .int .i64 cy] 28, rowSN SS ks ss RS_, rowInsN X2 ln x2 L, rowN X13 d3.length x13 d3, rowN X12 d2.length x12 d2, rowN X11 d1.length x11 d1, .blk w.heap.size [.int .i64 b1, .slice A1 d1.length c1, .int .i64 b2, .slice A2 d2.length c2, .int .i64 b3, .slice A3 d3.length c3, .int .i64 cy] 38] w22 := hK.join hKn
  clear hKn
  obtain ⟨q0, p0, o0, q1, p1, o1, -⟩ := hK.cells
  go_wp2_with fail
  clear q0 p0 o0 q1 p1 o1
  refine (KI.out X71 x71 X72 x72 X73 x73 X8 x8 _ (Kn.riN (hK.sel [3] 99 (by decide) (by decide))) (Kn.riN (hK.sel [2] 99 (by decide) (by decide))) (Kn.riN (hK.sel [1] 99 (by decide) (by decide))) ((hK.sel [0] 99 (by decide) (by decide)).rlInsN HLL.out) hK.below).mono ?_; rintro e w23 ⟨HS, hs, rfl, hKn⟩
  have hK : Kn w [rowSN HS ks hs RS_, rowInsN X8 ln x8 L, rowN X73 d3.length x73 d3, rowN X72 d2.length x72 d2, rowN X71 d1.length x71 d1, rowSN GS ks gs (marksS 1 ks), .row (.slice X4 ln x4) 69 2 ln ((upto mk (ln * 2)).map (Value.int .i64)), rowN X33 d3.length x33 (upto (1 + (d1.length : Int) + (d2.length : Int)) d3.length), rowN X32 d2.length x32 (upto (1 + (d1.length : Int)) d2.length), rowN X31 d1.length x31 (upto 1 d1.length), rowInsN X6 ln x6 L, rowN X53 d3.length x53 d3, rowN X52 d2.length x52 d2, rowN X51 d1.length x51 d1, .blk w7.heap.size [.int .i64 b1, .slice X31 d1.length x31, .int .i64 b2, .slice X32 d2.length x32, .int .i64 b3, .slice X33 d3.length x33, .int .i64 cy] 28, rowSN SS ks ss RS_, rowInsN X2 ln x2 L, rowN X13 d3.length x13 d3, rowN X12 d2.length x12 d2, rowN X11 d1.length x11 d1, .blk w.heap.size [.int .i64 b1, .slice A1 d1.length c1, .int .i64 b2, .slice A2 d2.length c2, .int .i64 b3, .slice A3 d3.length c3, .int .i64 cy] 38] w23 := hK.join hKn
  clear hKn
  obtain ⟨q0, p0, o0, q1, p1, o1, -⟩ := hK.cells
  go_wp2_with fail
  clear q0 p0 o0 q1 p1 o1
  refine (eqS_same _ _ _ _ _ _ _ ((Kn.rlSN (hK.sel [0] 99 (by decide) (by decide))).2) ((Kn.rlSN (hK.sel [15] 99 (by decide) (by decide))).2) (by omega)).mono ?_; rintro e w24 ⟨rfl, hw⟩
  have hK : Kn w [rowSN HS ks hs RS_, rowInsN X8 ln x8 L, rowN X73 d3.length x73 d3, rowN X72 d2.length x72 d2, rowN X71 d1.length x71 d1, rowSN GS ks gs (marksS 1 ks), .row (.slice X4 ln x4) 69 2 ln ((upto mk (ln * 2)).map (Value.int .i64)), rowN X33 d3.length x33 (upto (1 + (d1.length : Int) + (d2.length : Int)) d3.length), rowN X32 d2.length x32 (upto (1 + (d1.length : Int)) d2.length), rowN X31 d1.length x31 (upto 1 d1.length), rowInsN X6 ln x6 L, rowN X53 d3.length x53 d3, rowN X52 d2.length x52 d2, rowN X51 d1.length x51 d1, .blk w7.heap.size [.int .i64 b1, .slice X31 d1.length x31, .int .i64 b2, .slice X32 d2.length x32, .int .i64 b3, .slice X33 d3.length x33, .int .i64 cy] 28, rowSN SS ks ss RS_, rowInsN X2 ln x2 L, rowN X13 d3.length x13 d3, rowN X12 d2.length x12 d2, rowN X11 d1.length x11 d1, .blk w.heap.size [.int .i64 b1, .slice A1 d1.length c1, .int .i64 b2, .slice A2 d2.length c2, .int .i64 b3, .slice A3 d3.length c3, .int .i64 cy] 38] w24 := hK.keep hw
  clear hw
  obtain ⟨q0, p0, o0, q1, p1, o1, -⟩ := hK.cells
  go_wp2_with fail
  clear q0 p0 o0 q1 p1 o1
  refine (heldS_any GS ks gs 1 _ ((Kn.rlSN (hK.sel [5] 99 (by decide) (by decide))).2) (by omega) (by omega)).mono ?_; rintro e w25 ⟨rfl, hw⟩
  have hK : Kn w [rowSN HS ks hs RS_, rowInsN X8 ln x8 L, rowN X73 d3.length x73 d3, rowN X72 d2.length x72 d2, rowN X71 d1.length x71 d1, rowSN GS ks gs (marksS 1 ks), .row (.slice X4 ln x4) 69 2 ln ((upto mk (ln * 2)).map (Value.int .i64)), rowN X33 d3.length x33 (upto (1 + (d1.length : Int) + (d2.length : Int)) d3.length), rowN X32 d2.length x32 (upto (1 + (d1.length : Int)) d2.length), rowN X31 d1.length x31 (upto 1 d1.length), rowInsN X6 ln x6 L, rowN X53 d3.length x53 d3, rowN X52 d2.length x52 d2, rowN X51 d1.length x51 d1, .blk w7.heap.size [.int .i64 b1, .slice X31 d1.length x31, .int .i64 b2, .slice X32 d2.length x32, .int .i64 b3, .slice X33 d3.length x33, .int .i64 cy] 28, rowSN SS ks ss RS_, rowInsN X2 ln x2 L, rowN X13 d3.length x13 d3, rowN X12 d2.length x12 d2, rowN X11 d1.length x11 d1, .blk w.heap.size [.int .i64 b1, .slice A1 d1.length c1, .int .i64 b2, .slice A2 d2.length c2, .int .i64 b3, .slice A3 d3.length c3, .int .i64 cy] 38] w25 := hK.keep hw
  clear hw
  rw [Hpk2.out]
  obtain ⟨q0, p0, o0, q1, p1, o1, -⟩ := hK.cells
  go_wp2_with fail
  go_ret
  exact ⟨rfl, hK.below⟩
end Go.Proofs.YtikcifpdnbhpiaaGreatDoor

namespace Go.Proofs.YtikcifpdnbhpiaaGreatDoor
open Go.RowKit Go.ChangeShapes Go.WideShapes Go.ChangeAt
section
variable {H : Type} {enc : TypeId × Value → H} {w : World} {base : Nat} {spare : Nat → Bool} {held : Bool} {fuel : Nat} {cs : List Value} {x : DataW H × List MemPlace}
theorem cellsLM : Tryz.prog.cellsOf 38 = 7 := by kernel_rfl
set_option maxRecDepth 100000 in
theorem rd_lmachine (h : DataW.trod enc Tryz.prog w base spare held fuel 38 cs = some x) : ∃ b1 A1 n1 c1 d1 b2 A2 n2 c2 d2 b3 A3 n3 c3 d3 cy, cs = [.int .i64 b1, .slice A1 n1 c1, .int .i64 b2, .slice A2 n2 c2, .int .i64 b3, .slice A3 n3 c3, .int .i64 cy] ∧
    RI w A1 n1 d1 ∧ RI w A2 n2 d2 ∧ RI w A3 n3 d3 ∧ n1 ≤ 9223372036854775807 ∧ n2 ≤ 9223372036854775807 ∧ n3 ≤ 9223372036854775807 := by
  obtain ⟨xs, m, _, _, hl, hxl, hf⟩ := DataW.trod_struct Tryz.underlying38 h
  rw [cellsLM] at hl
  match cs, hl with
  | [c0, c1, c2, c3, c4, c5, c6], _ =>
    obtain ⟨y0, hy0⟩ : ∃ y, xs[0]? = some y := ⟨_, List.getElem?_eq_getElem (by rw [hxl]; decide)⟩
    obtain ⟨y1, hy1⟩ : ∃ y, xs[1]? = some y := ⟨_, List.getElem?_eq_getElem (by rw [hxl]; decide)⟩
    obtain ⟨y2, hy2⟩ : ∃ y, xs[2]? = some y := ⟨_, List.getElem?_eq_getElem (by rw [hxl]; decide)⟩
    obtain ⟨y3, hy3⟩ : ∃ y, xs[3]? = some y := ⟨_, List.getElem?_eq_getElem (by rw [hxl]; decide)⟩
    have h0 : DataW.trod enc Tryz.prog w base spare held m 36 (([c0, c1, c2, c3, c4, c5, c6].drop 0).take (Tryz.prog.cellsOf 36)) = xs[0]? := hf 0 _ rfl
    have h1 : DataW.trod enc Tryz.prog w base spare held m 36 (([c0, c1, c2, c3, c4, c5, c6].drop 2).take (Tryz.prog.cellsOf 36)) = xs[1]? := hf 1 _ rfl
    have h2 : DataW.trod enc Tryz.prog w base spare held m 36 (([c0, c1, c2, c3, c4, c5, c6].drop 4).take (Tryz.prog.cellsOf 36)) = xs[2]? := hf 2 _ rfl
    have h3 : DataW.trod enc Tryz.prog w base spare held m 2 (([c0, c1, c2, c3, c4, c5, c6].drop 6).take (Tryz.prog.cellsOf 2)) = xs[3]? := hf 3 _ rfl
    simp only [cellsI64, cellsLR, List.drop_zero, List.drop_succ_cons, List.take_succ_cons, List.take_zero] at h0 h1 h2 h3
    rw [hy0] at h0
    rw [hy1] at h1
    rw [hy2] at h2
    rw [hy3] at h3
    obtain ⟨b1, A1, n1, k1, d1, e1, r1, m1, -⟩ := rd_lreg h0
    obtain ⟨b2, A2, n2, k2, d2, e2, r2, m2, -⟩ := rd_lreg h1
    obtain ⟨b3, A3, n3, k3, d3, e3, r3, m3, -⟩ := rd_lreg h2
    obtain ⟨cy, e4, -⟩ := rd_i64 h3
    simp only [List.cons.injEq, and_true] at e1 e2 e3 e4
    obtain ⟨rfl, rfl⟩ := e1
    obtain ⟨rfl, rfl⟩ := e2
    obtain ⟨rfl, rfl⟩ := e3
    subst e4
    exact ⟨b1, A1, n1, k1, d1, b2, A2, n2, k2, d2, b3, A3, n3, k3, d3, cy, rfl, r1, r2, r3, m1, m2, m3⟩
end
end Go.Proofs.YtikcifpdnbhpiaaGreatDoor

namespace Go.Proofs.YtikcifpdnbhpiaaGreatDoor
open Go.RowKit Go.ChangeShapes Go.WideShapes Go.ChangeAt Go.Deep
section
variable {H : Type} {enc : TypeId × Value → H} {w : World} {base : Nat} {spare : Nat → Bool} {held : Bool} {fuel : Nat} {cs : List Value} {x : DataW H × List MemPlace}
instance : Inhabited Ins := ⟨⟨0, 0⟩⟩
theorem addr_pos (p : Addr) (j : Nat) (h : j ≠ 0) : p.add j = ⟨p.block, p.off + j, none⟩ := by unfold Addr.add; rw [if_neg h]
theorem cellsLI : Tryz.prog.cellsOf 78 = 2 := by kernel_rfl
set_option maxRecDepth 100000 in
theorem rd_linstr (h : DataW.trod enc Tryz.prog w base spare held fuel 78 cs = some x) : ∃ y : Ins, cs = [.int .i64 y.op, .int .i64 y.arg] := by
  obtain ⟨xs, m, _, _, hl, hxl, hf⟩ := DataW.trod_struct Tryz.underlying78 h
  rw [cellsLI] at hl
  match cs, hl with
  | [c0, c1], _ =>
    obtain ⟨y0, hy0⟩ : ∃ y, xs[0]? = some y := ⟨_, List.getElem?_eq_getElem (by rw [hxl]; decide)⟩
    obtain ⟨y1, hy1⟩ : ∃ y, xs[1]? = some y := ⟨_, List.getElem?_eq_getElem (by rw [hxl]; decide)⟩
    have h0 : DataW.trod enc Tryz.prog w base spare held m 2 (([c0, c1].drop 0).take (Tryz.prog.cellsOf 2)) = xs[0]? := hf 0 _ rfl
    have h1 : DataW.trod enc Tryz.prog w base spare held m 2 (([c0, c1].drop 1).take (Tryz.prog.cellsOf 2)) = xs[1]? := hf 1 _ rfl
    simp only [cellsI64, List.drop_zero, List.drop_succ_cons, List.take_succ_cons, List.take_zero] at h0 h1
    rw [hy0] at h0
    rw [hy1] at h1
    obtain ⟨a, e0, -⟩ := rd_i64 h0
    obtain ⟨b, e1, -⟩ := rd_i64 h1
    injection e0 with e0
    injection e1 with e1
    exact ⟨⟨a, b⟩, by rw [e0, e1]⟩
set_option maxRecDepth 100000 in
theorem rd_instrs (h : DataW.trod enc Tryz.prog w base spare held fuel 39 cs = some x) : ∃ A n c xs, cs = [.slice A n c] ∧ RL InsM 2 w A n xs ∧ n ≤ 9223372036854775807 := by
  rcases open_slice Tryz.underlying39 h with ⟨rfl, _⟩ | ⟨a, len, cap, m, n, D, Pl, rfl, hb, hl, hm, hmm, rfl, hx⟩
  · exact ⟨none, 0, 0, [], rfl, ⟨rfl, fun h => absurd h (by omega)⟩, by omega⟩
  · have hlm : len ≤ m := by rw [hmm]; split <;> omega
    have key : ∀ i, i < len → ∃ t : Ins, InsM w (a.add (i * 2)) t := by
      intro i hi
      obtain ⟨cs', h1, h2⟩ := hx i (by omega)
      rw [cellsLI] at h1
      obtain ⟨y, rfl⟩ := rd_linstr h2
      obtain ⟨_, _, hc⟩ := World.cells?_some h1
      have q0 := hc 0 (by omega)
      have q1 := hc 1 (by omega)
      rw [addr_add_zero] at q0
      rw [addr_pos _ _ (by decide)] at q1
      exact ⟨y, q0, q1⟩
    obtain ⟨T, hT⟩ := choose_lt key
    refine ⟨some a, len, cap, (List.range len).map T, rfl, ⟨by simp, fun hn => ⟨a, rfl, ?_, fun k hk => ?_⟩⟩, by simp only [maxLen] at hm; omega⟩
    · have g := (hT 0 hn).1
      rw [Nat.zero_mul, addr_add_zero] at g
      exact World.block_lt_of_cell? w _ g
    · have hk' : k < len := by simpa using hk
      simpa using hT k hk'
end
end Go.Proofs.YtikcifpdnbhpiaaGreatDoor

namespace Go.Proofs.YtikcifpdnbhpiaaGreatDoor.fnExactRecordSession
open Go.ChangeShapes Go.WideShapes Go.ChangeAt Go.RowKit
set_option maxRecDepth 100000 in
theorem contract (H : Type) (enc : TypeId × Value → H) (W : World) (base : Nat) (args : Array Value) (ds gs : List (DataW H)) (before : List MemPlace)
    (hval : ∀ (j : Nat) t v, Tryz.f4.params[j]? = some t → args[j]? = some v → Value.okWide Tryz.prog W .any base t v)
    (hW : DataW.Whole enc Tryz.prog Tryz.f4.params.toList Rows.fnExactRecordSessionSpec.vars false W args.toList ds gs before) (hL : laidMetH Tryz.prog Rows.fnExactRecordSessionRow.laid W) :
    Calls Tryz.prog 4 args W fun e W' => ∃ v, e = .returned v ∧ Rows.fnExactRecordSessionSpec.post enc Tryz.prog Tryz.f4 false true false false W args v W' := by
  have hW' := hW
  obtain ⟨p, q, hA0, hV, rfl, hfz, hnd⟩ := hW
  have hA : DataW.TrodAll enc Tryz.prog W 0 (fun _ => true) true Tryz.f4.params.toList args.toList ds p := hA0
  rw [Tryz.params4] at hA hval
  obtain ⟨v0, vs0, d0, ds0, p0, q0, hargs, rfl, rfl, h0, r0⟩ := trodAll_cons hA
  obtain ⟨v1, vs1, d1, ds1, p1, q1, rfl, rfl, rfl, h1, r1⟩ := trodAll_cons r0
  obtain ⟨rfl, rfl, rfl⟩ := trodAll_nil r1
  obtain rfl : args = #[v0, v1] := by cases args; simp_all
  obtain ⟨rfl, rfl⟩ := trodVars_none hV
  clear hA0
  simp only [List.append_nil] at hW'
  have hlt : ∀ x ∈ p0 ++ (p1), x.block < W.heap.size := fun x hx => by
    have := hW'.lt x (by simpa using hx)
    simpa using this
  obtain ⟨cs, rfl, hsz⟩ := okWide_struct Tryz.underlying38 (hval 0 _ _ rfl rfl)
  have t0 := h0
  obtain ⟨fuel0, hf0⟩ := h0
  obtain ⟨b1, A1, n1, c1, e1, b2, A2, n2, c2, e2, b3, A3, n3, c3, e3, cy, hcs, z1, z2, z3, m1, m2, m3⟩ := rd_lmachine hf0
  obtain rfl : cs = #[.int .i64 b1, .slice A1 n1 c1, .int .i64 b2, .slice A2 n2 c2, .int .i64 b3, .slice A3 n3 c3, .int .i64 cy] := by
    have : cs.toList = [.int .i64 b1, .slice A1 n1 c1, .int .i64 b2, .slice A2 n2 c2, .int .i64 b3, .slice A3 n3 c3, .int .i64 cy] := hcs
    rw [← Array.toArray_toList (xs := cs), this]
  obtain ⟨L1A, L1n, L1c, rfl⟩ := okWide_slice Tryz.underlying39 (hval 1 _ _ rfl rfl)
  have t1 := h1
  obtain ⟨fuel1, hf1⟩ := h1
  obtain ⟨QA1, Qn1, Qc1, L1xs, hcs1, hr1, hn1⟩ := rd_instrs hf1
  obtain ⟨rfl, rfl, rfl⟩ : QA1 = L1A ∧ Qn1 = L1n ∧ Qc1 = L1c := by
    have : [Value.slice L1A L1n L1c] = [.slice QA1 Qn1 Qc1] := hcs1
    injection this with this
    injection this with e1 e2 e3
    exact ⟨e1.symm, e2.symm, e3.symm⟩
  have walk : Calls Tryz.prog 4 #[.agg #[.int .i64 b1, .slice A1 n1 c1, .int .i64 b2, .slice A2 n2 c2, .int .i64 b3, .slice A3 n3 c3, .int .i64 cy], .slice QA1 Qn1 Qc1] W fun e w' => e = .returned (.bool true) ∧ Below W.heap.size W w' :=
    law_RecordSession b1 b2 b3 cy A1 A2 A3 n1 n2 n3 c1 c2 c3 e1 e2 e3 QA1 Qn1 Qc1 L1xs W z1 z2 z3 m1 m2 m3 hr1 hn1 (tb_of_laid hL)
  refine walk.mono fun e W' ⟨he, hb⟩ => ?_
  subst he
  have u0 := Below.trod laidOut (by kernel_rfl) (of_decide_eq_true (by kernel_rfl)) t0 hb (fun x hx => hlt x (by simp only [List.mem_append]; simp [hx]))
  have u1 := Below.trod laidOut (by kernel_rfl) (of_decide_eq_true (by kernel_rfl)) t1 hb (fun x hx => hlt x (by simp only [List.mem_append]; simp [hx]))
  exact ⟨_, rfl, [d0, d1], [], p0 ++ (p1 ++ []), [], p0 ++ (p1 ++ []), [], by simpa using hW', trodAll_cons_mk (shut_bool Tryz.underlying4 _) trodAll_mk0, (trodAll_cons_mk u0 (trodAll_cons_mk u1 trodAll_mk0)), rfl, hb.frame _, fun h => by cases h⟩
theorem reads (os : Os) {H : Type} (enc : TypeId × Value → H) : ∃ places, DataW.whole enc Tryz.prog ((laidWorld os).forCall (fun _ _ => 0) ⟨#[], #[.agg #[.int .i64 0, .slice none 0 0, .int .i64 0, .slice none 0 0, .int .i64 0, .slice none 0 0, .int .i64 0], .slice none 0 0], []⟩).memory Tryz.f4.params.toList Rows.fnExactRecordSessionSpec.vars false (#[.agg #[.int .i64 0, .slice none 0 0, .int .i64 0, .slice none 0 0, .int .i64 0, .slice none 0 0, .int .i64 0], .slice none 0 0] : Array Value).toList 8 = some ([.agg [.agg [.lit (.int .i64 0), .nil], .agg [.lit (.int .i64 0), .nil], .agg [.lit (.int .i64 0), .nil], .lit (.int .i64 0)], .nil], [], places) :=
  ⟨[], by kernel_rfl⟩
set_option maxRecDepth 100000 in
theorem lifted (os : Os) (started : os.Started) (H : Type) (enc : TypeId × Value → H) (F : Stop.Interp) :
    ReturnsInHanded {} Tryz.checked os 4 .any ((OpenSpec.ofChange Rows.fnExactRecordSessionSpec).preRow enc Tryz.prog Tryz.f4 Rows.fnExactRecordSessionRow.domain false Rows.fnExactRecordSessionRow.laid) (((OpenSpec.ofChange Rows.fnExactRecordSessionSpec).at F).post enc Tryz.prog Tryz.f4 false true false false) := by
  obtain ⟨places, hx⟩ := reads os enc
  refine returnsInHanded_of_row (C := Tryz.checked) (s := OpenSpec.ofChange Rows.fnExactRecordSessionSpec) own started (by kernel_rfl) Tryz.func4
    (witness_row_at (enc := enc) (C := Tryz.checked) false (laidWorld os) #[.agg #[.int .i64 0, .slice none 0 0, .int .i64 0, .slice none 0 0, .int .i64 0, .slice none 0 0, .int .i64 0], .slice none 0 0] rfl (by kernel_rfl) (by kernel_rfl) (by kernel_rfl)
      (OpenSpec.preRow_of_cond 8 hx (by kernel_rfl) (fun k hk => by cases hk) (by kernel_rfl) (laid_met os _))) ?_
  intro W base args ds gs before hval hW _ _ _ hL _ _
  exact contract H enc W base args ds gs before hval hW hL
set_option maxRecDepth 100000 in
set_option maxHeartbeats 20000000 in
theorem closed : joinedFacts Tryz.pinned.checked.prog 4 Tryz.f4 (OpenSpec.ofChange Rows.fnExactRecordSessionSpec).bare Rows.fnExactRecordSessionRow = true := by
  unfold joinedFacts
  simp only [Bool.and_eq_true]
  repeat' apply And.intro
  all_goals (as_aux_lemma => kernel_rfl)
theorem said : Rows.FnExactRecordSessionSaid :=
  OpenClaim.holds_of_cond 4 Tryz.f4 rfl rfl rfl rfl rfl rfl rfl ⟨rfl, rfl, rfl, rfl, rfl⟩ rfl rfl rfl rfl rfl (by kernel_rfl) Tryz.func4 closed
    (of_decide_eq_true (by kernel_rfl)) (by unfold Func.isWrapper; first | (rw [if_pos (by decide +kernel)]; kernel_rfl) | (rw [if_neg (by decide +kernel)]; exact ⟨rfl, rfl⟩))
    (fun os started H enc _ F => by rw [OpenClaim.pre_eq_preRow]; exact lifted os started H enc F)
theorem plain (f : FuncId) (fn : Func) (hf : Tryz.pinned.checked.prog.funcNamed "loop.example/g00930/laws.FnExactRecordSession" = some f) (hfn : Tryz.pinned.checked.prog.funcs[f]? = some fn) :
    false = Tryz.pinned.checked.prog.looks [] ∧ ∀ (j : Nat) t, fn.params[j]? = some t → Tryz.pinned.checked.prog.wantsStandIn t = false := by
  obtain rfl : f = 4 := Option.some.inj ((show Tryz.prog.funcNamed "loop.example/g00930/laws.FnExactRecordSession" = some 4 by kernel_rfl).symm.trans hf) |>.symm
  obtain rfl : fn = Tryz.f4 := (Option.some.inj (Tryz.func4.symm.trans hfn)).symm
  refine ⟨by kernel_rfl, fun j t ht => ?_⟩
  rw [Tryz.params4] at ht
  have s0 : Tryz.prog.wantsStandIn 38 = false := by kernel_rfl
  have s1 : Tryz.prog.wantsStandIn 39 = false := by kernel_rfl
  have hm := Array.mem_of_getElem? ht
  have hm' : t = 38 ∨ t = 39 := by simpa using hm
  rcases hm' with rfl | rfl
  · exact s0
  · exact s1
/-- THE CARD. -/
theorem card : Rows.FnExactRecordSessionCardSaid :=
  Claim7.holds_tied_plain_at .later [] _ _ _ _ said (fun _ h => by cases h) (by kernel_rfl) (fun _ h => by cases h) fnExactRecordSession_row_tie rfl ⟨rfl, rfl⟩ (by kernel_rfl) rfl plain (by kernel_rfl)
end Go.Proofs.YtikcifpdnbhpiaaGreatDoor.fnExactRecordSession
