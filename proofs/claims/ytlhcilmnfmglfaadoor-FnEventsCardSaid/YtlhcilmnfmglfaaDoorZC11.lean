/- Part 11: lemmas and contracts of the claim's functions. -/
import Derived.Test.YtlhcilmnfmglfaaDoorZC1
import Derived.Test.YtlhcilmnfmglfaaDoorZC2
import Derived.Test.YtlhcilmnfmglfaaDoorZC3
import Derived.Test.YtlhcilmnfmglfaaDoorZC4
import Derived.Test.YtlhcilmnfmglfaaDoorZC5
import Derived.Test.YtlhcilmnfmglfaaDoorZC6
import Derived.Test.YtlhcilmnfmglfaaDoorZC7
import Derived.Test.YtlhcilmnfmglfaaDoorZC8
import Derived.Test.YtlhcilmnfmglfaaDoorZC9
import Derived.Test.YtlhcilmnfmglfaaDoorZC10
import Derived.Test.YtlhcilmnfmglfaaDoorTie
import Derived.Test.YtlhcilmnfmglfaaDoorCards
import Derived.Deep.DeepHandedRow
import Derived.Lib.LaidTab
import Derived.ProofKit
import Derived.Carry
namespace Go.Proofs.YtlhcilmnfmglfaaDoor
open Go.RowKit Go.Sort
/-! the shown session, plainly -/
def endW : ByteArray := ⟨#[101, 110, 100]⟩
def showT (t : Tri) : ByteArray := showW ++ mtext t
/-- what follows in the shown session, behind the first line -/
def restL (t : Tri) : List ByteArray → List ByteArray
  | [] => []
  | b :: r => if r = [] then [b] else if begins showB (strB b) then restL t r else b :: showT (stepM t (strB b)).1 :: restL (stepM t (strB b)).1 r
/-- the same of lines none of which shows -/
def restP (t : Tri) : List ByteArray → List ByteArray
  | [] => []
  | b :: r => if r = [] then [b] else b :: showT (stepM t (strB b)).1 :: restP (stepM t (strB b)).1 r
def notShow (b : ByteArray) : Bool := !isShow (strB b)
/-- lines that are fine, and the end behind them -/
def OkEnd (t : Tri) (l : List ByteArray) : Prop := ∃ body, l = body ++ [endW] ∧ AllOk t (body.map strB)
theorem endW_of {E : ByteArray} (h : strB E = endB) : E = endW := by
  have : endW = E := str_eq.2 (show ([101, 110, 100] : List UInt8) = strB E from h.symm)
  exact this.symm
theorem OkEnd.cons {t : Tri} {b : ByteArray} {r : List ByteArray} (h : OkEnd t (b :: r)) (hr : r ≠ []) : (stepM t (strB b)).2 = 0 ∧ strB b ≠ endB ∧ OkEnd (stepM t (strB b)).1 r := by
  obtain ⟨body, h1, h2⟩ := h
  cases body with
  | nil =>
    simp only [List.nil_append, List.cons.injEq] at h1
    exact absurd h1.2 hr
  | cons c body =>
    simp only [List.cons_append, List.cons.injEq] at h1
    obtain ⟨rfl, rfl⟩ := h1
    exact ⟨h2.1, h2.2.1, body, rfl, h2.2.2⟩
theorem OkEnd.last {t : Tri} {b : ByteArray} (h : OkEnd t [b]) : b = endW := by
  obtain ⟨body, h1, h2⟩ := h
  cases body with
  | nil => simpa using h1
  | cons c body => simp at h1
theorem OkEnd.ne {t : Tri} {l : List ByteArray} (h : OkEnd t l) : l ≠ [] := by
  obtain ⟨body, h1, -⟩ := h
  rw [h1]; simp
theorem whole_lines {ss : List ByteArray} (h : wholeC (ss.map strB) = 0) : ss.length ≤ 100 ∧ ∃ L tl, ss = L :: tl ∧ startOk (strB L) = true ∧ vmach (rdMach ((strB L).drop 6)) = true ∧ OkEnd (rdMach ((strB L).drop 6)) tl ∧ (runS (ss.map strB)).1.start = rdMach ((strB L).drop 6) := by
  obtain ⟨h1, b0, body, h2, h3, h4, h5, h6, h7⟩ := whole_parts h
  rw [List.length_map] at h1
  refine ⟨h1, ?_⟩
  match ss, h2, h7 with
  | L :: tl, g2, h7 =>
    simp only [List.map_cons, List.cons.injEq] at g2
    obtain ⟨rfl, g3⟩ := g2
    refine ⟨L, tl, rfl, h3, h4, ?_, h7⟩
    obtain ⟨l1, l2, rfl, e1, e2⟩ := List.map_eq_append_iff.1 g3
    have hl2 : l2.length = 1 := by have := congrArg List.length e2; simpa using this
    obtain ⟨E, rfl⟩ := List.length_eq_one_iff.1 hl2
    have e3 : strB E = endB := by simpa using e2
    exact ⟨l1, by rw [endW_of e3], by rw [e1]; exact h5⟩
theorem endW_notShow : notShow endW = true := by decide
/-- the lines that do not show, and the machine -/
theorem rest_plain : ∀ {l : List ByteArray} {t : Tri}, OkEnd t l → restL t l = restP t (l.filter notShow) ∧ OkEnd t (l.filter notShow)
  | [], t, h => absurd rfl h.ne
  | [b], t, h => by
    have hb := h.last
    subst hb
    have hf : [endW].filter notShow = [endW] := by rw [List.filter_cons_of_pos endW_notShow, List.filter_nil]
    rw [hf]
    exact ⟨by unfold restL restP; simp, h⟩
  | b :: c :: r, t, h => by
    obtain ⟨h1, h2, h3⟩ := h.cons (by simp)
    obtain ⟨ih1, ih2⟩ := rest_plain h3
    have hs : notShow b = !begins showB (strB b) := by unfold notShow; rw [isShow_eq h1]
    rcases hb : begins showB (strB b) with _ | _
    · rw [hb] at hs
      rw [List.filter_cons_of_pos (by rw [hs]; rfl)]
      have hne := ih2.ne
      refine ⟨?_, ?_⟩
      · have e1 : restL t (b :: c :: r) = b :: showT (stepM t (strB b)).1 :: restL (stepM t (strB b)).1 (c :: r) := by
          conv => lhs; unfold restL
          rw [if_neg (by simp), hb, if_neg (by decide)]
        have e2 : restP t (b :: (c :: r).filter notShow) = b :: showT (stepM t (strB b)).1 :: restP (stepM t (strB b)).1 ((c :: r).filter notShow) := by
          conv => lhs; unfold restP
          rw [if_neg hne]
        rw [e1, e2, ih1]
      · obtain ⟨body, e, ok⟩ := ih2
        exact ⟨b :: body, by rw [e]; rfl, h1, h2, ok⟩
    · rw [hb] at hs
      rw [List.filter_cons_of_neg (by rw [hs]; decide)]
      have ht := show_step hb h1
      rw [ht] at ih1 ih2
      refine ⟨?_, ih2⟩
      have e1 : restL t (b :: c :: r) = restL t (c :: r) := by
        conv => lhs; unfold restL
        rw [if_neg (by simp), hb, if_pos rfl]
      rw [e1, ih1]
/-- the shown session, and its code -/
def shL (ss : List ByteArray) : List ByteArray := match ss with | [] => [] | L :: tl => L :: restL (rdMach ((strB L).drop 6)) tl
def shC (ss : List ByteArray) : Int := if wholeC (ss.map strB) = 0 then (if (shL ss).length > 100 then 5 else 0) else wholeC (ss.map strB)
def shR (ss : List ByteArray) : List ByteArray := if shC ss = 0 then shL ss else []
theorem shR_len (ss : List ByteArray) : (shR ss).length ≤ 100 := by
  unfold shR
  split
  · rename_i h
    unfold shC at h
    split at h
    · split at h
      · cases h
      · omega
    · rename_i h'; exact absurd h h'
  · simp
/-- a row of strings, of its own length -/
def rowT (A : Option Addr) (c : Nat) (ss : List ByteArray) : Ent := rowSN A ss.length c ss
/-- strings and a code -/
def SCRet (l : List ByteArray) (C : Int) (w : World) (e : Ending) (w' : World) : Prop := ∃ X x, e = .returned (.tuple #[.slice X l.length x, .int .i64 C]) ∧ Kn w [rowT X x l] w'
theorem SCRet.none {C : Int} {w w' : World} (h : Below w.heap.size w w') : SCRet [] C w (.returned (.tuple #[.slice none 0 0, .int .i64 C])) w' :=
  ⟨_, _, rfl, ((Kn.nil w).keep h).nilRow _ _⟩
theorem AllOk.take : ∀ {l : List (List UInt8)} {t : Tri} (k : Nat), AllOk t l → AllOk t (l.take k)
  | [], t, k, h => by rw [List.take_nil]; trivial
  | b :: l, t, 0, h => trivial
  | b :: l, t, k + 1, h => ⟨h.1, h.2.1, AllOk.take k h.2.2⟩
theorem restL_len : ∀ (l : List ByteArray) (t : Tri), (restL t l).length ≤ 2 * l.length
  | [], t => by simp [restL]
  | b :: r, t => by
    unfold restL
    have h1 := restL_len r t
    have h2 := restL_len r (stepM t (strB b)).1
    split
    · simp; omega
    · split
      · simp only [List.length_cons]; omega
      · simp only [List.length_cons]; omega
end Go.Proofs.YtlhcilmnfmglfaaDoor

namespace Go.Proofs.YtlhcilmnfmglfaaDoor
open Go.RowKit Go.Sort
theorem StrokeName_all (k : Int) (w : World) : Calls Tryd.prog 187 #[.int .i64 k] w fun e w' => e = .returned (.string (sname k)) ∧ Below w.heap.size w w' := by
  by_cases h : 1 ≤ k ∧ k ≤ 6
  · exact StrokeName_any k w h
  · have hs : sname k = ⟨#[]⟩ := by
      unfold sname
      rw [if_neg (by omega), if_neg (by omega), if_neg (by omega), if_neg (by omega), if_neg (by omega), if_neg (by omega)]
    have hb : betB k 1 6 = false := betB_false.2 (by omega)
    have KB := Lib.hid (fun W => calls_val (between_any k 1 6 W) (congrArg Value.bool hb))
    have KI : ∀ W, Calls Tryd.prog 73 #[.int .i64 k] W fun e w' => e = .returned (.bool false) ∧ W = w' := fun W => by
      go_enter Tryd.func73, Tryd.ntmps73
      go_wp2_with (go_at_call 105; refine (KB.out _).mono ?_; rintro e w' ⟨rfl, rfl⟩)
      go_ret
      exact ⟨rfl, rfl⟩
    have KI := Lib.hid KI
    rw [hs]
    clear hb h hs KB
    go_enter Tryd.func187, Tryd.ntmps187
    go_wp2_with (go_at_call 73; refine (KI.out _).mono ?_; rintro e w' ⟨rfl, rfl⟩)
    go_ret
    exact ⟨rfl, Below.refl _ _⟩
theorem specStrokeName_all (k : Int) (w : World) : Calls Tryd.prog 183 #[.int .i64 k] w fun e w' => e = .returned (.string (sname k)) ∧ Below w.heap.size w w' := by
  by_cases h : 1 ≤ k ∧ k ≤ 6
  · exact specStrokeName_any k w h
  · have hs : sname k = ⟨#[]⟩ := by
      unfold sname
      rw [if_neg (by omega), if_neg (by omega), if_neg (by omega), if_neg (by omega), if_neg (by omega), if_neg (by omega)]
    have hb : betB k 1 6 = false := betB_false.2 (by omega)
    have KB := Lib.hid (fun W => calls_val (l00In_any k 1 6 W) (congrArg Value.bool hb))
    have KI : ∀ W, Calls Tryd.prog 201 #[.int .i64 k] W fun e w' => e = .returned (.bool false) ∧ W = w' := fun W => by
      go_enter Tryd.func201, Tryd.ntmps201
      go_wp2_with (go_at_call 68; refine (KB.out _).mono ?_; rintro e w' ⟨rfl, rfl⟩)
      go_ret
      exact ⟨rfl, rfl⟩
    have KI := Lib.hid KI
    rw [hs]
    clear hb h hs KB
    go_enter Tryd.func183, Tryd.ntmps183
    go_wp2_with (go_at_call 201; refine (KI.out _).mono ?_; rintro e w' ⟨rfl, rfl⟩)
    go_ret
    exact ⟨rfl, by first | exact Below.refl _ _ | exact (Below.refl _ _).alloc (Nat.le_refl _) _⟩
/-- a recorded session -/
def startT (t : Tri) : ByteArray := startW ++ mtext t
def recL (t : Tri) (s : RS) : List ByteArray := startT t :: (s.tr.map sname ++ [showT s.m, endW])
def hasSet (L : List Ins) : Bool := L.any (fun x => x.op == 1)
noncomputable def rcC (L : List Ins) (t : Tri) : Int :=
  if (vmach t && vprog L) = false then 1 else if hasSet L then 6 else if (endR L t).code ≠ 0 then (endR L t).code else if (recL t (endR L t)).length > 100 then 5 else 0
noncomputable def rcR (L : List Ins) (t : Tri) : List ByteArray := if rcC L t = 0 then recL t (endR L t) else []
theorem rcR_len (L : List Ins) (t : Tri) : (rcR L t).length ≤ 100 := by
  unfold rcR
  split
  · rename_i h
    unfold rcC at h
    split at h
    · cases h
    · split at h
      · cases h
      · split at h
        · rename_i h1; exact absurd h h1
        · split at h
          · cases h
          · omega
  · simp
theorem rc_bad {L : List Ins} {t : Tri} (h : (vmach t && vprog L) = false) : rcC L t = 1 ∧ rcR L t = [] := by
  have h1 : rcC L t = 1 := by unfold rcC; rw [if_pos h]
  exact ⟨h1, by unfold rcR; rw [h1, if_neg (by decide)]⟩
theorem rc_set {L : List Ins} {t : Tri} (h : (vmach t && vprog L) = true) (hs : hasSet L = true) : rcC L t = 6 ∧ rcR L t = [] := by
  have h1 : rcC L t = 6 := by unfold rcC; rw [if_neg (by rw [h]; decide), if_pos hs]
  exact ⟨h1, by unfold rcR; rw [h1, if_neg (by decide)]⟩
theorem rc_code {L : List Ins} {t : Tri} (h : (vmach t && vprog L) = true) (hs : hasSet L = false) {s' : RS} {b' : Bool} (he : Ev L (.run 0 L.length) (startR t) s' b') (hc : s'.code ≠ 0) : rcC L t = s'.code ∧ rcR L t = [] := by
  have h1 : rcC L t = s'.code := by unfold rcC; rw [if_neg (by rw [h]; decide), hs, if_neg (by decide), endR_eq he, if_pos hc]
  exact ⟨h1, by unfold rcR; rw [h1, if_neg hc]⟩
theorem rc_fine {L : List Ins} {t : Tri} (h : (vmach t && vprog L) = true) (hs : hasSet L = false) {s' : RS} {b' : Bool} (he : Ev L (.run 0 L.length) (startR t) s' b') (hc : s'.code = 0) : rcC L t = (if (recL t s').length > 100 then 5 else 0) ∧ rcR L t = (if (recL t s').length > 100 then [] else recL t s') := by
  have h1 : rcC L t = (if (recL t s').length > 100 then 5 else 0) := by
    unfold rcC; rw [if_neg (by rw [h]; decide), hs, if_neg (by decide), endR_eq he, if_neg (fun h => h hc)]
  refine ⟨h1, ?_⟩
  unfold rcR
  rw [h1, endR_eq he]
  by_cases hl : (recL t s').length > 100
  · rw [if_pos hl, if_neg (by decide), if_pos hl]
  · rw [if_neg hl, if_pos rfl, if_neg hl]
theorem hasSet_take_succ {L : List Ins} {k : Nat} (h : k < L.length) : hasSet (L.take (k + 1)) = (hasSet (L.take k) || (L[k].op == 1)) := by
  unfold hasSet
  rw [List.take_succ_eq_append_getElem h, List.any_append]; simp
theorem hasSet_at {L : List Ins} {k : Nat} (h : k < L.length) (h1 : (L[k].op == 1) = true) : hasSet L = true := by
  unfold hasSet
  rw [List.any_eq_true]
  exact ⟨_, List.getElem_mem h, h1⟩
theorem mtext_size {t : Tri} (hv : vmach t = true) : (mtext t).size ≤ 300 := by
  obtain ⟨o1, o2, o3, y0, y1⟩ := vmach_parts hv
  have l1 := rtext_len t.a
  have l2 := rtext_len t.b
  have l3 := rtext_len t.s
  have l4 := dec_len t.carry (by omega) (by omega)
  unfold mtext
  rw [if_pos hv]
  unfold mtextL
  have e1 : (⟨#[32]⟩ : ByteArray).size = 1 := rfl
  simp only [ByteArray.size_append, size_mk, e1]
  omega
theorem small_of' {t : Tri} (h : vmach t = true) : SmallTri t := by
  have hz := sized_of h
  exact ⟨by have := hz.a; unfold SmallReg; omega, by have := hz.b; unfold SmallReg; omega, by have := hz.s; unfold SmallReg; omega⟩
end Go.Proofs.YtlhcilmnfmglfaaDoor

namespace Go.Proofs.YtlhcilmnfmglfaaDoor
open Go.RowKit Go.Sort
theorem sameR_refl (r : Reg) : sameR r r = true := by simp [sameR]
theorem sameM_refl (t : Tri) : sameM t t = true := by simp [sameM, sameR_refl]
set_option maxHeartbeats 800000 in
theorem a2Long2_any (A B : Option Addr) (n c m d : Nat) (w : World) (hn : n ≤ 9223372036854775807) (hm : m ≤ 9223372036854775807) :
    Calls Tryd.prog 8 #[.slice A n c, .slice B m d] w fun e w' => e = .returned (.bool (decide (3000 < n) || decide (3000 < m))) ∧ w = w' := by
  by_cases h : 3000 < n
  · have h1 : (3000 : Int) < (n : Int) := by omega
    have HF : Hid ((decide (3000 < n) || decide (3000 < m)) = true) := by simp [Hid, h]
    obtain ⟨R, hR⟩ : ∃ R, (decide (3000 < n) || decide (3000 < m)) = R := ⟨_, rfl⟩
    rw [hR] at HF ⊢
    clear hR
    go_enter Tryd.func8, Tryd.ntmps8
    go_wp2
    go_ret
    exact ⟨by first | exact ret_bool HF.out.symm | rfl, rfl⟩
  · by_cases h2 : 3000 < m
    · have h1 : ¬ (3000 : Int) < (n : Int) := by omega
      have h3 : (3000 : Int) < (m : Int) := by omega
      have HF : Hid ((decide (3000 < n) || decide (3000 < m)) = true) := by simp [Hid, h2]
      obtain ⟨R, hR⟩ : ∃ R, (decide (3000 < n) || decide (3000 < m)) = R := ⟨_, rfl⟩
      rw [hR] at HF ⊢
      clear hR
      have hd : decide ((3000 : Int) < (n : Int)) = false := decide_eq_false h1
      go_enter Tryd.func8, Tryd.ntmps8
      go_wp2
      go_ret
      exact ⟨by first | exact ret_bool HF.out.symm | rfl, rfl⟩
    · have h1 : ¬ (3000 : Int) < (n : Int) := by omega
      have h3 : ¬ (3000 : Int) < (m : Int) := by omega
      have HF : Hid ((decide (3000 < n) || decide (3000 < m)) = false) := by simp [Hid, h, h2]
      obtain ⟨R, hR⟩ : ∃ R, (decide (3000 < n) || decide (3000 < m)) = R := ⟨_, rfl⟩
      rw [hR] at HF ⊢
      clear hR
      have hd : decide ((3000 : Int) < (n : Int)) = false := decide_eq_false h1
      have hd2 : decide ((3000 : Int) < (m : Int)) = false := decide_eq_false h3
      go_enter Tryd.func8, Tryd.ntmps8
      go_wp2
      go_ret
      exact ⟨by first | exact ret_bool HF.out.symm | rfl, rfl⟩
set_option maxHeartbeats 800000 in
theorem a2At0_any (A : Option Addr) (n c : Nat) (bs : List UInt8) (q : Int) (w : World) (hb : RB w A n bs) (hn : n ≤ 9223372036854775807) (hq : 1 ≤ q ∧ q ≤ 1000) :
    Calls Tryd.prog 9 #[.slice A n c, .int .i64 0, .int .i64 q] w fun e w' => (∃ x : Int, e = .returned (.int .i64 x) ∧ 0 ≤ x ∧ x < q) ∧ w = w' := by
  rcases Nat.eq_zero_or_pos n with h0 | h0
  · subst h0
    clear hb
    go_enter Tryd.func9, Tryd.ntmps9
    go_wp2_with fail
    go_ret
    exact ⟨⟨0, rfl, by omega, by omega⟩, rfl⟩
  · obtain ⟨ad, rfl, hl, hc⟩ := hb.2 h0
    have hl0 : 0 < bs.length := by rw [hb.1]; exact h0
    obtain ⟨z, hz⟩ : ∃ z : Nat, bs[0].toNat = z := ⟨_, rfl⟩
    have hc0 := hc 0 bs[0] (by simp [hl0])
    have hz2 : z < 256 := by rw [← hz]; exact bs[0].toNat_lt
    unfold byteV at hc0
    rw [hz] at hc0
    have hc1 : w.cell? ad = some (.int .u8 (z : Int)) := by
      have e0 : ad.add 0 = ad := by unfold Addr.add; split <;> simp_all
      rw [e0] at hc0; exact hc0
    clear hc0
    have i1 : ¬ (n : Int) ≤ 0 := by omega
    have i2 : (0 : Int) < (n : Int) := by omega
    have i3 : ¬ q < 1 := by omega
    have i4 : ¬ q = 0 := by omega
    have i5 : q ≠ 0 := by omega
    have hm0 := Int.emod_nonneg (z : Int) i5
    have hm1 := Int.emod_lt_of_pos (z : Int) (show 0 < q by omega)
    have hw1 : IntKind.i64.wrap (z : Int) = z := wrapI64 (by omega)
    have hw2 : IntKind.i64.wrap ((z : Int) % q) = (z : Int) % q := wrapI64 (by omega)
    have hw3 : IntKind.i64.wrap ((z : Int).tmod q) = (z : Int) % q := by rw [Int.tmod_eq_emod_of_nonneg (by omega)]; exact hw2
    clear hc hb hz hl
    go_enter Tryd.func9, Tryd.ntmps9
    go_wp2_with fail
    go_ret
    exact ⟨⟨(z : Int) % q, rfl, hm0, hm1⟩, rfl⟩
theorem StrokeBack_any (k : Int) (w : World) (hk : 1 ≤ k ∧ k ≤ 6) :
    Calls Tryd.prog 171 #[.int .i64 k] w fun e w' => e = .returned (.tuple #[.int .i64 (if k ≤ 4 then backK k else 0), .int .i64 (if k ≤ 4 then 0 else 3)]) ∧ w = w' := by
  have hk' : k = 1 ∨ k = 2 ∨ k = 3 ∨ k = 4 ∨ k = 5 ∨ k = 6 := by omega
  clear hk
  rcases hk' with rfl | rfl | rfl | rfl | rfl | rfl <;>
  · go_enter Tryd.func171, Tryd.ntmps171
    go_wp2_with fail
    go_ret2
    exact ⟨rfl, rfl⟩
theorem specValidMachine_any (t : Tri) (A1 A2 A3 : Option Addr) (c1 c2 c3 : Nat) (w : World) (r1 : RI w A1 t.a.digits.length t.a.digits) (r2 : RI w A2 t.b.digits.length t.b.digits) (r3 : RI w A3 t.s.digits.length t.s.digits) (hs : SmallTri t) :
    Calls Tryd.prog 15 #[.agg #[.int .i64 t.a.base, .slice A1 t.a.digits.length c1, .int .i64 t.b.base, .slice A2 t.b.digits.length c2, .int .i64 t.s.base, .slice A3 t.s.digits.length c3, .int .i64 t.carry]] w fun e w' => e = .returned (.bool (vmach t)) ∧ Below w.heap.size w w' := by
  have KV := Lib.hid (fun W (hW : Kn w ([.blk w.heap.size [.int .i64 t.a.base, .slice A1 t.a.digits.length c1, .int .i64 t.b.base, .slice A2 t.b.digits.length c2, .int .i64 t.s.base, .slice A3 t.s.digits.length c3, .int .i64 t.carry] 35]) W) => l10Ok_any ⟨w.heap.size, 0, none⟩ t W (TriC.tri (A1 := A1) (c1 := c1) (A2 := A2) (c2 := c2) (A3 := A3) (c3 := c3) ⟨⟨hW.blkAt.1 0, hW.blkAt.1 1, hW.blkAt.1 2, hW.blkAt.1 3, hW.blkAt.1 4, hW.blkAt.1 5, hW.blkAt.1 6⟩, r1.below hW.below, r2.below hW.below, r3.below hW.below⟩) hs)
  clear r1 r2 r3
  go_enter Tryd.func15, Tryd.ntmps15
  go_wp2_with fail
  refine Calls.kn ((Kn.nil w).al [.int .i64 t.a.base, .slice A1 t.a.digits.length c1, .int .i64 t.b.base, .slice A2 t.b.digits.length c2, .int .i64 t.s.base, .slice A3 t.s.digits.length c3, .int .i64 t.carry] 35) ?_; intro w1 hK0
  refine (KV.out _ hK0).mono ?_; rintro e w2 ⟨rfl, m, rfl⟩
  go_wp2_with fail
  go_ret
  exact ⟨rfl, (hK0.drewN m).below⟩
/-- a machine, a bell and a code -/
def DSRet (r : Tri × Bool) (w : World) (e : Ending) (w' : World) : Prop := ∃ E1 f1 E2 f2 E3 f3, e = .returned (.tuple #[.agg #[.int .i64 r.1.a.base, .slice E1 r.1.a.digits.length f1, .int .i64 r.1.b.base, .slice E2 r.1.b.digits.length f2, .int .i64 r.1.s.base, .slice E3 r.1.s.digits.length f3, .int .i64 r.1.carry], .bool r.2, .int .i64 0]) ∧ Kn w [rowI E3 f3 r.1.s.digits, rowI E2 f2 r.1.b.digits, rowI E1 f1 r.1.a.digits] w'
end Go.Proofs.YtlhcilmnfmglfaaDoor

namespace Go.Proofs.YtlhcilmnfmglfaaDoor
open Go.RowKit Go.Sort
theorem pw_sevenE {b : Int} (b1 : 2 ≤ b) (b2 : b ≤ 12) {k : Nat} (hk : k ≤ 7) : pw b k ≤ 35831808 := by
  have h1 := pw_12 b1 b2 k
  have h2 := pw_mono 12 (by omega) k 7 hk
  have h3 : pw 12 7 = 35831808 := by decide
  omega
/-- the sum of the first carries -/
def cSum (b : Int) (xs ys : List Int) : Nat → Int
  | 0 => 0
  | j + 1 => cSum b xs ys j + carK b xs ys j
theorem cSum_lev {b : Int} {xs ys : List Int} (hb : 2 ≤ b) (hdx : Digs b xs) (hdy : Digs b ys) (j : Nat) : cSum b xs ys (j + 1) = (levN b xs ys j : Int) := by
  induction j with
  | zero => show 0 + carK b xs ys 0 = 0; rfl
  | succ j ih =>
    show cSum b xs ys (j + 1) + carK b xs ys (j + 1) = _
    rw [ih]
    rcases car_one hb hdx hdy (j + 1) with h | h
    · rw [h, levN, h, if_neg (by decide)]; omega
    · rw [h, levN, h, if_pos rfl]; omega
theorem cSum_bd {b : Int} {xs ys : List Int} (hb : 2 ≤ b) (hdx : Digs b xs) (hdy : Digs b ys) (j : Nat) : 0 ≤ cSum b xs ys j ∧ cSum b xs ys j ≤ (j : Int) := by
  induction j with
  | zero => exact ⟨Int.le_refl _, Int.le_refl _⟩
  | succ j ih =>
    have h := carK_bd hb hdx hdy j
    show 0 ≤ cSum b xs ys j + carK b xs ys j ∧ cSum b xs ys j + carK b xs ys j ≤ _
    omega
theorem carL_at (b : Int) (xs ys : List Int) {n i : Nat} (h : i < n) : (carL b xs ys n)[i]? = some (carK b xs ys i) := by
  obtain ⟨h1, h2⟩ := carL_get b xs ys h
  rw [List.getElem?_eq_getElem h1, h2]
theorem evPush_take {L : List Cev} {i : Nat} {e : Cev} (h : L[i]? = some e) : evPush (L.take (i + 1)) = evPush (L.take i) + (if e.kind = 3 then 1 else 0) := by
  obtain ⟨hl, he⟩ := List.getElem?_eq_some_iff.1 h
  rw [List.take_succ_eq_append_getElem hl, he, evPush_snoc]
theorem evPush_le (L : List Cev) : evPush L ≤ L.length := by unfold evPush; exact List.length_filter_le _ _
set_option maxRecDepth 100000 in
set_option maxHeartbeats 12800000 in
theorem law_Events (A : Option Addr) (n c : Nat) (bs : List UInt8) (w : World) (hb : RB w A n bs) (hn : n ≤ 9223372036854775807) (ht : TB w) :
    Calls Tryd.prog 5 #[.slice A n c] w fun e w' => e = .returned (.bool true) ∧ Below w.heap.size w w' := by
  have KD := Lib.hid (A2Registers_any A n c bs w hb hn)
  have HTB := Lib.hid (fun W (hW : Below w.heap.size w W) => TB.below ht hW)
  unfold A2R at KD
  clear hb ht
  have KG := (fun W => a2Long2_any A none n c 0 0 W hn (by omega))
  obtain ⟨bg, hbg⟩ : ∃ b, (decide (3000 < n) || decide (3000 < 0)) = b := ⟨_, rfl⟩
  rw [hbg] at KG
  replace KG := Lib.hid KG
  clear hbg
  rcases bg with _ | _
  rotate_left
  · go_enter Tryd.func5, Tryd.ntmps5
    go_wp2_with (go_at_call 8; refine (KG.out _).mono ?_; rintro e w' ⟨rfl, rfl⟩)
    go_ret
    exact ⟨rfl, Below.refl _ _⟩
  go_enter Tryd.func5, Tryd.ntmps5
  go_wp2_with (go_at_call 8; refine (KG.out _).mono ?_; rintro e w' ⟨rfl, rfl⟩)
  refine KD.out.mono ?_; rintro e w1 ⟨b, A, c, ds, B, k, es, rfl, ⟨⟨b1, b2⟩, ⟨n1, n2⟩, hl, hda, hde⟩, K1⟩
  clear KD
  have hp7 := pw_sevenE b1 b2 n2
  have hp : pw b ds.length ≤ 1000000000001 := by omega
  have hv1 : vreg b ds = true := vreg_short b1 (by omega) hda n1 (by omega) hp
  have hv2 : vreg b es = true := vreg_short b1 (by omega) hde (by omega) (by omega) (by rw [hl]; exact hp)
  have hsv := add_vreg b1 (show b ≤ 16 by omega) es n1 (by omega) hp
  have hsl := addD_len b ds es ds.length
  have htl := turnD_len b ds es ds.length
  have hvt : vreg b (turnD b ds es ds.length) = true := vreg_short b1 (by omega) (turnD_digs b1 ds es _) (by rw [htl]; exact n1) (by rw [htl]; omega) (by rw [htl]; exact hp)
  have hsum := cSum_lev b1 hda hde ds.length
  have hcb := (fun j => cSum_bd b1 hda hde j)
  have hlv := levN_le b ds es ds.length
  have KE := (fun W r1 r2 => EventsOf_ok b A c ds B k es W r1 r2 hv1 hv2 hl.symm)
  have KA := (fun W r1 r2 => specAddRegisters_ok b A c ds B k es W r1 r2 hv1 hv2 hl.symm hp)
  have KC := (fun W r1 r2 => specCarriesOf_ok b A c ds B k es W r1 r2 hv1 hv2 hl.symm)
  have KR := (fun LA lc L W r1 hL hm hok hvr => ReplayEvents_ok b A c ds LA lc L W r1 hL hv1 hm hok hvr)
  have KN := (fun W r1 r2 => CountPushes_ok b A c ds B k es W r1 r2 hv1 hv2 hl.symm)
  have KQ := (fun W r1 r2 => RippleOf_ok b A c ds B k es W r1 r2 hv1 hv2 hl.symm)
  have KT := (fun W r1 r2 => TurnWheels_ok b A c ds B k es W r1 r2 hv1 hv2 hl.symm hp)
  have KP := (fun E ec C cc W hx hc => PushLevers_ok b ds es hv1 hv2 ds.length rfl hvt hsv E ec C cc W hx hc)
  have KS := (fun E F ec fc W r1 r2 => specSameRegister_same b E F ec fc (addD b ds es ds.length) W r1 r2 (by rw [hsl]; omega))
  unfold EvRet at KE
  unfold R3Ret at KA
  have hcl := cockL_len b ds es ds.length
  have hka := (fun i h => carL_at b ds es (n := ds.length + 1) (i := i) h)
  have hkl := carL_len b ds es (ds.length + 1)
  obtain ⟨SS, hSS⟩ : ∃ s, addD b ds es ds.length = s := ⟨_, rfl⟩
  obtain ⟨TT, hTT⟩ : ∃ s, turnD b ds es ds.length = s := ⟨_, rfl⟩
  obtain ⟨CC, hCC⟩ : ∃ s, cockL b ds es ds.length = s := ⟨_, rfl⟩
  obtain ⟨KL, hKL⟩ : ∃ s, carL b ds es (ds.length + 1) = s := ⟨_, rfl⟩
  obtain ⟨N, hN⟩ : ∃ s, levN b ds es ds.length = s := ⟨_, rfl⟩
  rw [hSS] at hsl hsv
  rw [hTT] at htl
  rw [hCC] at hcl
  rw [hKL] at hkl
  rw [hN] at hsum hlv
  simp only [hSS, hTT, hCC, hKL, hN] at KE KA KC KN KQ KT KP KS hka
  rw [hsl] at KS KA
  have HSV := Lib.hid hsv
  have HSL := Lib.hid hsl
  have HTL := Lib.hid htl
  have HCL := Lib.hid hcl
  have HKL := Lib.hid hkl
  have HKA := Lib.hid hka
  have HSM := Lib.hid hsum
  have HCB := Lib.hid hcb
  obtain ⟨cr, hcr⟩ : ∃ s, carK b ds es ds.length = s := ⟨_, rfl⟩
  simp only [hcr] at KA KP
  have hkn := hka ds.length (by omega)
  rw [hcr] at hkn
  have HKN := Lib.hid hkn
  have hcbd := carK_bd b1 hda hde
  have HCBD := Lib.hid hcbd
  clear hkn hcr hcbd
  replace KE := Lib.hid KE
  replace KA := Lib.hid KA
  replace KC := Lib.hid KC
  replace KR := Lib.hid KR
  replace KN := Lib.hid KN
  replace KQ := Lib.hid KQ
  replace KT := Lib.hid KT
  replace KP := Lib.hid KP
  replace KS := Lib.hid KS
  clear hSS hTT hCC hKL hN hsl htl hcl hkl hka hsum hcb hv1 hv2 hsv hvt hp hp7 hda hde
  obtain ⟨n, hn2⟩ : ∃ n, ds.length = n := ⟨_, rfl⟩
  have HDN := Lib.hid hn2
  have HEN := Lib.hid (hl.trans hn2)
  simp only [hl.trans hn2] at KE KA KC KN KQ KT
  simp only [hn2] at KE KA KC KR KN KQ KT KP KS HSL HTL HCL HKL HKA HSM HKN
  rw [hn2] at n1 n2 hlv ⊢
  clear hl hn2
  obtain ⟨g, hg⟩ : ∃ g, w1.heap.size = g := ⟨_, rfl⟩
  have K2 := (K1.al [.int .i64 b, .slice A n c] 33).al [.int .i64 b, .slice B n k] 33
  simp only [World.size_alloc, hg] at K2
  go_upto_region 4 with fail
  refine Code.wp.kn K2 ?_; clear K1 K2; intro w2 K2
  try rw [hg]
  clear hg
  obtain ⟨a1, a2, a3, c1, c2, c3, -⟩ := K2.cells
  go_wp2_with fail
  refine (KE.out _ ((K2.front 2 rfl).rivN HDN.out) ((K2.front 3 rfl).rivN HEN.out)).mono ?_; rintro e w3 ⟨LA, lc, L, rfl, ⟨hok, hal, hpu, hll⟩, hK⟩
  have K3 := K2.join hK
  clear hK K2 KE a1 a2 a3 c1 c2 c3
  have HOK := Lib.hid hok
  have HAL := Lib.hid hal
  have HPU := Lib.hid hpu
  clear hok hal hpu
  obtain ⟨c1, c2, c3, a1, a2, a3, -⟩ := K3.cells
  go_wp2_with fail
  refine (KA.out _ ((K3.front 3 rfl).rivN HDN.out) ((K3.front 4 rfl).rivN HEN.out)).mono ?_; rintro e w4 ⟨S, sc, rfl, hK⟩
  have K4 := K3.join hK
  clear hK K3 KA a1 a2 a3 c1 c2 c3
  obtain ⟨g7, hg⟩ : ∃ g, w4.heap.size = g := ⟨_, rfl⟩
  go_upto_region 6 with fail
  refine Code.wp.kn (K4.al [.int .i64 b, .slice S n sc] 33) ?_; clear K4; intro w5 K5
  rw [hg] at K5
  try rw [hg]
  clear hg
  obtain ⟨a1, a2, a3, c1, c2, c3, d1, d2, d3, -⟩ := K5.cells
  go_wp2_with fail
  refine (KC.out _ ((K5.front 5 rfl).rivN HDN.out) ((K5.front 6 rfl).rivN HEN.out)).mono ?_; rintro e w6 ⟨F, fc, rfl, hK⟩
  have K6 := K5.join hK
  clear hK K5 KC a1 a2 a3 c1 c2 c3 d1 d2 d3
  obtain ⟨a1, a2, a3, c1, c2, c3, d1, d2, d3, -⟩ := K6.cells
  go_wp2_with fail
  have hLr := (K6.front 3 rfl).rlEv.2
  refine (KR.out LA lc L _ ((K6.front 6 rfl).rivN HDN.out) hLr (by omega) (by exact HOK.out) (by rw [HAL.out]; exact HSV.out)).mono ?_; rintro e w7 ⟨R, rc, rfl, hK⟩
  rw [HAL.out] at hK
  have K7 := K6.join hK
  clear hK K6 KR hLr a1 a2 a3 c1 c2 c3 d1 d2 d3
  obtain ⟨g12, hg⟩ : ∃ g, w7.heap.size = g := ⟨_, rfl⟩
  go_upto_region 10 with fail
  refine Code.wp.kn (K7.al [.int .i64 b, .slice R n rc] 33) ?_; clear K7; intro w8 K8
  rw [hg] at K8
  try rw [hg]
  clear hg
  obtain ⟨e1, e2, e3, a1, a2, a3, c1, c2, c3, d1, d2, d3, -⟩ := K8.cells
  go_wp2_with fail
  refine (KN.out _ ((K8.front 8 rfl).rivN HDN.out) ((K8.front 9 rfl).rivN HEN.out)).mono ?_; rintro e w9 ⟨rfl, hw⟩
  have K9 := K8.keep hw
  clear hw K8 KN e1 e2 e3 a1 a2 a3 c1 c2 c3 d1 d2 d3
  obtain ⟨e1, e2, e3, a1, a2, a3, c1, c2, c3, d1, d2, d3, -⟩ := K9.cells
  go_wp2_with fail
  refine (KQ.out _ ((K9.front 8 rfl).rivN HDN.out) ((K9.front 9 rfl).rivN HEN.out)).mono ?_; rintro e w10 ⟨⟨rp, rfl, hr1, hr2⟩, hw⟩
  have K10 := K9.keep hw
  clear hw K9 KQ e1 e2 e3 a1 a2 a3 c1 c2 c3 d1 d2 d3
  go_wp2_with fail
  have hLe := HPU.out
  have hN64 : N ≤ 64 := by rw [← hLe]; exact Nat.le_trans (evPush_le L) hll
  clear hLe
  go_loopw [18, 19] (fun nn ii wr => ∃ (j : Nat), j ≤ n + 1 ∧ ii = .int .i64 (j : Int) ∧ nn = .int .i64 (cSum b ds es j) ∧ w10 = wr) (fun _ ii _ => n + 1 - (intOf ii).toNat)
  case atStart => exact ⟨0, Nat.zero_le _, rfl, rfl, rfl⟩
  case round =>
    obtain ⟨j, hj, rfl, rfl, rfl⟩ := hrel
    by_cases hjn : j < n + 1
    · have i1 : (j : Int) < (n : Int) + 1 := by omega
      have i0 : (0 : Int) ≤ (j : Int) := by omega
      obtain ⟨ad, hA, hlt, hkx, hcx⟩ := ((K10.front 2 rfl).rivN HKL.out).at_ hjn
      have hka := HKA.out j hjn
      rw [List.getElem?_eq_getElem hkx] at hka
      injection hka with hka
      rw [hka] at hcx
      have h1 := HCB.out j
      have h2 := HCBD.out j
      have h3 : cSum b ds es (j + 1) = cSum b ds es j + carK b ds es j := rfl
      obtain ⟨X, hX⟩ : ∃ x, cSum b ds es j = x := ⟨_, rfl⟩
      obtain ⟨Y, hY⟩ : ∃ x, carK b ds es j = x := ⟨_, rfl⟩
      rw [hX] at h1 h3 ⊢
      rw [hY] at h2 h3 hcx
      have q1 : IntKind.i64.wrap (X + Y) = X + Y := wrapI64 (by omega)
      have H3 := Lib.hid h3
      subst hA
      clear hX hY h3 hka hkx
      go_wp2_with fail
      go_roundw
      case rel => exact ⟨j + 1, by omega, by go_num, by rw [H3.out], by first | rfl | trivial⟩
      case measure => simp [intOf] <;> omega
    · have i1 : ¬ (j : Int) < (n : Int) + 1 := by omega
      obtain rfl : j = n + 1 := by omega
      rw [HSM.out]
      clear HSM HCB HCBD HKA
      have K10' := K10
      go_wp2_with fail
      go_loopw [20, 21] (fun oo ii wr => ∃ (i : Nat), i ≤ L.length ∧ ii = .int .i64 (i : Int) ∧ oo = .int .i64 (evPush (L.take i) : Int) ∧ Below w10.heap.size w10 wr) (fun _ ii _ => L.length - (intOf ii).toNat)
      case atStart => exact ⟨0, Nat.zero_le _, rfl, rfl, Below.refl _ _⟩
      case round =>
        obtain ⟨i, hi, rfl, rfl, hwr⟩ := hrel
        have KW := K10.keep hwr
        by_cases hiL : i < L.length
        · have i1 : (i : Int) < (L.length : Int) := by omega
          have i0 : (0 : Int) ≤ (i : Int) := by omega
          obtain ⟨ad, hA, hlt, hkx, f1, f2, f3⟩ := (KW.front 5 rfl).rlEv.2.at_ hiL
          obtain ⟨c1, c2, c3⟩ := HOK.out L[i] (List.getElem_mem hkx)
          have htk := evPush_take (List.getElem?_eq_getElem hkx)
          have hle := evPush_le (L.take i)
          rw [List.length_take] at hle
          obtain ⟨⟨q, v, s⟩, hev⟩ : ∃ e, L[i] = e := ⟨_, rfl⟩
          rw [hev] at f1 f2 f3 c1 c2 c3 htk
          dsimp only at f1 f2 f3 c1 c2 c3 htk
          have KX := Lib.hid (EventText_some q v s wr c1.1 c1.2 (by omega) (by omega) (by omega) (by omega) (HTB.out _ KW.below))
          obtain ⟨P, hP⟩ : ∃ p, evPush (L.take i) = p := ⟨_, rfl⟩
          rw [hP] at htk hle ⊢
          have HTK := Lib.hid htk
          subst hA
          clear hP htk hev hkx
          by_cases hq : q = 3
          · subst hq
            have HTK := Lib.hid (show evPush (L.take (i + 1)) = P + 1 by rw [HTK.out, if_pos rfl])
            go_wp2_with (go_at_call 36; (refine KX.out.mono ?_); rintro e w11 ⟨T, rfl, hT, hw⟩; have hne : T.toList.isEmpty = false := str_nonempty (by omega))
            go_roundw
            case rel => exact ⟨i + 1, by omega, by go_num, by rw [HTK.out]; go_num, hwr.trans (hw.mono hwr.size)⟩
            case measure => simp [intOf] <;> omega
          · have z9 : (q == 3) = false := beq_eq_false_iff_ne.2 hq
            have HTK := Lib.hid (show evPush (L.take (i + 1)) = P by rw [HTK.out, if_neg hq, Nat.add_zero])
            go_wp2_with (go_at_call 36; (refine KX.out.mono ?_); rintro e w11 ⟨T, rfl, hT, hw⟩; have hne : T.toList.isEmpty = false := str_nonempty (by omega))
            go_roundw
            case rel => exact ⟨i + 1, by omega, by go_num, by rw [HTK.out], hwr.trans (hw.mono hwr.size)⟩
            case measure => simp [intOf] <;> omega
        · have i1 : ¬ (i : Int) < (L.length : Int) := by omega
          obtain rfl : i = L.length := by omega
          rw [List.take_length, HPU.out]
          clear K10 K10' HOK HPU hwr
          obtain ⟨wo, hwo⟩ : ∃ wo : World, wo = wr := ⟨_, rfl⟩
          subst hwo
          obtain ⟨e1, e2, e3, d1, d2, d3, c1, c2, c3, a1, a2, a3, -⟩ := KW.cells
          go_wp2_with fail
          refine (KT.out _ ((KW.front 8 rfl).rivN HDN.out) ((KW.front 9 rfl).rivN HEN.out)).mono ?_; rintro e w12 ⟨E, ec, C, cc, rfl, hK⟩
          have K12 := KW.join hK
          clear hK KW KT e1 e2 e3 a1 a2 a3 c1 c2 c3 d1 d2 d3
          obtain ⟨g22, hg⟩ : ∃ g, w12.heap.size = g := ⟨_, rfl⟩
          go_upto_region 26 with fail
          refine Code.wp.kn (K12.al [.int .i64 b, .slice E n ec] 33) ?_; clear K12; intro w13 K13
          rw [hg] at K13
          try rw [hg]
          clear hg
          obtain ⟨m1, m2, m3, e1, e2, e3, d1, d2, d3, c1, c2, c3, a1, a2, a3, -⟩ := K13.cells
          have z1 : ((N : Int) != (N : Int)) = false := bne_self_eq_false _
          have z2 : ((n : Int) != (n : Int)) = false := bne_self_eq_false _
          have z3 : ¬ (N : Int) < rp := by omega
          rcases Nat.eq_zero_or_pos N with hN0 | hN0
          · have y1 : rp = 0 := hr2.2 hN0
            have y2 : (N : Int) = 0 := by omega
            clear hr1 hr2
            subst y1
            go_wp2_with fail
            refine (KS.out R S rc sc _ ((K13.front 4 rfl).rivN HSL.out) ((K13.front 7 rfl).rivN HSL.out)).mono ?_; rintro e w14 ⟨rfl, hw⟩
            have K14 := K13.keep hw
            clear hw K13 m1 m2 m3 e1 e2 e3 a1 a2 a3 c1 c2 c3 d1 d2 d3
            obtain ⟨m1, m2, m3, e1, e2, e3, d1, d2, d3, c1, c2, c3, a1, a2, a3, -⟩ := K14.cells
            go_wp2_with fail
            refine (KP.out E ec C cc _ ((K14.front 1 rfl).rivN HTL.out) ((K14.front 2 rfl).rlBlN HCL.out)).mono ?_; rintro e w15 ⟨X, xc, rfl, hK⟩
            have K15 := K14.join hK
            clear hK K14 KP m1 m2 m3 e1 e2 e3 a1 a2 a3 c1 c2 c3 d1 d2 d3 z1 z2 z3
            obtain ⟨g25, hg⟩ : ∃ g, w15.heap.size = g := ⟨_, rfl⟩
            go_upto_region 29 with fail
            refine Code.wp.kn (K15.al [.int .i64 b, .slice X n xc] 33) ?_; clear K15; intro w16 K16
            rw [hg] at K16
            try rw [hg]
            clear hg
            obtain ⟨f1, f2, f3, m1, m2, m3, e1, e2, e3, d1, d2, d3, -⟩ := K16.cells
            go_wp2_with fail
            refine (KS.out X S xc sc _ ((K16.front 1 rfl).rivN HSL.out) ((K16.front 9 rfl).rivN HSL.out)).mono ?_; rintro e w17 ⟨rfl, hw⟩
            have K17 := K16.keep hw
            clear hw K16 f1 f2 f3 m1 m2 m3 e1 e2 e3 d1 d2 d3
            obtain ⟨adF, hF, hltF, hkF, hcF⟩ := ((K17.front 7 rfl).rivN HKL.out).at_ (show n < n + 1 by omega)
            have hkn := HKN.out
            rw [List.getElem?_eq_getElem hkF] at hkn
            injection hkn with hkn
            rw [hkn] at hcF
            have q1 : IntKind.i64.wrap ((n : Int) + 1 - 1) = (n : Int) := by rw [wrapI64 (by omega)]; omega
            have q2 : ((n : Int) + 1 - 1) = (n : Int) := by omega
            have q3 : IntKind.i64.wrap (n : Int) = (n : Int) := wrapI64 (by omega)
            have i0 : (0 : Int) ≤ (n : Int) := by omega
            have i1 : (n : Int) < (n : Int) + 1 := by omega
            have z1 : (cr == cr) = true := beq_self_eq_true _
            subst hF
            clear hkn hkF
            go_wp2_with fail
            go_ret
            exact ⟨rfl, K17.below⟩
          · have y1 : ¬ rp = 0 := fun h => by have := hr2.1 h; omega
            have y2 : ¬ (N : Int) = 0 := by omega
            have y3 : (rp == 0) = false := beq_eq_false_iff_ne.2 y1
            have y4 : ((N : Int) == 0) = false := beq_eq_false_iff_ne.2 y2
            have y5 : ¬ N = 0 := by omega
            clear hr1 hr2
            go_wp2_with fail
            refine (KS.out R S rc sc _ ((K13.front 4 rfl).rivN HSL.out) ((K13.front 7 rfl).rivN HSL.out)).mono ?_; rintro e w14 ⟨rfl, hw⟩
            have K14 := K13.keep hw
            clear hw K13 m1 m2 m3 e1 e2 e3 a1 a2 a3 c1 c2 c3 d1 d2 d3
            obtain ⟨m1, m2, m3, e1, e2, e3, d1, d2, d3, c1, c2, c3, a1, a2, a3, -⟩ := K14.cells
            go_wp2_with fail
            refine (KP.out E ec C cc _ ((K14.front 1 rfl).rivN HTL.out) ((K14.front 2 rfl).rlBlN HCL.out)).mono ?_; rintro e w15 ⟨X, xc, rfl, hK⟩
            have K15 := K14.join hK
            clear hK K14 KP m1 m2 m3 e1 e2 e3 a1 a2 a3 c1 c2 c3 d1 d2 d3 z1 z2 z3
            obtain ⟨g25, hg⟩ : ∃ g, w15.heap.size = g := ⟨_, rfl⟩
            go_upto_region 29 with fail
            refine Code.wp.kn (K15.al [.int .i64 b, .slice X n xc] 33) ?_; clear K15; intro w16 K16
            rw [hg] at K16
            try rw [hg]
            clear hg
            obtain ⟨f1, f2, f3, m1, m2, m3, e1, e2, e3, d1, d2, d3, -⟩ := K16.cells
            go_wp2_with fail
            refine (KS.out X S xc sc _ ((K16.front 1 rfl).rivN HSL.out) ((K16.front 9 rfl).rivN HSL.out)).mono ?_; rintro e w17 ⟨rfl, hw⟩
            have K17 := K16.keep hw
            clear hw K16 f1 f2 f3 m1 m2 m3 e1 e2 e3 d1 d2 d3
            obtain ⟨adF, hF, hltF, hkF, hcF⟩ := ((K17.front 7 rfl).rivN HKL.out).at_ (show n < n + 1 by omega)
            have hkn := HKN.out
            rw [List.getElem?_eq_getElem hkF] at hkn
            injection hkn with hkn
            rw [hkn] at hcF
            have q1 : IntKind.i64.wrap ((n : Int) + 1 - 1) = (n : Int) := by rw [wrapI64 (by omega)]; omega
            have q2 : ((n : Int) + 1 - 1) = (n : Int) := by omega
            have q3 : IntKind.i64.wrap (n : Int) = (n : Int) := wrapI64 (by omega)
            have i0 : (0 : Int) ≤ (n : Int) := by omega
            have i1 : (n : Int) < (n : Int) + 1 := by omega
            have z1 : (cr == cr) = true := beq_self_eq_true _
            subst hF
            clear hkn hkF
            go_wp2_with fail
            go_ret
            exact ⟨rfl, K17.below⟩
end Go.Proofs.YtlhcilmnfmglfaaDoor

namespace Go.Proofs.YtlhcilmnfmglfaaDoor
open Go.RowKit Go.ChangeShapes Go.WideShapes Go.ChangeAt
theorem laid_tail {P : Program} {W : World} {x : String × DataW Unit} {rest : List (String × DataW Unit)} (h : laidMet P (x :: rest) W) : laidMet P rest W := by
  obtain ⟨ps, ⟨g, t, cs, fuel, p, q, h1, h2, h3, h4, h5, rfl⟩, hn, hr⟩ := h
  exact ⟨q, h5, (List.nodup_append.1 hn).2.1, fun b off hb => hr b off (List.mem_append_right _ hb)⟩
theorem cellsU64 : Tryd.prog.cellsOf 190 = 1 := by kernel_rfl
theorem cellsTab : Tryd.prog.cellsOf 245 = 20 := by kernel_rfl
theorem gTab : Tryd.prog.globalNamed "internal/strconv.uint64pow10" = some 0 := by kernel_rfl
theorem gTabType : (Tryd.prog.globals[0]?).map (·.type) = some 245 := by kernel_rfl
theorem tb_of_laid {W : World} (h : laidMetH Tryd.prog [("math/bits.deBruijn32tab", Rows.laid_math_bits_deBruijn32tab), ("math/bits.deBruijn64tab", Rows.laid_math_bits_deBruijn64tab), ("internal/strconv.uint64pow10", Rows.laid_internal_strconv_uint64pow10)] W) : TB W := by
  have h1 : laidMet Tryd.prog [("math/bits.deBruijn32tab", Rows.laid_math_bits_deBruijn32tab), ("math/bits.deBruijn64tab", Rows.laid_math_bits_deBruijn64tab), ("internal/strconv.uint64pow10", Rows.laid_internal_strconv_uint64pow10)] W := h
  exact Lib.tabIs_of_head (rest := []) gTab gTabType Tryd.underlying245 Tryd.underlying190 cellsU64 cellsTab (laid_tail (laid_tail h1))
def tabCells (l : DataW Unit) (k : IntKind) : Array Value := match l with
  | .agg ds => (ds.map fun d => match d with | .lit (.int _ n) => Value.int k n | _ => .int k 0).toArray
  | _ => #[]
def setTab (cs : Array Value) (o : Obj) : Obj := match o with
  | .cells _ t frozen => .cells cs t frozen
  | o => o
noncomputable def laidWorld (os : Os) : World :=
  { World.holding Tryd.prog os ⟨#[], #[], []⟩ with heap := (((World.holding Tryd.prog os ⟨#[], #[], []⟩).heap.modify 0 (setTab (tabCells Rows.laid_internal_strconv_uint64pow10 .u64))).modify 2 (setTab (tabCells Rows.laid_math_bits_deBruijn32tab .u8))).modify 3 (setTab (tabCells Rows.laid_math_bits_deBruijn64tab .u8)) }
theorem laid_met (os : Os) (args : Array Value) : laidMet Tryd.prog [("math/bits.deBruijn32tab", Rows.laid_math_bits_deBruijn32tab), ("math/bits.deBruijn64tab", Rows.laid_math_bits_deBruijn64tab), ("internal/strconv.uint64pow10", Rows.laid_internal_strconv_uint64pow10)] ((laidWorld os).forCall (fun _ _ => 0) ⟨#[], args, []⟩).memory :=
  laidMet_of_run' 8 (by kernel_rfl) (by kernel_rfl)
theorem own : ownKnob Tryd.prog.godebug = none := by kernel_rfl
theorem laidOut : laidOutB Tryd.prog = true := by kernel_rfl
end Go.Proofs.YtlhcilmnfmglfaaDoor

namespace Go.Proofs.YtlhcilmnfmglfaaDoor
open Go.RowKit Go.ChangeShapes Go.WideShapes Go.ChangeAt
section
variable {H : Type} {enc : TypeId × Value → H} {w : World} {base : Nat} {spare : Nat → Bool} {held : Bool} {fuel : Nat} {cs : List Value} {x : DataW H × List MemPlace}
theorem cellsU8 : Tryd.prog.cellsOf 5 = 1 := by kernel_rfl
theorem byteV_of (z : Int) (h0 : 0 ≤ z) (h1 : z ≤ 255) : Value.int .u8 z = byteV (UInt8.ofNat z.toNat) := by
  unfold byteV
  congr 1
  rw [UInt8.toNat_ofNat']
  omega
theorem rd_bytes (h : DataW.trod enc Tryd.prog w base spare held fuel 22 cs = some x) : ∃ A n c bs, cs = [.slice A n c] ∧ RB w A n bs ∧ n ≤ 9223372036854775807 := by
  rcases open_ints Tryd.underlying22 Tryd.underlying5 cellsU8 h with ⟨rfl, _⟩ | ⟨a, len, cap, zs, rfl, _, hl, hm, hz, _, hcell, hwf⟩
  · exact ⟨none, 0, 0, [], rfl, ⟨rfl, fun h => absurd h (by omega)⟩, by omega⟩
  · have hlen : len ≤ zs.length := by rw [hz]; split <;> omega
    have hw : ∀ z ∈ zs, 0 ≤ z ∧ z ≤ 255 := fun z hz => by
      have h := hwf z hz
      have h1 : IntKind.u8.min = 0 := by decide
      have h2 : IntKind.u8.max = 255 := by decide
      simp [Lit.wf] at h
      omega
    refine ⟨some a, len, cap, (zs.take len).map (fun z => UInt8.ofNat z.toNat), rfl, ⟨by simp; omega, fun h0 => ⟨a, rfl, ?_, fun j u hu => ?_⟩⟩, by simp only [maxLen] at hm; omega⟩
    · have := World.block_lt_of_cell? w _ (hcell 0 (by omega)); rwa [block_of_add] at this
    · rw [List.getElem?_map, List.getElem?_take] at hu
      split at hu
      · have hj : j < zs.length := by omega
        rw [List.getElem?_eq_getElem hj] at hu
        have hu' : UInt8.ofNat zs[j].toNat = u := by simpa using hu
        obtain ⟨z0, z1⟩ := hw zs[j] (List.getElem_mem _)
        rw [hcell j hj, ← hu', ← byteV_of _ z0 z1]
        simp [List.getD, List.getElem?_eq_getElem hj]
      · simp at hu
end
end Go.Proofs.YtlhcilmnfmglfaaDoor
