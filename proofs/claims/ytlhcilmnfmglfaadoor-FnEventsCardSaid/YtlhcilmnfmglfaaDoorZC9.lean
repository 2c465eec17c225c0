/- Part 9: lemmas and contracts of the claim's functions. -/
import Derived.Test.YtlhcilmnfmglfaaDoorZC1
import Derived.Test.YtlhcilmnfmglfaaDoorZC2
import Derived.Test.YtlhcilmnfmglfaaDoorZC3
import Derived.Test.YtlhcilmnfmglfaaDoorZC4
import Derived.Test.YtlhcilmnfmglfaaDoorZC5
import Derived.Test.YtlhcilmnfmglfaaDoorZC6
import Derived.Test.YtlhcilmnfmglfaaDoorZC7
import Derived.Test.YtlhcilmnfmglfaaDoorZC8
import Derived.Deep.DrawnRows
import Derived.Deep.LoopGhost
import Derived.Deep.RegionHeld3
namespace Go.Proofs.YtlhcilmnfmglfaaDoor
open Go.RowKit Go.Sort
/-! sessions, plainly -/
/-- the name of a stroke -/
def sname (k : Int) : ByteArray :=
  if k = 1 then ⟨#[97, 100, 100]⟩ else if k = 2 then ⟨#[115, 117, 98]⟩ else if k = 3 then ⟨#[114, 105, 103, 104, 116]⟩ else if k = 4 then ⟨#[108, 101, 102, 116]⟩ else if k = 5 then ⟨#[99, 108, 101, 97, 114]⟩ else if k = 6 then ⟨#[122, 101, 114, 111]⟩ else ⟨#[]⟩
def kindOf (bs : List UInt8) : Int :=
  if bs = strB (sname 1) then 1 else if bs = strB (sname 2) then 2 else if bs = strB (sname 3) then 3 else if bs = strB (sname 4) then 4 else if bs = strB (sname 5) then 5 else if bs = strB (sname 6) then 6 else 0
theorem kindOf_sname {k : Int} (h : 1 ≤ k ∧ k ≤ 6) : kindOf (strB (sname k)) = k := by
  have h' : k = 1 ∨ k = 2 ∨ k = 3 ∨ k = 4 ∨ k = 5 ∨ k = 6 := by omega
  rcases h' with rfl | rfl | rfl | rfl | rfl | rfl <;> decide
theorem kindOf_none {bs : List UInt8} (h : ∀ k : Int, 1 ≤ k → k ≤ 6 → strB (sname k) ≠ bs) : kindOf bs = 0 := by
  unfold kindOf
  rw [if_neg (fun e => h 1 (by omega) (by omega) e.symm), if_neg (fun e => h 2 (by omega) (by omega) e.symm), if_neg (fun e => h 3 (by omega) (by omega) e.symm), if_neg (fun e => h 4 (by omega) (by omega) e.symm), if_neg (fun e => h 5 (by omega) (by omega) e.symm), if_neg (fun e => h 6 (by omega) (by omega) e.symm)]
theorem kindOf_bd (bs : List UInt8) : 0 ≤ kindOf bs ∧ kindOf bs ≤ 6 := by
  unfold kindOf
  repeat (split; omega)
  omega
theorem sname_len (k : Int) : (sname k).size ≤ 5 := by
  unfold sname
  repeat (split; decide)
  decide
theorem kindOf_name {bs : List UInt8} (h : kindOf bs ≠ 0) : strB (sname (kindOf bs)) = bs := by
  unfold kindOf at h ⊢
  repeat' split
  all_goals first | (rename_i e; exact e.symm) | (exfalso; revert h; simp_all)
def setB : List UInt8 := [115, 101, 116, 32]
def showB : List UInt8 := [115, 104, 111, 119, 32]
def endB : List UInt8 := [101, 110, 100]
def startB : List UInt8 := [115, 116, 97, 114, 116, 32]
/-- does a line begin so, with more behind? -/
def begins (p bs : List UInt8) : Bool := decide (p.length < bs.length) && decide (bs.take p.length = p)
/-- what a session has done -/
structure SS where
  start : Tri
  m : Tri
  str : List Int
  bel : List Int
  ended : Bool
def lineS (s : SS) (i : Int) (bs : List UInt8) : SS × Int :=
  if s.ended then (s, 5)
  else if kindOf bs ≠ 0 then (⟨s.start, (strokeT (kindOf bs) s.m).1, s.str ++ [kindOf bs], if (strokeT (kindOf bs) s.m).2 then s.bel ++ [i] else s.bel, false⟩, 0)
  else if bs = endB then ({ s with ended := true }, 0)
  else if begins setB bs then
    (if (rdDec (bs.drop 4)).isSome && decide (0 ≤ rdN (bs.drop 4) ∧ rdN (bs.drop 4) < pw s.m.a.base s.m.a.digits.length) then ({ s with m := setT s.m (rdN (bs.drop 4)) }, 0) else (s, 3))
  else if begins showB bs then (if bs.drop 5 = strB (mtextL s.m) then (s, 0) else (s, 4))
  else (s, 2)
def goS (s : SS) (i : Int) : List (List UInt8) → SS × Int × Int
  | [] => if s.ended then (s, -1, 0) else (s, i, 5)
  | b :: t => if (lineS s i b).2 ≠ 0 then ((lineS s i b).1, i, (lineS s i b).2) else goS (lineS s i b).1 (i + 1) t
def zSS : SS := ⟨zTri, zTri, [], [], false⟩
def runS : List (List UInt8) → SS × Int × Int
  | [] => (zSS, 0, 1)
  | b :: t => if begins startB b && (rdM (b.drop 6)).isSome then goS ⟨rdMach (b.drop 6), rdMach (b.drop 6), [], [], false⟩ 1 t else (zSS, 0, 1)
structure SS.Good (s : SS) (k : Nat) : Prop where
  start : vmach s.start = true
  m : vmach s.m = true
  str : s.str.length ≤ k
  bel : s.bel.length ≤ k
theorem SS.Good.mono {s : SS} {k k' : Nat} (h : s.Good k) (hk : k ≤ k') : s.Good k' := ⟨h.start, h.m, Nat.le_trans h.str hk, Nat.le_trans h.bel hk⟩
theorem lineS_good {s : SS} {k : Nat} {i : Int} {bs : List UInt8} (h : s.Good k) : (lineS s i bs).1.Good (k + 1) := by
  unfold lineS
  split
  · exact h.mono (by omega)
  split
  · refine ⟨h.start, strokeT_ok _ h.m, by simp only [List.length_append, List.length_cons, List.length_nil]; have := h.str; omega, ?_⟩
    show (if _ then _ else _ : List Int).length ≤ _
    have := h.bel
    split
    · simp only [List.length_append, List.length_cons, List.length_nil]; omega
    · omega
  split
  · exact ⟨h.start, h.m, by have := h.str; show s.str.length ≤ _; omega, by have := h.bel; show s.bel.length ≤ _; omega⟩
  split
  · split
    · rename_i hc
      rw [Bool.and_eq_true, decide_eq_true_eq] at hc
      exact ⟨h.start, setT_ok _ h.m hc.2.1 hc.2.2, by have := h.str; show s.str.length ≤ _; omega, by have := h.bel; show s.bel.length ≤ _; omega⟩
    · exact h.mono (by omega)
  split
  · split <;> exact h.mono (by omega)
  · exact h.mono (by omega)
theorem goS_good : ∀ {l : List (List UInt8)} {s : SS} {k : Nat} {i : Int}, s.Good k → (goS s i l).1.Good (k + l.length)
  | [], s, k, i, h => by
    unfold goS
    split <;> exact h
  | b :: t, s, k, i, h => by
    unfold goS
    have h1 := lineS_good (i := i) (bs := b) h
    split
    · exact h1.mono (by simp only [List.length_cons]; omega)
    · have := goS_good (l := t) (i := i + 1) h1
      rw [List.length_cons, show k + (t.length + 1) = k + 1 + t.length by omega]
      exact this
theorem rdm_good {bs : List UInt8} (h : (rdM bs).isSome = true) : vmach (rdMach bs) = true := by
  obtain ⟨t, ht⟩ := Option.isSome_iff_exists.1 h
  rw [(rdm_some ht).1]
  exact (rdM_sound ht).1
theorem runS_good {l : List (List UInt8)} (h : (runS l).2.2 = 0) : (runS l).1.Good l.length := by
  match l, h with
  | [], h => simp [runS] at h
  | b :: t, h =>
    rcases hc : (begins startB b && (rdM (b.drop 6)).isSome) with _ | _
    · simp [runS, hc] at h
    · have hc' := hc
      rw [Bool.and_eq_true] at hc'
      have hg := rdm_good hc'.2
      have := goS_good (l := t) (s := ⟨rdMach (b.drop 6), rdMach (b.drop 6), [], [], false⟩) (k := 0) (i := 1) ⟨hg, hg, Nat.le_refl _, Nat.le_refl _⟩
      simp only [runS, hc, if_true]
      exact this.mono (by simp)
/-- what a whole session gives: its end, and a code -/
def wholeC (l : List (List UInt8)) : Int := if l.length > 100 then 5 else if (runS l).2.2 = 0 then 0 else 8
theorem wholeC_ok {l : List (List UInt8)} (h : wholeC l = 0) : l.length ≤ 100 ∧ (runS l).2.2 = 0 := by
  unfold wholeC at h
  split at h
  · cases h
  · split at h
    · exact ⟨by omega, by assumption⟩
    · cases h
end Go.Proofs.YtlhcilmnfmglfaaDoor

namespace Go.Proofs.YtlhcilmnfmglfaaDoor
open Go.RowKit Go.Sort
theorem isStrokeV (k : Int) (w : World) (h : 1 ≤ k ∧ k ≤ 6) : Calls Tryd.prog 73 #[.int .i64 k] w fun e w' => e = .returned (.bool true) ∧ w = w' := by
  have KB := Lib.hid (fun W => calls_val (between_any k 1 6 W) (congrArg Value.bool (betB_iff.2 h)))
  go_enter Tryd.func73, Tryd.ntmps73
  go_wp2_with (go_at_call 105; refine (KB.out _).mono ?_; rintro e w' ⟨rfl, rfl⟩)
  go_ret
  exact ⟨rfl, rfl⟩
theorem l10KindV (k : Int) (w : World) (h : 1 ≤ k ∧ k ≤ 6) : Calls Tryd.prog 201 #[.int .i64 k] w fun e w' => e = .returned (.bool true) ∧ w = w' := by
  have KB := Lib.hid (fun W => calls_val (l00In_any k 1 6 W) (congrArg Value.bool (betB_iff.2 h)))
  go_enter Tryd.func201, Tryd.ntmps201
  go_wp2_with (go_at_call 68; refine (KB.out _).mono ?_; rintro e w' ⟨rfl, rfl⟩)
  go_ret
  exact ⟨rfl, rfl⟩
set_option maxHeartbeats 800000 in
theorem StrokeName_any (k : Int) (w : World) (h : 1 ≤ k ∧ k ≤ 6) : Calls Tryd.prog 187 #[.int .i64 k] w fun e w' => e = .returned (.string (sname k)) ∧ Below w.heap.size w w' := by
  have h' : k = 1 ∨ k = 2 ∨ k = 3 ∨ k = 4 ∨ k = 5 ∨ k = 6 := by omega
  clear h
  rcases h' with rfl | rfl | rfl | rfl | rfl | rfl
  all_goals
    go_enter Tryd.func187, Tryd.ntmps187
    go_wp2_with (go_at_call 73; refine (isStrokeV _ _ (by decide)).mono ?_; rintro e w' ⟨rfl, rfl⟩)
    go_ret
    exact ⟨rfl, by first | exact Below.refl _ _ | exact (Below.refl _ _).alloc (Nat.le_refl _) _⟩
set_option maxHeartbeats 800000 in
theorem specStrokeName_any (k : Int) (w : World) (h : 1 ≤ k ∧ k ≤ 6) : Calls Tryd.prog 183 #[.int .i64 k] w fun e w' => e = .returned (.string (sname k)) ∧ Below w.heap.size w w' := by
  have h' : k = 1 ∨ k = 2 ∨ k = 3 ∨ k = 4 ∨ k = 5 ∨ k = 6 := by omega
  clear h
  rcases h' with rfl | rfl | rfl | rfl | rfl | rfl
  all_goals
    go_enter Tryd.func183, Tryd.ntmps183
    go_wp2_with (go_at_call 201; refine (l10KindV _ _ (by decide)).mono ?_; rintro e w' ⟨rfl, rfl⟩)
    go_ret
    exact ⟨rfl, by first | exact Below.refl _ _ | exact (Below.refl _ _).alloc (Nat.le_refl _) _⟩
set_option maxHeartbeats 1600000 in
theorem strokeNamed_any (s : ByteArray) (w : World) :
    Calls Tryd.prog 170 #[.string s] w fun e w' => e = .returned (.tuple #[.int .i64 (kindOf (strB s)), .bool (decide (kindOf (strB s) ≠ 0))]) ∧ Below w.heap.size w w' := by
  go_enter Tryd.func170, Tryd.ntmps170
  go_wp2_with fail
  go_loopw [4] (fun kk wr => ∃ k : Nat, 1 ≤ k ∧ k ≤ 7 ∧ kk = .int .i64 k ∧ (∀ j : Int, 1 ≤ j → j < k → strB (sname j) ≠ strB s) ∧ Below w.heap.size w wr) (fun kk _ => 8 - (intOf kk).toNat)
  case atStart => exact ⟨1, by omega, by omega, rfl, fun j h1 h2 => by omega, Below.refl _ _⟩
  case round =>
    obtain ⟨k, k1, k7, rfl, hno, hb⟩ := hrel
    have HNO := Lib.hid hno
    clear hno
    by_cases hk : k ≤ 6
    · have hk2 : (k : Int) ≤ 6 := by omega
      have KN := Lib.hid (StrokeName_any k wr (by omega))
      obtain ⟨N, hN⟩ : ∃ N, sname k = N := ⟨_, rfl⟩
      rw [hN] at KN
      have HN := Lib.hid hN
      clear hN
      rcases hq : (N.toList == s.toList) with _ | _
      · have HQ : Hid (strB N ≠ strB s) := by simp only [Hid]; rw [strB_toList, strB_toList, beq_eq_false_iff_ne] at hq; exact hq
        go_wp2_with (go_at_call 187; refine KN.out.mono ?_; rintro e w' ⟨rfl, hw⟩)
        go_roundw
        case rel => exact ⟨k + 1, by omega, by omega, by go_num, fun j h1 h2 => by
            rcases Int.lt_or_le j k with h3 | h3
            · exact HNO.out j h1 h3
            · obtain rfl : j = k := by omega
              rw [HN.out]; exact HQ.out, hb.trans (hw.mono hb.size)⟩
        case measure => simp [intOf]; omega
      · have HQ : Hid (kindOf (strB s) = k) := by
          simp only [Hid]
          rw [strB_toList, strB_toList, beq_iff_eq] at hq
          rw [← hq, ← HN.out]
          exact kindOf_sname (by omega)
        have hk0 : Hid (decide (kindOf (strB s) ≠ 0) = true) := by simp only [Hid]; rw [HQ.out]; exact decide_eq_true (by omega)
        go_wp2_with (go_at_call 187; refine KN.out.mono ?_; rintro e w' ⟨rfl, hw⟩)
        go_ret2
        exact ⟨by rw [hk0.out, HQ.out]; rfl, hb.trans (hw.mono hb.size)⟩
    · have hk2 : ¬ (k : Int) ≤ 6 := by omega
      have HQ := Lib.hid (kindOf_none (bs := strB s) (fun j h1 h2 => HNO.out j h1 (by omega)))
      go_wp2_with fail
      go_ret2
      exact ⟨by rw [HQ.out]; rfl, hb⟩
set_option maxHeartbeats 1600000 in
theorem l24Kind_any (s : ByteArray) (w : World) :
    Calls Tryd.prog 167 #[.string s] w fun e w' => e = .returned (.int .i64 (kindOf (strB s))) ∧ Below w.heap.size w w' := by
  go_enter Tryd.func167, Tryd.ntmps167
  go_wp2_with fail
  go_loopw [3] (fun kk wr => ∃ k : Nat, 1 ≤ k ∧ k ≤ 7 ∧ kk = .int .i64 k ∧ (∀ j : Int, 1 ≤ j → j < k → strB (sname j) ≠ strB s) ∧ Below w.heap.size w wr) (fun kk _ => 8 - (intOf kk).toNat)
  case atStart => exact ⟨1, by omega, by omega, rfl, fun j h1 h2 => by omega, Below.refl _ _⟩
  case round =>
    obtain ⟨k, k1, k7, rfl, hno, hb⟩ := hrel
    have HNO := Lib.hid hno
    clear hno
    by_cases hk : k ≤ 6
    · have hk2 : (k : Int) ≤ 6 := by omega
      have KN := Lib.hid (specStrokeName_any k wr (by omega))
      obtain ⟨N, hN⟩ : ∃ N, sname k = N := ⟨_, rfl⟩
      rw [hN] at KN
      have HN := Lib.hid hN
      clear hN
      rcases hq : (N.toList == s.toList) with _ | _
      · have HQ : Hid (strB N ≠ strB s) := by simp only [Hid]; rw [strB_toList, strB_toList, beq_eq_false_iff_ne] at hq; exact hq
        go_wp2_with (go_at_call 183; refine KN.out.mono ?_; rintro e w' ⟨rfl, hw⟩)
        go_roundw
        case rel => exact ⟨k + 1, by omega, by omega, by go_num, fun j h1 h2 => by
            rcases Int.lt_or_le j k with h3 | h3
            · exact HNO.out j h1 h3
            · obtain rfl : j = k := by omega
              rw [HN.out]; exact HQ.out, hb.trans (hw.mono hb.size)⟩
        case measure => simp [intOf]; omega
      · have HQ : Hid (kindOf (strB s) = k) := by
          simp only [Hid]
          rw [strB_toList, strB_toList, beq_iff_eq] at hq
          rw [← hq, ← HN.out]
          exact kindOf_sname (by omega)
        go_wp2_with (go_at_call 183; refine KN.out.mono ?_; rintro e w' ⟨rfl, hw⟩)
        go_ret
        exact ⟨by rw [HQ.out]; rfl, hb.trans (hw.mono hb.size)⟩
    · have hk2 : ¬ (k : Int) ≤ 6 := by omega
      have HQ := Lib.hid (kindOf_none (bs := strB s) (fun j h1 h2 => HNO.out j h1 (by omega)))
      go_wp2_with fail
      go_ret
      exact ⟨by rw [HQ.out]; rfl, hb⟩
theorem begins_iff {p bs : List UInt8} : begins p bs = true ↔ p.length < bs.length ∧ bs.take p.length = p := by
  unfold begins; simp
/-- what stands behind a beginning -/
def restB (p s : ByteArray) : ByteArray := if begins (strB p) (strB s) then s.extract p.size s.size else ⟨#[]⟩
theorem restB_yes {p s : ByteArray} (h : begins (strB p) (strB s) = true) : restB p s = s.extract p.size s.size := if_pos h
theorem restB_no {p s : ByteArray} (h : begins (strB p) (strB s) = false) : restB p s = ⟨#[]⟩ := if_neg (by rw [h]; exact Bool.false_ne_true)
set_option maxHeartbeats 800000 in
theorem behind_any (s p : ByteArray) (w : World) (_hs : s.size ≤ 9223372036854775807) (hp : p.size ≤ 100) :
    Calls Tryd.prog 184 #[.string s, .string p] w fun e w' => e = .returned (.tuple #[.string (restB p s), .bool (begins (strB p) (strB s))]) ∧ w = w' := by
  have HB := Lib.hid (show begins (strB p) (strB s) = (decide (p.size < s.size) && decide ((strB s).take p.size = strB p)) by unfold begins; rw [strB_len, strB_len])
  by_cases hl : p.size < s.size
  · have hl1 : ¬ (s.size : Int) ≤ (p.size : Int) := by omega
    rcases hq : ((s.extract 0 p.size).toList == p.toList) with _ | _
    · have HF : Hid (begins (strB p) (strB s) = false) := by
        simp only [Hid]
        rw [HB.out]
        rw [strB_toList, strB_toList, strB_extract, beq_eq_false_iff_ne] at hq
        simp at hq
        simp [hq]
      have HQ := Lib.hid (restB_no HF.out)
      go_enter Tryd.func184, Tryd.ntmps184
      go_wp2_with fail
      go_ret2
      exact ⟨by rw [HQ.out, HF.out]; rfl, rfl⟩
    · have HF : Hid (begins (strB p) (strB s) = true) := by
        simp only [Hid]
        rw [HB.out]
        rw [strB_toList, strB_toList, strB_extract, beq_iff_eq] at hq
        simp at hq
        simp [hq, hl]
      have HQ := Lib.hid (restB_yes HF.out)
      go_enter Tryd.func184, Tryd.ntmps184
      go_wp2_with fail
      go_ret2
      exact ⟨by rw [HQ.out, HF.out]; rfl, rfl⟩
  · have hl1 : (s.size : Int) ≤ (p.size : Int) := by omega
    have HF : Hid (begins (strB p) (strB s) = false) := by
      simp only [Hid]
      rw [HB.out, decide_eq_false hl]; rfl
    have HQ := Lib.hid (restB_no HF.out)
    go_enter Tryd.func184, Tryd.ntmps184
    go_wp2_with fail
    go_ret2
    exact ⟨by rw [HQ.out, HF.out]; rfl, rfl⟩
end Go.Proofs.YtlhcilmnfmglfaaDoor

namespace Go.Proofs.YtlhcilmnfmglfaaDoor
open Go.RowKit Go.Sort
/-! notes and their sums -/
def noteB (b : UInt8) : Bool := decide (32 ≤ b.toNat) && decide (b.toNat ≤ 126)
def noteOk (bs : List UInt8) : Bool := bs.all noteB && decide (bs.length ≤ 60)
def nfold (y : Int) (bs : List UInt8) : Int := bs.foldl (fun s b => (31 * s + (b.toNat : Int)).tmod 65521) y
def nsum (before number : Int) (bs : List UInt8) : Int := if betB before 0 65520 && betB number 0 1000000 then nfold ((before + 7 * number).tmod 65521) bs else 0
theorem nmod_bd {a : Int} (h : 0 ≤ a) : 0 ≤ a.tmod 65521 ∧ a.tmod 65521 ≤ 65520 := by
  rw [Int.tmod_eq_emod_of_nonneg h]; omega
theorem nfold_bd {y : Int} (h0 : 0 ≤ y) (h1 : y ≤ 65520) (bs : List UInt8) : 0 ≤ nfold y bs ∧ nfold y bs ≤ 65520 := by
  unfold nfold
  induction bs generalizing y with
  | nil => exact ⟨h0, h1⟩
  | cons b bs ih =>
    rw [List.foldl_cons]
    have := nmod_bd (a := 31 * y + (b.toNat : Int)) (by omega)
    exact ih this.1 this.2
theorem nsum_bd (before number : Int) (bs : List UInt8) : 0 ≤ nsum before number bs ∧ nsum before number bs ≤ 65520 := by
  unfold nsum
  split
  · rename_i h
    rw [Bool.and_eq_true] at h
    have b1 := betB_iff.1 h.1
    have b2 := betB_iff.1 h.2
    have := nmod_bd (a := before + 7 * number) (by omega)
    exact nfold_bd this.1 this.2 bs
  · omega
end Go.Proofs.YtlhcilmnfmglfaaDoor

namespace Go.Proofs.YtlhcilmnfmglfaaDoor
open Go.RowKit Go.Sort
/-! journals, plainly -/
/-- a line of a journal -/
def jline (sum : Int) (n : Nat) (note : List UInt8) : List UInt8 := dec ((n : Int) + 1) ++ [32] ++ dec (nsum sum ((n : Int) + 1) note) ++ [32] ++ note ++ [10]
def jlineB (sum : Int) (n : Nat) (note : ByteArray) : ByteArray := (((((⟨(dec ((n : Int) + 1)).toArray⟩ : ByteArray) ++ (⟨#[32]⟩ : ByteArray)) ++ (⟨(dec (nsum sum ((n : Int) + 1) (strB note))).toArray⟩ : ByteArray)) ++ (⟨#[32]⟩ : ByteArray)) ++ note) ++ (⟨#[10]⟩ : ByteArray)
theorem strB_jlineB (sum : Int) (n : Nat) (note : ByteArray) : strB (jlineB sum n note) = jline sum n (strB note) := by
  simp [jlineB, jline, strB]
theorem jlineB_size (sum : Int) (n : Nat) (note : ByteArray) : (jlineB sum n note).size = (jline sum n (strB note)).length := by
  rw [← strB_jlineB, strB_len]
theorem jline_len (sum : Int) (n : Nat) (hn : n ≤ 1000000) (note : List UInt8) : note.length + 3 ≤ (jline sum n note).length ∧ (jline sum n note).length ≤ note.length + 45 := by
  have h1 := dec_len ((n : Int) + 1) (by omega) (by omega)
  have h2 := nsum_bd sum ((n : Int) + 1) note
  have h3 := dec_len (nsum sum ((n : Int) + 1) note) (by omega) (by omega)
  simp only [jline, List.length_append, List.length_cons, List.length_nil]
  omega
/-- the note of the next line of what is left of a journal -/
def jstep (sum : Int) (n : Nat) (rest : List UInt8) : Option (List UInt8) :=
  (cutB [10] rest).bind fun q => (cutB [32] q.1).bind fun r => (cutB [32] r.2).bind fun t => if noteOk t.2 && (jline sum n t.2 == q.1 ++ [10]) then some t.2 else none
theorem cutB_len (p : List UInt8) : ∀ (l : List UInt8) (q), cutB p l = some q → q.1.length + p.length + q.2.length = l.length
  | [], q, h => by simp [cutB] at h
  | b :: tl, q, h => by
    simp only [cutB] at h
    split at h
    · rename_i hp
      obtain rfl := (Option.some.inj h).symm
      have := (List.isPrefixOf_iff_prefix.1 hp).length_le
      simp at this ⊢; omega
    · cases h1 : cutB p tl with
      | none => rw [h1] at h; simp at h
      | some r =>
        rw [h1] at h
        obtain rfl := (Option.some.inj h).symm
        have := cutB_len p tl r h1
        simp; omega
theorem jstep_some {sum : Int} {n : Nat} {rest note : List UInt8} (h : jstep sum n rest = some note) : noteOk note = true ∧ 3 + note.length ≤ (jline sum n note).length ∧ (jline sum n note).length ≤ rest.length := by
  unfold jstep at h
  cases h1 : cutB [10] rest with
  | none => rw [h1] at h; simp at h
  | some q =>
    rw [h1, Option.bind_some] at h
    cases h2 : cutB [32] q.1 with
    | none => rw [h2] at h; simp at h
    | some r =>
      rw [h2, Option.bind_some] at h
      cases h3 : cutB [32] r.2 with
      | none => rw [h3] at h; simp at h
      | some t =>
        rw [h3, Option.bind_some] at h
        split at h
        · rename_i h4
          obtain rfl := Option.some.inj h
          rw [Bool.and_eq_true, beq_iff_eq] at h4
          have l1 := cutB_len _ _ _ h1
          have l5 := congrArg List.length h4.2
          refine ⟨h4.1, ?_, ?_⟩
          · simp only [jline, List.length_append, List.length_cons, List.length_nil]; omega
          · rw [l5]; simp at l1 ⊢; omega
        · simp at h
/-- what is read of a journal: the notes, the last sum, the bytes -/
structure JS where
  notes : List (List UInt8)
  sum : Int
  size : Nat
def jread (rest : List UInt8) (j : JS) : JS :=
  match _h : jstep j.sum j.notes.length rest with
  | none => j
  | some note => jread (rest.drop (jline j.sum j.notes.length note).length) ⟨j.notes ++ [note], nsum j.sum ((j.notes.length : Int) + 1) note, j.size + (jline j.sum j.notes.length note).length⟩
termination_by rest.length
decreasing_by
  have := jstep_some _h
  rw [List.length_drop]; omega
theorem jread_none {rest : List UInt8} {j : JS} (h : jstep j.sum j.notes.length rest = none) : jread rest j = j := by
  rw [jread]; split
  · rfl
  · rename_i h1; rw [h] at h1; cases h1
theorem jread_some {rest : List UInt8} {j : JS} {note : List UInt8} (h : jstep j.sum j.notes.length rest = some note) :
    jread rest j = jread (rest.drop (jline j.sum j.notes.length note).length) ⟨j.notes ++ [note], nsum j.sum ((j.notes.length : Int) + 1) note, j.size + (jline j.sum j.notes.length note).length⟩ := by
  rw [jread]; split
  · rename_i h1; rw [h] at h1; cases h1
  · rename_i n1 h1; rw [h] at h1; obtain rfl := Option.some.inj h1; rfl
/-- the whole reading -/
def jall (bs : List UInt8) : JS := jread bs ⟨[], 0, 0⟩
/-- the code of a text that must be a journal -/
def jcode (bs : List UInt8) : Int := if bs.length > 4000 then 5 else if (jall bs).size = bs.length then 0 else 8
/-- behind the first blanks: how many, and what is left -/
def aft : Nat → List UInt8 → Nat × List UInt8
  | b, [] => (b, [])
  | b, x :: tl => if 2 ≤ b then (b, x :: tl) else aft (if x.toNat = 32 then b + 1 else b) tl
theorem aft_two (l : List UInt8) : aft 2 l = (2, l) := by cases l <;> simp [aft]
theorem aft_step (b : Nat) (hb : b < 2) (l : List UInt8) : aft b l = match cutB [32] l with | none => (b, []) | some q => aft (b + 1) q.2 := by
  induction l with
  | nil => rfl
  | cons x tl ih =>
    rw [aft, if_neg (by omega)]
    simp only [cutB]
    by_cases hx : x.toNat = 32
    · rw [if_pos hx]
      have h1 : ([32] : List UInt8).isPrefixOf (x :: tl) = true := by
        have : x = 32 := UInt8.toNat_inj.1 hx
        subst this; simp [List.isPrefixOf]
      rw [h1]; rfl
    · rw [if_neg hx, ih]
      have h1 : ([32] : List UInt8).isPrefixOf (x :: tl) = false := by
        have : ¬ (32 : UInt8) = x := fun h => hx (by rw [← h]; rfl)
        simp [List.isPrefixOf, this]
      rw [h1]
      cases cutB [32] tl <;> rfl
theorem aft_cut (l : List UInt8) : aft 0 l = match cutB [32] l with | none => (0, []) | some q => match cutB [32] q.2 with | none => (1, []) | some t => (2, t.2) := by
  rw [aft_step 0 (by omega)]
  cases cutB [32] l with
  | none => rfl
  | some q =>
    show aft 1 q.2 = _
    rw [aft_step 1 (by omega)]
    dsimp only
    cases cutB [32] q.2 with
    | none => simp
    | some t => simp [aft_two]
/-! the next line, both -/
end Go.Proofs.YtlhcilmnfmglfaaDoor

namespace Go.Proofs.YtlhcilmnfmglfaaDoor
open Go.RowKit Go.Sort
theorem cutB_skip {k : Nat} {l : List UInt8} {q : UInt8} (hk : k < l.length) (hq : l[k] = q) (hne : q.toNat ≠ 10) : cutB [10] (l.drop k) = (cutB [10] (l.drop (k + 1))).map fun r => (q :: r.1, r.2) := by
  rw [List.drop_eq_getElem_cons hk, hq]
  simp only [cutB]
  have h1 : ([10] : List UInt8).isPrefixOf (q :: l.drop (k + 1)) = false := by
    have : ¬ (10 : UInt8) = q := fun h => hne (by rw [← h]; rfl)
    simp [List.isPrefixOf, this]
  rw [h1]; rfl
theorem cutB_hit {k : Nat} {l : List UInt8} {q : UInt8} (hk : k < l.length) (hq : l[k] = q) (hne : q.toNat = 10) : cutB [10] (l.drop k) = some ([], l.drop (k + 1)) := by
  rw [List.drop_eq_getElem_cons hk, hq]
  simp only [cutB]
  have h1 : ([10] : List UInt8).isPrefixOf (q :: l.drop (k + 1)) = true := by
    have : q = 10 := UInt8.toNat_inj.1 hne
    subst this; simp [List.isPrefixOf]
  rw [h1]; rfl
/-- the next line of what is left, by the blanks -/
theorem jstep_aft {sum : Int} {n : Nat} {rest : List UInt8} {q : List UInt8 × List UInt8} {b : Nat} {note : List UInt8} (h1 : cutB [10] rest = some q) (h2 : aft 0 q.1 = (b, note)) :
    jstep sum n rest = if !(decide (b < 2)) && (noteOk note && (jline sum n note == q.1 ++ [10])) then some note else none := by
  unfold jstep
  rw [h1, Option.bind_some]
  rw [aft_cut] at h2
  cases h3 : cutB [32] q.1 with
  | none => rw [h3] at h2; obtain ⟨rfl, rfl⟩ := Prod.mk.inj h2; simp
  | some r =>
    rw [h3] at h2
    rw [Option.bind_some]
    dsimp only at h2
    cases h4 : cutB [32] r.2 with
    | none => rw [h4] at h2; obtain ⟨rfl, rfl⟩ := Prod.mk.inj h2; simp
    | some t => rw [h4] at h2; obtain ⟨rfl, rfl⟩ := Prod.mk.inj h2; simp
theorem cutB_ten {l : List UInt8} {q : List UInt8 × List UInt8} (h : cutB [10] l = some q) : l.take q.1.length = q.1 ∧ q.1.length < l.length := by
  obtain ⟨h1, -⟩ := cutB_mem 10 l q.1 q.2 h
  have h2 := congrArg List.length h1
  simp at h2
  refine ⟨?_, by omega⟩
  conv => lhs; rw [h1]
  exact List.take_left
theorem cutB_take {l : List UInt8} {q : List UInt8 × List UInt8} (h : cutB [10] l = some q) : l.take (q.1.length + 1) = q.1 ++ [10] := by
  obtain ⟨h1, -⟩ := cutB_mem 10 l q.1 q.2 h
  conv => lhs; rw [h1]
  rw [show q.1 ++ (10 : UInt8) :: q.2 = (q.1 ++ [10]) ++ q.2 by simp, List.take_left' (by simp)]
end Go.Proofs.YtlhcilmnfmglfaaDoor

namespace Go.Proofs.YtlhcilmnfmglfaaDoor
open Go.RowKit Go.Sort
theorem kn_stepS {ops : Array Oper} {o : Oper} {a : Act} {Q : Exit → Act → World → Prop} {w0 w : World} {m : List Ent} {K : Act → World → Prop} {E : Prop} (hgd : o.guard = none) (s x : Operand) (ho : o.op = .call { callee := .builtin .append, args := #[s, x], argTypes := #[94, 94] })
    (v : Value) (ss : List ByteArray) (hs : a.eval s = v) {g c : Nat} {T' : TypeId} {z : ByteArray} (hx : a.eval x = .slice (some ⟨g, 0, none⟩) 1 c)
    (hK : Kn w0 (.blk g [.string z] T' :: rowS v ss :: m) w) (hl : ss.length ≤ 10000000)
    (h : ∀ v' w', Kn w0 (rowS v' (ss ++ [z]) :: m) w' → K (a.put o.dst v') w') : if Region.wanted o (yielded ops a.tmps) = true then Oper.wp Tryd.prog o a w K Q else E := by
  refine kn_step_app tpS hgd s x ho v ss.length (ss.map Value.string) hs hx hK rfl (by simp [Value.oneCell']) (by omega) (by omega) (fun v' w' hK' => h v' w' ?_)
  unfold rowS
  rw [List.length_append, List.map_append, List.map_cons, List.map_nil]
  exact hK'
theorem cutY_len (p l : List UInt8) : (cutY p l).length ≤ l.length := by
  unfold cutY
  cases h : cutB p l with
  | none => exact Nat.zero_le _
  | some q => have := cutB_len p l q h; simp; omega
theorem jstep_eq {sum : Int} {n : Nat} {rest : List UInt8} {q : List UInt8 × List UInt8} {x y2 y3 : ByteArray} (h1 : cutB [10] rest = some q) (hx : strB x = q.1) (hy2 : strB y2 = cutY [32] (strB x)) (hy3 : strB y3 = cutY [32] (strB y2)) :
    jstep sum n rest = if (cutB [32] (strB x)).isSome && ((cutB [32] (strB y2)).isSome && (noteOk (strB y3) && ((jlineB sum n y3).toList == (x ++ (⟨#[10]⟩ : ByteArray)).toList))) then some (strB y3) else none := by
  have hl : ((jlineB sum n y3).toList == (x ++ (⟨#[10]⟩ : ByteArray)).toList) = (jline sum n (strB y3) == strB x ++ [10]) := by
    rw [strB_toList, strB_toList, strB_jlineB]
    rfl
  rw [hl]
  unfold jstep
  rw [h1, Option.bind_some, ← hx]
  cases h2 : cutB [32] (strB x) with
  | none => rfl
  | some r =>
    rw [cutY, h2] at hy2
    simp only [Option.map_some, Option.getD_some] at hy2
    rw [Option.bind_some, ← hy2]
    cases h3 : cutB [32] (strB y2) with
    | none => simp
    | some t =>
      rw [cutY, h3] at hy3
      simp only [Option.map_some, Option.getD_some] at hy3
      rw [Option.bind_some, hy3]
      simp
end Go.Proofs.YtlhcilmnfmglfaaDoor

namespace Go.Proofs.YtlhcilmnfmglfaaDoor
open Go.RowKit Go.Sort
theorem jread_size (rest : List UInt8) (j : JS) : (jread rest j).size ≤ j.size + rest.length := by
  induction h : rest.length using Nat.strongRecOn generalizing rest j with
  | _ n ih =>
    subst h
    cases h1 : jstep j.sum j.notes.length rest with
    | none => rw [jread_none h1]; omega
    | some note =>
      have h2 := jstep_some h1
      rw [jread_some h1]
      have h3 := ih _ (by rw [List.length_drop]; omega) (rest.drop (jline j.sum j.notes.length note).length) ⟨j.notes ++ [note], nsum j.sum ((j.notes.length : Int) + 1) note, j.size + (jline j.sum j.notes.length note).length⟩ rfl
      rw [List.length_drop] at h3
      simp only at h3
      omega
theorem jall_size (bs : List UInt8) : (jall bs).size ≤ bs.length := by
  have := jread_size bs ⟨[], 0, 0⟩
  simpa [jall] using this
end Go.Proofs.YtlhcilmnfmglfaaDoor

namespace Go.Proofs.YtlhcilmnfmglfaaDoor
open Go.RowKit Go.Sort
theorem jread_notes (rest : List UInt8) (j : JS) (h0 : j.notes.length ≤ j.size) : (jread rest j).notes.length ≤ (jread rest j).size := by
  induction h : rest.length using Nat.strongRecOn generalizing rest j with
  | _ n ih =>
    subst h
    cases h1 : jstep j.sum j.notes.length rest with
    | none => rw [jread_none h1]; exact h0
    | some note =>
      have h2 := jstep_some h1
      rw [jread_some h1]
      refine ih _ (by rw [List.length_drop]; omega) _ _ ?_ rfl
      simp only [List.length_append, List.length_cons, List.length_nil]
      omega
theorem jcode_zero {bs : List UInt8} (h : jcode bs = 0) : bs.length ≤ 4000 ∧ (jall bs).size = bs.length ∧ (jall bs).notes.length ≤ 4000 := by
  unfold jcode at h
  split at h
  · cases h
  · split at h
    · rename_i h1 h2
      have := jread_notes bs ⟨[], 0, 0⟩ (Nat.le_refl _)
      refine ⟨by omega, h2, ?_⟩
      show (jread bs ⟨[], 0, 0⟩).notes.length ≤ 4000
      have h3 : (jread bs ⟨[], 0, 0⟩).size = bs.length := h2
      omega
    · cases h
/-- what the appending of a note gives -/
def anC (S N : List UInt8) : Int := if jcode S ≠ 0 then jcode S else if noteOk N = false then 7 else if S.length + (jline (jall S).sum (jall S).notes.length N).length > 4000 then 5 else 0
def anT (s note : ByteArray) : ByteArray := if anC (strB s) (strB note) = 0 then s ++ jlineB (jall (strB s)).sum (jall (strB s)).notes.length note else ⟨#[]⟩
theorem an_bad {s note : ByteArray} (h : jcode (strB s) ≠ 0) : anC (strB s) (strB note) = jcode (strB s) ∧ anT s note = ⟨#[]⟩ := by
  have h1 : anC (strB s) (strB note) = jcode (strB s) := by unfold anC; rw [if_pos h]
  exact ⟨h1, by unfold anT; rw [h1, if_neg h]⟩
theorem an_note {s note : ByteArray} (h : jcode (strB s) = 0) (h2 : noteOk (strB note) = false) : anC (strB s) (strB note) = 7 ∧ anT s note = ⟨#[]⟩ := by
  have h1 : anC (strB s) (strB note) = 7 := by unfold anC; rw [if_neg (fun h' => h' h), if_pos h2]
  exact ⟨h1, by unfold anT; rw [h1, if_neg (by decide)]⟩
theorem an_full {s note : ByteArray} (h : jcode (strB s) = 0) (h2 : noteOk (strB note) = true) (h3 : s.size + (jlineB (jall (strB s)).sum (jall (strB s)).notes.length note).size > 4000) : anC (strB s) (strB note) = 5 ∧ anT s note = ⟨#[]⟩ := by
  have h1 : anC (strB s) (strB note) = 5 := by
    unfold anC; rw [if_neg (fun h' => h' h), if_neg (by rw [h2]; decide), if_pos (by rw [strB_len, ← jlineB_size]; exact h3)]
  exact ⟨h1, by unfold anT; rw [h1, if_neg (by decide)]⟩
theorem an_fine {s note : ByteArray} (h : jcode (strB s) = 0) (h2 : noteOk (strB note) = true) (h3 : ¬ s.size + (jlineB (jall (strB s)).sum (jall (strB s)).notes.length note).size > 4000) : anC (strB s) (strB note) = 0 ∧ anT s note = s ++ jlineB (jall (strB s)).sum (jall (strB s)).notes.length note := by
  have h1 : anC (strB s) (strB note) = 0 := by
    unfold anC; rw [if_neg (fun h' => h' h), if_neg (by rw [h2]; decide), if_neg (by rw [strB_len, ← jlineB_size]; exact h3)]
  exact ⟨h1, by unfold anT; rw [h1, if_pos rfl]⟩
end Go.Proofs.YtlhcilmnfmglfaaDoor

namespace Go.Proofs.YtlhcilmnfmglfaaDoor
open Go.RowKit Go.Sort
end Go.Proofs.YtlhcilmnfmglfaaDoor

namespace Go.Proofs.YtlhcilmnfmglfaaDoor
open Go.RowKit Go.Sort
/-- does a number fit a machine's setting? -/
def fits (t : Tri) (v : Int) : Bool := decide (0 ≤ v ∧ v < pw t.a.base t.a.digits.length)
/-- what SetValue returns for a valid machine and any number -/
def SetG (t : Tri) (v : Int) (w : World) (e : Ending) (w' : World) : Prop :=
  (fits t v = true ∧ ∃ A1 c1 A2 c2 A3 c3, e = .returned (.tuple #[.agg #[.int .i64 t.a.base, .slice A1 (setT t v).a.digits.length c1, .int .i64 t.b.base, .slice A2 t.b.digits.length c2, .int .i64 t.s.base, .slice A3 t.s.digits.length c3, .int .i64 t.carry], .int .i64 0]) ∧
    Kn w [rowI A3 c3 t.s.digits, rowI A2 c2 t.b.digits, rowI A1 c1 (setT t v).a.digits] w') ∨
  (fits t v = false ∧ e = .returned (.tuple #[.agg #[.int .i64 0, .slice none 0 0, .int .i64 0, .slice none 0 0, .int .i64 0, .slice none 0 0, .int .i64 0], .int .i64 2]) ∧ Below w.heap.size w w')
set_option maxRecDepth 100000 in
set_option maxHeartbeats 3200000 in
theorem specSetValueG (t : Tri) (A1 A2 A3 : Option Addr) (c1 c2 c3 : Nat) (v : Int) (w : World) (r1 : RI w A1 t.a.digits.length t.a.digits) (r2 : RI w A2 t.b.digits.length t.b.digits) (r3 : RI w A3 t.s.digits.length t.s.digits) (hv : vmach t = true) :
    Calls Tryd.prog 13 #[.agg #[.int .i64 t.a.base, .slice A1 t.a.digits.length c1, .int .i64 t.b.base, .slice A2 t.b.digits.length c2, .int .i64 t.s.base, .slice A3 t.s.digits.length c3, .int .i64 t.carry], .int .i64 v] w (SetG t v w) := by
  obtain ⟨k1, k2, k3, e1, e2, f1, f2, l1, p0, p1⟩ := vmach_all hv
  obtain ⟨⟨b1, b2⟩, ⟨n1, n2⟩, hd1, -⟩ := vreg_iff.1 k1
  obtain ⟨⟨b3, b4⟩, ⟨n3, n4⟩, hd2, -⟩ := vreg_iff.1 k2
  obtain ⟨⟨b5, b6⟩, ⟨n5, n6⟩, hd3, -⟩ := vreg_iff.1 k3
  have hmo := pw_mono t.a.base (by omega) _ _ l1
  rw [← e1] at f1
  by_cases hin : 0 ≤ v ∧ v ≤ 1000000000000
  · refine (SetValueV_any t A1 A2 A3 c1 c2 c3 v w r1 r2 r3 hv hin.1 hin.2).mono ?_
    rintro e w' (⟨h1, h2⟩ | ⟨h1, h2, h3⟩)
    · exact .inl ⟨decide_eq_true ⟨hin.1, h1⟩, h2⟩
    · exact .inr ⟨decide_eq_false (fun h => h1 h.2), h2, h3⟩
  · have hT : ∀ W, Kn w [.blk (w.heap.size + 1) [.int .i64 0, .slice none 0 0, .int .i64 0, .slice none 0 0, .int .i64 0, .slice none 0 0, .int .i64 0] 35, .blk w.heap.size [.int .i64 t.a.base, .slice A1 t.a.digits.length c1, .int .i64 t.b.base, .slice A2 t.b.digits.length c2, .int .i64 t.s.base, .slice A3 t.s.digits.length c3, .int .i64 t.carry] 35] W → TriC W ⟨w.heap.size, 0, none⟩ t A1 c1 A2 c2 A3 c3 := fun W h =>
      ⟨⟨h.drop.blkAt.1 0, h.drop.blkAt.1 1, h.drop.blkAt.1 2, h.drop.blkAt.1 3, h.drop.blkAt.1 4, h.drop.blkAt.1 5, h.drop.blkAt.1 6⟩, r1.below h.below, r2.below h.below, r3.below h.below⟩
    have KO := Lib.hid (fun W h => calls_val (l10Ok_any ⟨w.heap.size, 0, none⟩ t W (hT W h).tri ⟨by unfold SmallReg; omega, by unfold SmallReg; omega, by unfold SmallReg; omega⟩) (congrArg Value.bool hv))
    have KN := (fun W => l10Power_any t.a.base t.a.digits.length W b1 b2 (by omega))
    have hpc : powS t.a.base t.a.digits.length = pw t.a.base t.a.digits.length := by unfold powS; omega
    rw [hpc] at KN
    have hp1 := pw_pos t.a.base b1 t.a.digits.length
    have HF := Lib.hid (show fits t v = false from decide_eq_false (fun h => hin ⟨h.1, by omega⟩))
    obtain ⟨N, hN⟩ : ∃ N, pw t.a.base t.a.digits.length = N := ⟨_, rfl⟩
    rw [hN] at KN hp1 hmo
    have KN := Lib.hid KN
    have hwn : IntKind.i64.wrap (N - 1) = N - 1 := wrapI64 (by omega)
    have hbt : betB v 0 (N - 1) = false := betB_false.2 (by omega)
    have KI := Lib.hid (fun W => calls_val (l00In_any v 0 (N - 1) W) (congrArg Value.bool hbt))
    clear hN hpc hT r1 r2 r3 k1 k2 k3 hd1 hd2 hd3 e1 e2 hv hbt hin p0 p1
    go_enter Tryd.func13, Tryd.ntmps13
    go_wp2_with fail
    refine Calls.kn (((Kn.nil w).al [.int .i64 t.a.base, .slice A1 t.a.digits.length c1, .int .i64 t.b.base, .slice A2 t.b.digits.length c2, .int .i64 t.s.base, .slice A3 t.s.digits.length c3, .int .i64 t.carry] 35).al [.int .i64 0, .slice none 0 0, .int .i64 0, .slice none 0 0, .int .i64 0, .slice none 0 0, .int .i64 0] 35) ?_; intro w1 hK1
    simp only [World.size_alloc] at hK1
    refine (KO.out _ hK1).mono ?_; rintro e w2 ⟨rfl, q, rfl⟩
    have hK2 := hK1.drewN q
    generalize w1.drewN q = w2 at hK2 ⊢
    clear hK1
    obtain ⟨a1, a2, a3, d1, d2, d3, -⟩ := hK2.cells
    go_wp2_with (first | (go_at_call 69; refine (KN.out _).mono ?_; rintro e w' ⟨rfl, rfl⟩) | (go_at_call 68; refine (KI.out _).mono ?_; rintro e w' ⟨rfl, rfl⟩))
    refine bodyPost.kn (((((((hK2.st 0 (.int .i64 0)).st 1 (.slice none 0 0)).st 2 (.int .i64 0)).st 3 (.slice none 0 0)).st 4 (.int .i64 0)).st 5 (.slice none 0 0)).st 6 (.int .i64 0)) ?_; intro w6 hK6
    clear a1 a2 a3 d1 d2 d3
    obtain ⟨a1, a2, a3, -⟩ := hK6.cells
    exact bodyPost_ret (v := .tuple #[.agg #[.int .i64 0, .slice none 0 0, .int .i64 0, .slice none 0 0, .int .i64 0, .slice none 0 0, .int .i64 0], .int .i64 2]) (by simp [results, Tryd.results13, go_sem, a1]) rfl (.inr ⟨HF.out, rfl, hK6.below⟩)
set_option maxRecDepth 100000 in
set_option maxHeartbeats 3200000 in
theorem SetValueG (t : Tri) (A1 A2 A3 : Option Addr) (c1 c2 c3 : Nat) (v : Int) (w : World) (r1 : RI w A1 t.a.digits.length t.a.digits) (r2 : RI w A2 t.b.digits.length t.b.digits) (r3 : RI w A3 t.s.digits.length t.s.digits) (hv : vmach t = true) (hv1 : v ≤ 9223372036854775807) :
    Calls Tryd.prog 206 #[.agg #[.int .i64 t.a.base, .slice A1 t.a.digits.length c1, .int .i64 t.b.base, .slice A2 t.b.digits.length c2, .int .i64 t.s.base, .slice A3 t.s.digits.length c3, .int .i64 t.carry], .int .i64 v] w (SetG t v w) := by
  obtain ⟨k1, k2, k3, e1, e2, f1, f2, l1, p0, p1⟩ := vmach_all hv
  obtain ⟨⟨b1, b2⟩, ⟨n1, n2⟩, hd1, -⟩ := vreg_iff.1 k1
  obtain ⟨⟨b3, b4⟩, ⟨n3, n4⟩, hd2, -⟩ := vreg_iff.1 k2
  obtain ⟨⟨b5, b6⟩, ⟨n5, n6⟩, hd3, -⟩ := vreg_iff.1 k3
  have hz : Sized t := ⟨n1, n3, n5, n2, n4, n6⟩
  have KO := Lib.hid (fun W (hW : Below w.heap.size w W) => calls_val (ValidMachine_any t A1 A2 A3 c1 c2 c3 W (r1.below hW) (r2.below hW) (r3.below hW) ⟨by unfold SmallReg; omega, by unfold SmallReg; omega, by unfold SmallReg; omega⟩) (congrArg Value.bool hv))
  have hK0 := ((Kn.nil w).al [.int .i64 t.a.base, .slice A1 t.a.digits.length c1, .int .i64 t.b.base, .slice A2 t.b.digits.length c2, .int .i64 t.s.base, .slice A3 t.s.digits.length c3, .int .i64 t.carry] 35).al [.int .i64 0, .slice none 0 0, .int .i64 0, .slice none 0 0, .int .i64 0, .slice none 0 0, .int .i64 0] 35
  simp only [World.size_alloc] at hK0
  by_cases h0 : v < 0
  · have HF := Lib.hid (show fits t v = false from decide_eq_false (fun h => by omega))
    clear k1 k2 k3 hd1 hd2 hd3 e1 e2 hv hz r1 r2 r3
    go_enter Tryd.func206, Tryd.ntmps206
    go_wp2_with fail
    refine Calls.kn hK0 ?_; intro w1 hK1
    refine (KO.out _ hK1.below).mono ?_; rintro e w2 ⟨rfl, hw⟩
    have hK2 := hK1.keep hw
    clear hK1 hw hK0
    obtain ⟨a1, a2, a3, d1, d2, d3, -⟩ := hK2.cells
    go_wp2_with fail
    refine bodyPost.kn (((((((hK2.st 0 (.int .i64 0)).st 1 (.slice none 0 0)).st 2 (.int .i64 0)).st 3 (.slice none 0 0)).st 4 (.int .i64 0)).st 5 (.slice none 0 0)).st 6 (.int .i64 0)) ?_; intro w6 hK6
    clear a1 a2 a3 d1 d2 d3
    obtain ⟨a1, a2, a3, -⟩ := hK6.cells
    exact bodyPost_ret (v := .tuple #[.agg #[.int .i64 0, .slice none 0 0, .int .i64 0, .slice none 0 0, .int .i64 0, .slice none 0 0, .int .i64 0], .int .i64 2]) (by simp [results, Tryd.results206, go_sem, a1]) rfl (.inr ⟨HF.out, rfl, hK6.below⟩)
  · have hrz := restD_zero t.a.base b1 t.a.digits.length v (by omega)
    have HF := Lib.hid (show fits t v = decide (v < pw t.a.base t.a.digits.length) by
      unfold fits
      by_cases h : v < pw t.a.base t.a.digits.length
      · rw [decide_eq_true h, decide_eq_true ⟨by omega, h⟩]
      · rw [decide_eq_false h, decide_eq_false (fun h' => h h'.2)])
    have KW := (fun W (hW : Below w.heap.size w W) => withSetting_any t A1 A2 A3 c1 c2 c3 v W (r1.below hW) (r2.below hW) (r3.below hW) hz b1 b2 (by omega) hv1)
    rw [hrz] at KW
    have HST := Lib.hid (show (setT t v).a.digits = digD t.a.base t.a.digits.length v from rfl)
    obtain ⟨ds, hds⟩ : ∃ ds, digD t.a.base t.a.digits.length v = ds := ⟨_, rfl⟩
    rw [hds] at KW HST
    have hK := KW
    clear hds hK
    rcases hlt : decide (v < pw t.a.base t.a.digits.length) with _ | _
    · rw [hlt] at KW HF
      have KW := Lib.hid KW
      clear hlt hrz k1 k2 k3 hd1 hd2 hd3 e1 e2 hv hz r1 r2 r3
      go_enter Tryd.func206, Tryd.ntmps206
      go_wp2_with fail
      refine Calls.kn hK0 ?_; intro w1 hK1
      refine (KO.out _ hK1.below).mono ?_; rintro e w2 ⟨rfl, hw⟩
      have hK2 := hK1.keep hw
      clear hK1 hw hK0
      obtain ⟨a1, a2, a3, d1, d2, d3, -⟩ := hK2.cells
      go_wp2_with fail
      refine (KW.out _ hK2.below).mono ?_; rintro e w3 ⟨B1, g1, B2, g2, B3, g3, rfl, hKC⟩
      have hK3 := hK2.join hKC
      clear hK2 hKC a1 a2 a3 d1 d2 d3
      obtain ⟨a1, a2, a3, d1, d2, d3, -⟩ := hK3.cells
      go_wp2_with fail
      refine bodyPost.kn (((((((hK3.front 3 rfl).st 0 (.int .i64 0)).st 1 (.slice none 0 0)).st 2 (.int .i64 0)).st 3 (.slice none 0 0)).st 4 (.int .i64 0)).st 5 (.slice none 0 0) |>.st 6 (.int .i64 0) |>.al_ (.cells #[.int .i64 t.a.base, .slice B1 ds.length g1, .int .i64 t.b.base, .slice B2 t.b.digits.length g2, .int .i64 t.s.base, .slice B3 t.s.digits.length g3, .int .i64 t.carry] 35)) ?_; intro w6 hK6
      clear a1 a2 a3 d1 d2 d3
      obtain ⟨a1, a2, a3, -⟩ := hK6.cells
      exact bodyPost_ret (v := .tuple #[.agg #[.int .i64 0, .slice none 0 0, .int .i64 0, .slice none 0 0, .int .i64 0, .slice none 0 0, .int .i64 0], .int .i64 2]) (by simp [results, Tryd.results206, go_sem, a1]) rfl (.inr ⟨HF.out, rfl, hK6.below⟩)
    · rw [hlt] at KW HF
      have KW := Lib.hid KW
      clear hlt hrz k1 k2 k3 hd1 hd2 hd3 e1 e2 hv hz r1 r2 r3
      go_enter Tryd.func206, Tryd.ntmps206
      go_wp2_with fail
      refine Calls.kn hK0 ?_; intro w1 hK1
      refine (KO.out _ hK1.below).mono ?_; rintro e w2 ⟨rfl, hw⟩
      have hK2 := hK1.keep hw
      clear hK1 hw hK0
      obtain ⟨a1, a2, a3, d1, d2, d3, -⟩ := hK2.cells
      go_wp2_with fail
      refine (KW.out _ hK2.below).mono ?_; rintro e w3 ⟨B1, g1, B2, g2, B3, g3, rfl, hKC⟩
      have hK3 := hK2.join hKC
      clear hK2 hKC a1 a2 a3 d1 d2 d3
      obtain ⟨a1, a2, a3, d1, d2, d3, -⟩ := hK3.cells
      go_wp2_with fail
      refine bodyPost.kn (((((((hK3.front 3 rfl).st 0 (.int .i64 t.a.base)).st 1 (.slice B1 ds.length g1)).st 2 (.int .i64 t.b.base)).st 3 (.slice B2 t.b.digits.length g2)).st 4 (.int .i64 t.s.base)).st 5 (.slice B3 t.s.digits.length g3) |>.st 6 (.int .i64 t.carry) |>.al_ (.cells #[.int .i64 t.a.base, .slice B1 ds.length g1, .int .i64 t.b.base, .slice B2 t.b.digits.length g2, .int .i64 t.s.base, .slice B3 t.s.digits.length g3, .int .i64 t.carry] 35)) ?_; intro w6 hK6
      clear a1 a2 a3 d1 d2 d3
      obtain ⟨a1, a2, a3, -⟩ := hK6.cells
      refine bodyPost_ret (v := .tuple #[.agg #[.int .i64 t.a.base, .slice B1 ds.length g1, .int .i64 t.b.base, .slice B2 t.b.digits.length g2, .int .i64 t.s.base, .slice B3 t.s.digits.length g3, .int .i64 t.carry], .int .i64 0]) (by simp [results, Tryd.results206, go_sem, a1]) rfl (.inl ⟨HF.out, B1, g1, B2, g2, B3, g3, by rw [HST.out], ?_⟩)
      rw [HST.out]
      exact hK6.sel [1, 2, 3] 99 (by decide) (by decide)
end Go.Proofs.YtlhcilmnfmglfaaDoor

namespace Go.Proofs.YtlhcilmnfmglfaaDoor
open Go.RowKit Go.Sort
/-- the rows of a machine are among the things that are owned -/
def Own3 (m : List Ent) (A1 : Option Addr) (c1 : Nat) (A2 : Option Addr) (c2 : Nat) (A3 : Option Addr) (c3 : Nat) (t : Tri) : Prop := rowI A1 c1 t.a.digits ∈ m ∧ rowI A2 c2 t.b.digits ∈ m ∧ rowI A3 c3 t.s.digits ∈ m
theorem Own3.mono {m m' : List Ent} {A1 A2 A3 : Option Addr} {c1 c2 c3 : Nat} {t : Tri} (h : Own3 m A1 c1 A2 c2 A3 c3 t) (hs : ∀ e ∈ m, e ∈ m') : Own3 m' A1 c1 A2 c2 A3 c3 t := ⟨hs _ h.1, hs _ h.2.1, hs _ h.2.2⟩
theorem Kn.riM {w0 w : World} {m : List Ent} {A : Option Addr} {c : Nat} {ds : List Int} (h : Kn w0 m w) (he : rowI A c ds ∈ m) : RI w A ds.length ds := by
  obtain ⟨i, hi⟩ := List.getElem?_of_mem he
  exact Kn.riv (h.front i hi)
theorem Own3.ri {w0 w : World} {m m' : List Ent} {A1 A2 A3 : Option Addr} {c1 c2 c3 : Nat} {t : Tri} (h : Own3 m A1 c1 A2 c2 A3 c3 t) (hK : Kn w0 m' w) (hs : ∀ e ∈ m, e ∈ m') : RI w A1 t.a.digits.length t.a.digits ∧ RI w A2 t.b.digits.length t.b.digits ∧ RI w A3 t.s.digits.length t.s.digits :=
  ⟨hK.riM (hs _ h.1), hK.riM (hs _ h.2.1), hK.riM (hs _ h.2.2)⟩
/-- the same, and all things of F beside them -/
def Own3F (F m : List Ent) (A1 : Option Addr) (c1 : Nat) (A2 : Option Addr) (c2 : Nat) (A3 : Option Addr) (c3 : Nat) (t : Tri) : Prop := Own3 m A1 c1 A2 c2 A3 c3 t ∧ ∀ e ∈ F, e ∈ m
theorem Own3F.mono {F m m' : List Ent} {A1 A2 A3 : Option Addr} {c1 c2 c3 : Nat} {t : Tri} (h : Own3F F m A1 c1 A2 c2 A3 c3 t) (hs : ∀ e ∈ m, e ∈ m') : Own3F F m' A1 c1 A2 c2 A3 c3 t := ⟨h.1.mono hs, fun e he => hs _ (h.2 e he)⟩
/-- a session in block g; the things of F are kept beside it -/
def SesI (F : List Ent) (w0 : World) (g : Nat) (s : SS) (w : World) : Prop := ∃ U1 u1 U2 u2 U3 u3 A1 c1 A2 c2 A3 c3 SA sc BA bc m, Kn w0 (.blk g [.int .i64 s.start.a.base, .slice U1 s.start.a.digits.length u1, .int .i64 s.start.b.base, .slice U2 s.start.b.digits.length u2, .int .i64 s.start.s.base, .slice U3 s.start.s.digits.length u3, .int .i64 s.start.carry, .int .i64 s.m.a.base, .slice A1 s.m.a.digits.length c1, .int .i64 s.m.b.base, .slice A2 s.m.b.digits.length c2, .int .i64 s.m.s.base, .slice A3 s.m.s.digits.length c3, .int .i64 s.m.carry, .slice SA s.str.length sc, .slice BA s.bel.length bc, .bool s.ended] 175 :: rowI SA sc s.str :: rowI BA bc s.bel :: m) w ∧ Own3F F m U1 u1 U2 u2 U3 u3 s.start ∧ Own3 m A1 c1 A2 c2 A3 c3 s.m
theorem lineS_ended {s : SS} (i : Int) (bs : List UInt8) (h : s.ended = true) : lineS s i bs = (s, 5) := by unfold lineS; rw [if_pos h]
theorem box7s {w0 w : World} {m : List Ent} {g : Nat} {v0 v1 v2 v3 v4 v5 v6 p0 p1 p2 p3 p4 p5 p6 : Value} {l : List Value} {T : TypeId} (h : Kn w0 (.blk g (p0 :: p1 :: p2 :: p3 :: p4 :: p5 :: p6 :: v0 :: v1 :: v2 :: v3 :: v4 :: v5 :: v6 :: l) T :: m) w) :
    w.cell? ⟨g, 7, none⟩ = some v0 ∧ w.cell? ⟨g, 8, none⟩ = some v1 ∧ w.cell? ⟨g, 9, none⟩ = some v2 ∧ w.cell? ⟨g, 10, none⟩ = some v3 ∧ w.cell? ⟨g, 11, none⟩ = some v4 ∧ w.cell? ⟨g, 12, none⟩ = some v5 ∧ w.cell? ⟨g, 13, none⟩ = some v6 :=
  ⟨h.blkAt.1 7, h.blkAt.1 8, h.blkAt.1 9, h.blkAt.1 10, h.blkAt.1 11, h.blkAt.1 12, h.blkAt.1 13⟩
attribute [local go_sem ↓] Go.wp_at_zero Go.wp_at_succ
set_option maxRecDepth 100000 in
set_option maxHeartbeats 6400000 in
theorem lineI_stroke {F : List Ent} {w0 : World} {g k : Nat} (s : SS) (i : Int) (L : ByteArray) (w : World) (hS : SesI F w0 g s w) (hg : s.Good k) (hk : k ≤ 1000000) (he : s.ended = false) (hq : kindOf (strB L) ≠ 0) :
    Calls Tryd.prog 186 #[.pointer (some ⟨g, 0, none⟩), .int .i64 i, .string L] w fun e w' => e = .returned (.int .i64 0) ∧ SesI F w0 g (lineS s i (strB L)).1 w' := by
  have HKN := (fun W => strokeNamed_any L W)
  have hb := kindOf_bd (strB L)
  have HLS := Lib.hid (show (lineS s i (strB L)).1 = ⟨s.start, (strokeT (kindOf (strB L)) s.m).1, s.str ++ [kindOf (strB L)], if (strokeT (kindOf (strB L)) s.m).2 then s.bel ++ [i] else s.bel, s.ended⟩ by
    unfold lineS; rw [if_neg (by rw [he]; decide), if_pos hq, he])
  rw [decide_eq_true hq] at HKN
  obtain ⟨kd, hkd⟩ : ∃ kd, kindOf (strB L) = kd := ⟨_, rfl⟩
  rw [hkd] at HKN hb hq HLS
  have hk1 : 1 ≤ kd ∧ kd ≤ 6 := by omega
  have KT := (fun (A1 A2 A3 : Option Addr) (c1 c2 c3 : Nat) W r1 r2 r3 => stroke_any s.m A1 A2 A3 c1 c2 c3 kd W r1 r2 r3 hg.m hk1)
  obtain ⟨⟨t, bell⟩, hr⟩ : ∃ r, strokeT kd s.m = r := ⟨_, rfl⟩
  rw [hr] at KT HLS
  replace HKN := Lib.hid HKN
  replace KT := Lib.hid KT
  have hsl := hg.str
  have hsl10 : s.str.length ≤ 10000000 := by omega
  have hbl := hg.bel
  clear hr hkd hq hg
  obtain ⟨U1, u1, U2, u2, U3, u3, A1, c1, A2, c2, A3, c3, SA, sc, BA, bc, m, hK, hu, hm⟩ := hS
  have HU := Lib.hid hu
  have HM := Lib.hid hm
  clear hu hm
  obtain ⟨a1, a2, a3⟩ := hK.blkAt
  go_enter Tryd.func186, Tryd.ntmps186
  go_wp2_with fail
  refine (HKN.out _).mono ?_; rintro e w1 ⟨rfl, hw⟩
  have hK1 := hK.keep hw
  clear a1 a2 a3 hK hw
  obtain ⟨a1, a2, a3⟩ := hK1.blkAt
  go_wp2_with fail
  obtain ⟨r1, r2, r3⟩ := HM.out.ri hK1 (fun e h => by simp [h])
  refine (KT.out _ _ _ _ _ _ _ r1 r2 r3).mono ?_; rintro e w2 ⟨B1, d1, B2, d2, B3, d3, rfl, hKn⟩
  have hK2 : Kn w0 (rowI SA sc s.str :: .blk g [.int .i64 s.start.a.base, .slice U1 s.start.a.digits.length u1, .int .i64 s.start.b.base, .slice U2 s.start.b.digits.length u2, .int .i64 s.start.s.base, .slice U3 s.start.s.digits.length u3, .int .i64 s.start.carry, .int .i64 s.m.a.base, .slice A1 s.m.a.digits.length c1, .int .i64 s.m.b.base, .slice A2 s.m.b.digits.length c2, .int .i64 s.m.s.base, .slice A3 s.m.s.digits.length c3, .int .i64 s.m.carry, .slice SA s.str.length sc, .slice BA s.bel.length bc, .bool s.ended] 175 :: rowI BA bc s.bel :: rowI B3 d3 t.s.digits :: rowI B2 d2 t.b.digits :: rowI B1 d1 t.a.digits :: m) w2 := (hK1.join hKn).sel [4, 3, 5, 0, 1, 2] 6 (by decide) (by decide)
  clear a1 a2 a3 hK1 hKn r1 r2 r3
  obtain ⟨a1, a2, a3, -⟩ := hK2.cells
  go_upto_region 6 with fail
  refine Code.wp.kn ((hK2.al [.int .i64 t.a.base, .slice B1 t.a.digits.length d1, .int .i64 t.b.base, .slice B2 t.b.digits.length d2, .int .i64 t.s.base, .slice B3 t.s.digits.length d3, .int .i64 t.carry] 35).sel [1, 0, 2, 3] 4 (by decide) (by decide)) ?_; intro w3 hK3
  clear a1 a2 a3
  obtain ⟨g9, hg9⟩ : ∃ g, w2.heap.size = g := ⟨_, rfl⟩
  rw [hg9] at hK3 ⊢
  clear hg9 hK2
  replace hK3 : Kn w0 (rowI SA sc s.str :: .blk g9 [.int .i64 t.a.base, .slice B1 t.a.digits.length d1, .int .i64 t.b.base, .slice B2 t.b.digits.length d2, .int .i64 t.s.base, .slice B3 t.s.digits.length d3, .int .i64 t.carry] 35 :: .blk g [.int .i64 s.start.a.base, .slice U1 s.start.a.digits.length u1, .int .i64 s.start.b.base, .slice U2 s.start.b.digits.length u2, .int .i64 s.start.s.base, .slice U3 s.start.s.digits.length u3, .int .i64 s.start.carry, .int .i64 s.m.a.base, .slice A1 s.m.a.digits.length c1, .int .i64 s.m.b.base, .slice A2 s.m.b.digits.length c2, .int .i64 s.m.s.base, .slice A3 s.m.s.digits.length c3, .int .i64 s.m.carry, .slice SA s.str.length sc, .slice BA s.bel.length bc, .bool s.ended] 175 :: rowI BA bc s.bel :: rowI B3 d3 t.s.digits :: rowI B2 d2 t.b.digits :: rowI B1 d1 t.a.digits :: m) w3 := hK3
  obtain ⟨str', hstr⟩ : ∃ l, s.str ++ [kd] = l := ⟨_, rfl⟩
  rw [hstr] at HLS
  have HSTR := Lib.hid hstr
  clear hstr
  obtain ⟨b1, b2, b3, a1, a2, a3, -⟩ := hK3.cells
  have hA : Kn w0 (.blk w3.heap.size [.int .i64 kd] 2 :: .row (.slice SA s.str.length sc) 2 1 s.str.length (s.str.map (Value.int .i64)) :: .blk g9 [.int .i64 t.a.base, .slice B1 t.a.digits.length d1, .int .i64 t.b.base, .slice B2 t.b.digits.length d2, .int .i64 t.s.base, .slice B3 t.s.digits.length d3, .int .i64 t.carry] 35 :: _) _ := (hK3.al [.int .i64 kd] 2).drew
  go_region_law (refine kn_stepI (by rfl) _ _ (by rfl) (.slice SA s.str.length sc) s.str (by rfl) (by rfl) hA hsl10 ?_; intro v5 w6 hK9; rw [HSTR.out] at hK9; obtain ⟨A5, c5, rfl⟩ := row_form hK9.at0; clear b1 b2 b3 a1 a2 a3; obtain ⟨x1, x2, x3, a1, a2, a3, -⟩ := hK9.cells)
  all_goals
    have hKb := (((((((hK9.front 2 rfl).st 7 (.int .i64 t.a.base)).st 8 (.slice B1 t.a.digits.length d1)).st 9 (.int .i64 t.b.base)).st 10 (.slice B2 t.b.digits.length d2)).st 11 (.int .i64 t.s.base)).st 12 (.slice B3 t.s.digits.length d3)).st 13 (.int .i64 t.carry) |>.st 14 (.slice A5 str'.length c5)
    go_upto_region 7 with fail
    refine Code.wp.kn (w0 := w0) (m := .blk g [.int .i64 s.start.a.base, .slice U1 s.start.a.digits.length u1, .int .i64 s.start.b.base, .slice U2 s.start.b.digits.length u2, .int .i64 s.start.s.base, .slice U3 s.start.s.digits.length u3, .int .i64 s.start.carry, .int .i64 t.a.base, .slice B1 t.a.digits.length d1, .int .i64 t.b.base, .slice B2 t.b.digits.length d2, .int .i64 t.s.base, .slice B3 t.s.digits.length d3, .int .i64 t.carry, .slice A5 str'.length c5, .slice BA s.bel.length bc, .bool s.ended] 175 :: rowI A5 c5 str' :: rowI BA bc s.bel :: rowI B3 d3 t.s.digits :: rowI B2 d2 t.b.digits :: rowI B1 d1 t.a.digits :: m) (hKb.sel [0, 1, 3, 4, 5, 6] 7 (by decide) (by decide)) ?_; intro w7 hK7
    clear hKb x1 x2 x3 a1 a2 a3 hA hK9
    have HK7 := Lib.hid hK7
    obtain ⟨a1, a2, a3, -⟩ := hK7.cells
    rcases bell with _ | _
    · go_wp2_with fail
      go_ret
      have hls := HLS.out
      simp only [Bool.false_eq_true, if_false] at hls
      rw [hls]
      exact ⟨rfl, U1, u1, U2, u2, U3, u3, B1, d1, B2, d2, B3, d3, A5, c5, BA, bc, rowI B3 d3 t.s.digits :: rowI B2 d2 t.b.digits :: rowI B1 d1 t.a.digits :: m, HK7.out, HU.out.mono (fun e h => by simp [h]), ⟨by simp, by simp, by simp⟩⟩
    · have hA : Kn w0 (.blk w7.heap.size [.int .i64 i] 2 :: .row (.slice BA s.bel.length bc) 2 1 s.bel.length (s.bel.map (Value.int .i64)) :: _) _ := (hK7.front 2 rfl).al [.int .i64 i] 2
      obtain ⟨bel', hbel⟩ : ∃ l, s.bel ++ [i] = l := ⟨_, rfl⟩
      rw [hbel] at HLS
      have HBEL := Lib.hid hbel
      have hbl10 : s.bel.length ≤ 10000000 := by omega
      clear hbel
      go_wp2_with (at_builtin; refine kn_pushI rfl _ _ rfl (.slice BA s.bel.length bc) s.bel rfl rfl hA hbl10 ?_; intro v8 w8 hK8; rw [HBEL.out] at hK8; obtain ⟨A6, c6, rfl⟩ := row_form hK8.at0; clear a1 a2 a3; obtain ⟨a1, a2, a3, -⟩ := hK8.cells)
      go_ret
      have hls := HLS.out
      simp only [if_true] at hls
      rw [hls]
      exact ⟨rfl, U1, u1, U2, u2, U3, u3, B1, d1, B2, d2, B3, d3, A5, c5, A6, c6, rowI B3 d3 t.s.digits :: rowI B2 d2 t.b.digits :: rowI B1 d1 t.a.digits :: m, ((hK8.front 1 rfl).st 15 (.slice A6 bel'.length c6)).sel [0, 2, 1, 3, 4, 5] 6 (by decide) (by decide), HU.out.mono (fun e h => by simp [h]), ⟨by simp, by simp, by simp⟩⟩
end Go.Proofs.YtlhcilmnfmglfaaDoor

namespace Go.Proofs.YtlhcilmnfmglfaaDoor
open Go.RowKit Go.Sort
theorem rdN_bd (bs : List UInt8) : -9223372036854775807 ≤ rdN bs ∧ rdN bs ≤ 9223372036854775807 := by
  unfold rdN
  rcases h : rdDec bs with _ | n
  · simp
  · show -9223372036854775807 ≤ n ∧ n ≤ 9223372036854775807
    unfold rdDec at h
    split at h
    · rename_i hc
      injection h with h
      rw [Bool.and_eq_true, Bool.and_eq_true, decide_eq_true_eq] at hc
      have h1 := foldD_bd _ hc.1.2
      have h2 : 10 ^ (signOff bs).length ≤ 10 ^ 18 := Nat.pow_le_pow_right (by omega) hc.1.1.2
      unfold numOf at h
      split at h <;> omega
    · cases h
def setW : ByteArray := ⟨#[115, 101, 116, 32]⟩
def showW : ByteArray := ⟨#[115, 104, 111, 119, 32]⟩
theorem SesI.of {F : List Ent} {w0 w : World} {g : Nat} {s : SS} {U1 U2 U3 A1 A2 A3 SA BA : Option Addr} {u1 u2 u3 c1 c2 c3 sc bc : Nat} {m : List Ent} (hK : Kn w0 (.blk g [.int .i64 s.start.a.base, .slice U1 s.start.a.digits.length u1, .int .i64 s.start.b.base, .slice U2 s.start.b.digits.length u2, .int .i64 s.start.s.base, .slice U3 s.start.s.digits.length u3, .int .i64 s.start.carry, .int .i64 s.m.a.base, .slice A1 s.m.a.digits.length c1, .int .i64 s.m.b.base, .slice A2 s.m.b.digits.length c2, .int .i64 s.m.s.base, .slice A3 s.m.s.digits.length c3, .int .i64 s.m.carry, .slice SA s.str.length sc, .slice BA s.bel.length bc, .bool s.ended] 175 :: rowI SA sc s.str :: rowI BA bc s.bel :: m) w) (hu : Own3F F m U1 u1 U2 u2 U3 u3 s.start) (hm : Own3 m A1 c1 A2 c2 A3 c3 s.m) : SesI F w0 g s w :=
  ⟨U1, u1, U2, u2, U3, u3, A1, c1, A2, c2, A3, c3, SA, sc, BA, bc, m, hK, hu, hm⟩
theorem lineI_ended {F : List Ent} {w0 : World} {g : Nat} (s : SS) (i : Int) (L : ByteArray) (w : World) (hS : SesI F w0 g s w) (he : s.ended = true) :
    Calls Tryd.prog 186 #[.pointer (some ⟨g, 0, none⟩), .int .i64 i, .string L] w fun e w' => e = .returned (.int .i64 (lineS s i (strB L)).2) ∧ SesI F w0 g (lineS s i (strB L)).1 w' := by
  rw [lineS_ended i (strB L) he]
  have HS := Lib.hid hS
  obtain ⟨U1, u1, U2, u2, U3, u3, A1, c1, A2, c2, A3, c3, SA, sc, BA, bc, m, hK, -, -⟩ := hS
  obtain ⟨a1, a2, a3⟩ := hK.blkAt
  clear hK
  go_enter Tryd.func186, Tryd.ntmps186
  go_wp2_with fail
  go_ret
  exact ⟨rfl, HS.out⟩
theorem nameI0 {L : ByteArray} (hq : kindOf (strB L) = 0) : Hid (∀ W, Calls Tryd.prog 170 #[.string L] W fun e w' => e = .returned (.tuple #[.int .i64 0, .bool false]) ∧ Below W.heap.size W w') := by
  have h := (fun W => strokeNamed_any L W)
  rw [hq, decide_eq_false (fun h => h rfl)] at h
  exact h
theorem setNo {L : ByteArray} (hs : L.size ≤ 1048576) (hb : begins setB (strB L) = false) : Hid (∀ W, Calls Tryd.prog 184 #[.string L, .string ⟨#[115, 101, 116, 32]⟩] W fun e w' => e = .returned (.tuple #[.string ⟨#[]⟩, .bool false]) ∧ W = w') := by
  have h := (fun W => behind_any L setW W (by omega) (by decide))
  have hb' : begins (strB setW) (strB L) = false := hb
  rw [restB_no hb', hb'] at h
  exact h
theorem showNo {L : ByteArray} (hs : L.size ≤ 1048576) (hb : begins showB (strB L) = false) : Hid (∀ W, Calls Tryd.prog 184 #[.string L, .string ⟨#[115, 104, 111, 119, 32]⟩] W fun e w' => e = .returned (.tuple #[.string ⟨#[]⟩, .bool false]) ∧ W = w') := by
  have h := (fun W => behind_any L showW W (by omega) (by decide))
  have hb' : begins (strB showW) (strB L) = false := hb
  rw [restB_no hb', hb'] at h
  exact h
theorem setYes {L : ByteArray} (hs : L.size ≤ 1048576) (hb : begins setB (strB L) = true) : ∃ R : ByteArray, strB R = (strB L).drop 4 ∧ R.size ≤ 1048576 ∧ ∀ W, Calls Tryd.prog 184 #[.string L, .string ⟨#[115, 101, 116, 32]⟩] W fun e w' => e = .returned (.tuple #[.string R, .bool true]) ∧ W = w' := by
  have h := (fun W => behind_any L setW W (by omega) (by decide))
  have hb' : begins (strB setW) (strB L) = true := hb
  rw [restB_yes hb', hb'] at h
  exact ⟨L.extract 4 L.size, strB_drop L 4, by rw [extract_size]; omega, h⟩
theorem showYes {L : ByteArray} (hs : L.size ≤ 1048576) (hb : begins showB (strB L) = true) : ∃ R : ByteArray, strB R = (strB L).drop 5 ∧ R.size ≤ 1048576 ∧ ∀ W, Calls Tryd.prog 184 #[.string L, .string ⟨#[115, 104, 111, 119, 32]⟩] W fun e w' => e = .returned (.tuple #[.string R, .bool true]) ∧ W = w' := by
  have h := (fun W => behind_any L showW W (by omega) (by decide))
  have hb' : begins (strB showW) (strB L) = true := hb
  rw [restB_yes hb', hb'] at h
  exact ⟨L.extract 5 L.size, strB_drop L 5, by rw [extract_size]; omega, h⟩
theorem begins_ne {p bs : List UInt8} (h : begins p bs = true) {q : List UInt8} (hq : q.length ≤ p.length) : bs ≠ q := by
  rintro rfl
  have := (begins_iff.1 h).1
  omega
theorem show_not_set {bs : List UInt8} (h : begins showB bs = true) : begins setB bs = false := by
  rcases hb : begins setB bs with _ | _
  · rfl
  · have h1 := (begins_iff.1 h).2
    have h2 := (begins_iff.1 hb).2
    have h3 : (bs.take 5).take 4 = bs.take 4 := by rw [List.take_take]; rfl
    have h4 : bs.take 5 = showB := h1
    have h5 : bs.take 4 = setB := h2
    rw [h4, h5] at h3
    exact absurd h3 (by decide)
set_option maxRecDepth 100000 in
set_option maxHeartbeats 3200000 in
theorem lineI_end {F : List Ent} {w0 : World} {g : Nat} (s : SS) (i : Int) (L : ByteArray) (w : World) (hS : SesI F w0 g s w) (he : s.ended = false) (hq : kindOf (strB L) = 0) (hL : L.size ≤ 1048576) (h1 : begins setB (strB L) = false) (h2 : begins showB (strB L) = false) :
    Calls Tryd.prog 186 #[.pointer (some ⟨g, 0, none⟩), .int .i64 i, .string L] w fun e w' => e = .returned (.int .i64 (lineS s i (strB L)).2) ∧ SesI F w0 g (lineS s i (strB L)).1 w' := by
  have HKN := nameI0 hq
  have HB1 := setNo hL h1
  have HB2 := showNo hL h2
  have HL := Lib.hid (show lineS s i (strB L) = if strB L = endB then ({ s with ended := true }, 0) else (s, 2) by
    unfold lineS
    rw [if_neg (by rw [he]; decide), if_neg (fun h => h hq), h1, h2]
    rfl)
  clear h1 h2 hq
  rcases hqe : (L.toList == [101, 110, 100]) with _ | _
  · have HQ : Hid (lineS s i (strB L) = (s, 2)) := by
      simp only [Hid]
      rw [HL.out, if_neg]
      rw [strB_toList, beq_eq_false_iff_ne] at hqe
      exact hqe
    obtain ⟨U1, u1, U2, u2, U3, u3, A1, c1, A2, c2, A3, c3, SA, sc, BA, bc, m, hK, hu, hm⟩ := hS
    have HU := Lib.hid hu
    have HM := Lib.hid hm
    clear hu hm
    obtain ⟨a1, a2, a3⟩ := hK.blkAt
    go_enter Tryd.func186, Tryd.ntmps186
    go_wp2_with fail
    refine (HKN.out _).mono ?_; rintro e w1 ⟨rfl, hw⟩
    have hK1 := hK.keep hw
    clear a1 a2 a3 hK hw
    obtain ⟨a1, a2, a3⟩ := hK1.blkAt
    go_wp2_with (first | (go_at_call 184; first | ((with_reducible refine (HB1.out _).mono ?_); rintro e w2 ⟨rfl, rfl⟩) | ((with_reducible refine (HB2.out _).mono ?_); rintro e w2 ⟨rfl, rfl⟩)))
    go_ret
    rw [HQ.out]
    exact ⟨rfl, SesI.of hK1 HU.out HM.out⟩
  · have HQ : Hid (lineS s i (strB L) = ({ s with ended := true }, 0)) := by
      simp only [Hid]
      rw [HL.out, if_pos]
      rw [strB_toList, beq_iff_eq] at hqe
      exact hqe
    obtain ⟨U1, u1, U2, u2, U3, u3, A1, c1, A2, c2, A3, c3, SA, sc, BA, bc, m, hK, hu, hm⟩ := hS
    have HU := Lib.hid hu
    have HM := Lib.hid hm
    clear hu hm
    obtain ⟨a1, a2, a3⟩ := hK.blkAt
    go_enter Tryd.func186, Tryd.ntmps186
    go_wp2_with fail
    refine (HKN.out _).mono ?_; rintro e w1 ⟨rfl, hw⟩
    have hK1 := hK.keep hw
    clear a1 a2 a3 hK hw
    obtain ⟨a1, a2, a3⟩ := hK1.blkAt
    go_wp2_with (first | (go_at_call 184; first | ((with_reducible refine (HB1.out _).mono ?_); rintro e w2 ⟨rfl, rfl⟩) | ((with_reducible refine (HB2.out _).mono ?_); rintro e w2 ⟨rfl, rfl⟩)))
    go_ret
    rw [HQ.out]
    exact ⟨rfl, SesI.of (s := { s with ended := true }) (hK1.st 16 (.bool true)) HU.out HM.out⟩
set_option maxRecDepth 100000 in
set_option maxHeartbeats 3200000 in
theorem lineI_show {F : List Ent} {w0 : World} {g k : Nat} (s : SS) (i : Int) (L : ByteArray) (w : World) (hS : SesI F w0 g s w) (hg : s.Good k) (he : s.ended = false) (hq : kindOf (strB L) = 0) (hL : L.size ≤ 1048576) (h2 : begins showB (strB L) = true) (ht : TB w0) :
    Calls Tryd.prog 186 #[.pointer (some ⟨g, 0, none⟩), .int .i64 i, .string L] w fun e w' => e = .returned (.int .i64 (lineS s i (strB L)).2) ∧ SesI F w0 g (lineS s i (strB L)).1 w' := by
  have HKN := nameI0 hq
  have HB1 := setNo hL (show_not_set h2)
  obtain ⟨R, hR, hRs, hRc⟩ := showYes hL h2
  have hmt : mtext s.m = ⟨(strB (mtext s.m)).toArray⟩ := (str_eq.2 rfl).symm
  have HL := Lib.hid (show lineS s i (strB L) = if strB R = strB (mtextL s.m) then (s, 0) else (s, 4) by
    unfold lineS
    rw [if_neg (by rw [he]; decide), if_neg (fun h => h hq), if_neg (begins_ne h2 (by decide)), show_not_set h2, h2, hR]
    rfl)
  have hml : mtext s.m = mtextL s.m := by unfold mtext; rw [if_pos hg.m]
  rw [← hml] at HL
  have HB2 := Lib.hid hRc
  have hz := sized_of hg.m
  have hsm : SmallTri s.m := ⟨by have := hz.a; unfold SmallReg; omega, by have := hz.b; unfold SmallReg; omega, by have := hz.s; unfold SmallReg; omega⟩
  have HMT := (fun (A1 A2 A3 : Option Addr) (c1 c2 c3 : Nat) W r1 r2 r3 (hw : TB W) => MachineText_any s.m A1 A2 A3 c1 c2 c3 W r1 r2 r3 hsm hw)
  obtain ⟨T, hT⟩ : ∃ T, mtext s.m = T := ⟨_, rfl⟩
  rw [hT] at HMT HL
  replace HMT := Lib.hid HMT
  have HTB := Lib.hid (fun W (hW : Below w0.heap.size w0 W) => TB.below ht hW)
  clear h2 hq hR hRc hT hml hmt hsm hz hg ht
  rcases hqe : (R.toList == T.toList) with _ | _
  · have HQ : Hid (lineS s i (strB L) = (s, 4)) := by
      simp only [Hid]
      rw [HL.out, if_neg]
      rw [strB_toList, strB_toList, beq_eq_false_iff_ne] at hqe
      exact hqe
    obtain ⟨U1, u1, U2, u2, U3, u3, A1, c1, A2, c2, A3, c3, SA, sc, BA, bc, m, hK, hu, hm⟩ := hS
    have HU := Lib.hid hu
    have HM := Lib.hid hm
    clear hu hm
    obtain ⟨a1, a2, a3⟩ := hK.blkAt
    go_enter Tryd.func186, Tryd.ntmps186
    go_wp2_with fail
    refine (HKN.out _).mono ?_; rintro e w1 ⟨rfl, hw⟩
    have hK1 := hK.keep hw
    clear a1 a2 a3 hK hw
    obtain ⟨a1, a2, a3⟩ := hK1.blkAt
    go_wp2_with (first | (go_at_call 184; first | ((with_reducible refine (HB1.out _).mono ?_); rintro e w2 ⟨rfl, rfl⟩) | ((with_reducible refine (HB2.out _).mono ?_); rintro e w2 ⟨rfl, rfl⟩)))
    obtain ⟨r1, r2, r3⟩ := HM.out.ri hK1 (fun e h => by simp [h])
    refine (HMT.out _ _ _ _ _ _ _ r1 r2 r3 (HTB.out _ hK1.below)).mono ?_; rintro e w2 ⟨rfl, hw⟩
    have hK2 := hK1.keep hw
    clear a1 a2 a3 hK1 hw r1 r2 r3
    go_wp2_with fail
    go_ret
    rw [HQ.out]
    exact ⟨rfl, SesI.of hK2 HU.out HM.out⟩
  · have HQ : Hid (lineS s i (strB L) = (s, 0)) := by
      simp only [Hid]
      rw [HL.out, if_pos]
      rw [strB_toList, strB_toList, beq_iff_eq] at hqe
      exact hqe
    obtain ⟨U1, u1, U2, u2, U3, u3, A1, c1, A2, c2, A3, c3, SA, sc, BA, bc, m, hK, hu, hm⟩ := hS
    have HU := Lib.hid hu
    have HM := Lib.hid hm
    clear hu hm
    obtain ⟨a1, a2, a3⟩ := hK.blkAt
    go_enter Tryd.func186, Tryd.ntmps186
    go_wp2_with fail
    refine (HKN.out _).mono ?_; rintro e w1 ⟨rfl, hw⟩
    have hK1 := hK.keep hw
    clear a1 a2 a3 hK hw
    obtain ⟨a1, a2, a3⟩ := hK1.blkAt
    go_wp2_with (first | (go_at_call 184; first | ((with_reducible refine (HB1.out _).mono ?_); rintro e w2 ⟨rfl, rfl⟩) | ((with_reducible refine (HB2.out _).mono ?_); rintro e w2 ⟨rfl, rfl⟩)))
    obtain ⟨r1, r2, r3⟩ := HM.out.ri hK1 (fun e h => by simp [h])
    refine (HMT.out _ _ _ _ _ _ _ r1 r2 r3 (HTB.out _ hK1.below)).mono ?_; rintro e w2 ⟨rfl, hw⟩
    have hK2 := hK1.keep hw
    clear a1 a2 a3 hK1 hw r1 r2 r3
    go_wp2_with fail
    go_ret
    rw [HQ.out]
    exact ⟨rfl, SesI.of hK2 HU.out HM.out⟩
set_option maxRecDepth 100000 in
set_option maxHeartbeats 3200000 in
theorem lineI_set {F : List Ent} {w0 : World} {g k : Nat} (s : SS) (i : Int) (L : ByteArray) (w : World) (hS : SesI F w0 g s w) (hg : s.Good k) (he : s.ended = false) (hq : kindOf (strB L) = 0) (hL : L.size ≤ 1048576) (h1 : begins setB (strB L) = true) (ht : TB w0) :
    Calls Tryd.prog 186 #[.pointer (some ⟨g, 0, none⟩), .int .i64 i, .string L] w fun e w' => e = .returned (.int .i64 (lineS s i (strB L)).2) ∧ SesI F w0 g (lineS s i (strB L)).1 w' := by
  have HKN := nameI0 hq
  obtain ⟨R, hR, hRs, hRc⟩ := setYes hL h1
  have HL := Lib.hid (show lineS s i (strB L) = if (rdDec (strB R)).isSome && fits s.m (rdN (strB R)) then ({ s with m := setT s.m (rdN (strB R)) }, 0) else (s, 3) by
    unfold lineS fits
    rw [if_neg (by rw [he]; decide), if_neg (fun h => h hq), if_neg (begins_ne h1 (by decide)), h1, hR]
    rfl)
  have HB1 := Lib.hid hRc
  have HRD := (fun W hW => ReadDecimal_any R W (by omega) hW)
  have hvb := rdN_bd (strB R)
  obtain ⟨v, hv⟩ : ∃ v, rdN (strB R) = v := ⟨_, rfl⟩
  obtain ⟨ok, hok⟩ : ∃ b, (rdDec (strB R)).isSome = b := ⟨_, rfl⟩
  rw [hv, hok] at HRD HL
  rw [hv] at hvb
  replace HRD := Lib.hid HRD
  have HSV := Lib.hid (fun (A1 A2 A3 : Option Addr) (c1 c2 c3 : Nat) W r1 r2 r3 => SetValueG s.m A1 A2 A3 c1 c2 c3 v W r1 r2 r3 hg.m hvb.2)
  have HTB := Lib.hid (fun W (hW : Below w0.heap.size w0 W) => TB.below ht hW)
  obtain ⟨ds, hds⟩ : ∃ ds, (setT s.m v).a.digits = ds := ⟨_, rfl⟩
  have HDS := Lib.hid hds
  have HST := Lib.hid (show setT s.m v = ⟨⟨s.m.a.base, ds⟩, s.m.b, s.m.s, s.m.carry⟩ by rw [← hds]; rfl)
  clear h1 hq hR hRc hv hok hg ht hds
  rcases ok with _ | _
  · have HQ : Hid (lineS s i (strB L) = (s, 3)) := by
      simp only [Hid]
      rw [HL.out, if_neg (by simp)]
    obtain ⟨U1, u1, U2, u2, U3, u3, A1, c1, A2, c2, A3, c3, SA, sc, BA, bc, m, hK, hu, hm⟩ := hS
    have HU := Lib.hid hu
    have HM := Lib.hid hm
    clear hu hm
    obtain ⟨a1, a2, a3⟩ := hK.blkAt
    go_enter Tryd.func186, Tryd.ntmps186
    go_wp2_with fail
    refine (HKN.out _).mono ?_; rintro e w1 ⟨rfl, hw⟩
    have hK1 := hK.keep hw
    clear a1 a2 a3 hK hw
    obtain ⟨a1, a2, a3⟩ := hK1.blkAt
    go_wp2_with (first | (go_at_call 184; (refine (HB1.out _).mono ?_; rintro e w2 ⟨rfl, rfl⟩)))
    refine (HRD.out _ (HTB.out _ hK1.below)).mono ?_; rintro e w2 ⟨rfl, hw⟩
    have hK2 := hK1.keep hw
    clear a1 a2 a3 hK1 hw
    obtain ⟨a1, a2, a3⟩ := hK2.blkAt
    go_wp2_with fail
    obtain ⟨r1, r2, r3⟩ := HM.out.ri hK2 (fun e h => by simp [h])
    refine (HSV.out _ _ _ _ _ _ _ r1 r2 r3).mono ?_; rintro e w3 (⟨hf, B1, d1, B2, d2, B3, d3, rfl, hKn⟩ | ⟨hf, rfl, hw⟩)
    · rw [HDS.out] at hKn ⊢
      have hK3 := ((hK2.join hKn).sel [3, 4, 5] 6 (by decide) (by decide)).al_ (.cells #[.int .i64 s.m.a.base, .slice B1 ds.length d1, .int .i64 s.m.b.base, .slice B2 s.m.b.digits.length d2, .int .i64 s.m.s.base, .slice B3 s.m.s.digits.length d3, .int .i64 s.m.carry] 35)
      clear a1 a2 a3 hK2 hKn r1 r2 r3
      go_wp2_with fail
      go_ret
      rw [HQ.out]
      exact ⟨rfl, SesI.of (m := m) hK3 HU.out HM.out⟩
    · have hK3 := (hK2.keep hw).al_ (.cells #[.int .i64 0, .slice none 0 0, .int .i64 0, .slice none 0 0, .int .i64 0, .slice none 0 0, .int .i64 0] 35)
      clear a1 a2 a3 hK2 hw r1 r2 r3
      go_wp2_with fail
      go_ret
      rw [HQ.out]
      exact ⟨rfl, SesI.of hK3 HU.out HM.out⟩
  · obtain ⟨U1, u1, U2, u2, U3, u3, A1, c1, A2, c2, A3, c3, SA, sc, BA, bc, m, hK, hu, hm⟩ := hS
    have HU := Lib.hid hu
    have HM := Lib.hid hm
    clear hu hm
    obtain ⟨a1, a2, a3⟩ := hK.blkAt
    go_enter Tryd.func186, Tryd.ntmps186
    go_wp2_with fail
    refine (HKN.out _).mono ?_; rintro e w1 ⟨rfl, hw⟩
    have hK1 := hK.keep hw
    clear a1 a2 a3 hK hw
    obtain ⟨a1, a2, a3⟩ := hK1.blkAt
    go_wp2_with (first | (go_at_call 184; (refine (HB1.out _).mono ?_; rintro e w2 ⟨rfl, rfl⟩)))
    refine (HRD.out _ (HTB.out _ hK1.below)).mono ?_; rintro e w2 ⟨rfl, hw⟩
    have hK2 := hK1.keep hw
    clear a1 a2 a3 hK1 hw
    obtain ⟨a1, a2, a3⟩ := hK2.blkAt
    go_wp2_with fail
    obtain ⟨r1, r2, r3⟩ := HM.out.ri hK2 (fun e h => by simp [h])
    refine (HSV.out _ _ _ _ _ _ _ r1 r2 r3).mono ?_; rintro e w3 (⟨hf, B1, d1, B2, d2, B3, d3, rfl, hKn⟩ | ⟨hf, rfl, hw⟩)
    · have HQ : Hid (lineS s i (strB L) = ({ s with m := ⟨⟨s.m.a.base, ds⟩, s.m.b, s.m.s, s.m.carry⟩ }, 0)) := by
        simp only [Hid]
        rw [HL.out, hf, HST.out]; rfl
      rw [HDS.out] at hKn ⊢
      have hK3 : Kn w0 (.blk g [.int .i64 s.start.a.base, .slice U1 s.start.a.digits.length u1, .int .i64 s.start.b.base, .slice U2 s.start.b.digits.length u2, .int .i64 s.start.s.base, .slice U3 s.start.s.digits.length u3, .int .i64 s.start.carry, .int .i64 s.m.a.base, .slice A1 s.m.a.digits.length c1, .int .i64 s.m.b.base, .slice A2 s.m.b.digits.length c2, .int .i64 s.m.s.base, .slice A3 s.m.s.digits.length c3, .int .i64 s.m.carry, .slice SA s.str.length sc, .slice BA s.bel.length bc, .bool s.ended] 175 :: rowI SA sc s.str :: rowI BA bc s.bel :: rowI B3 d3 s.m.s.digits :: rowI B2 d2 s.m.b.digits :: rowI B1 d1 ds :: m) w3 := (hK2.join hKn).sel [3, 4, 5, 0, 1, 2] 6 (by decide) (by decide)
      clear a1 a2 a3 hK2 hKn r1 r2 r3 hf
      obtain ⟨a1, a2, a3⟩ := hK3.blkAt
      go_wp2_with fail
      go_ret
      rw [HQ.out]
      exact ⟨rfl, SesI.of (s := { s with m := ⟨⟨s.m.a.base, ds⟩, s.m.b, s.m.s, s.m.carry⟩ }) (m := rowI B3 d3 s.m.s.digits :: rowI B2 d2 s.m.b.digits :: rowI B1 d1 ds :: m) ((((((((hK3.st 7 (.int .i64 s.m.a.base)).st 8 (.slice B1 ds.length d1)).st 9 (.int .i64 s.m.b.base)).st 10 (.slice B2 s.m.b.digits.length d2)).st 11 (.int .i64 s.m.s.base)).st 12 (.slice B3 s.m.s.digits.length d3)).st 13 (.int .i64 s.m.carry)).al_ (.cells #[.int .i64 s.m.a.base, .slice B1 ds.length d1, .int .i64 s.m.b.base, .slice B2 s.m.b.digits.length d2, .int .i64 s.m.s.base, .slice B3 s.m.s.digits.length d3, .int .i64 s.m.carry] 35)) (HU.out.mono (fun e h => by simp [h])) ⟨by simp, by simp, by simp⟩⟩
    · have HQ : Hid (lineS s i (strB L) = (s, 3)) := by
        simp only [Hid]
        rw [HL.out, hf]; rfl
      have hK3 := (hK2.keep hw).al_ (.cells #[.int .i64 0, .slice none 0 0, .int .i64 0, .slice none 0 0, .int .i64 0, .slice none 0 0, .int .i64 0] 35)
      clear a1 a2 a3 hK2 hw r1 r2 r3 hf
      go_wp2_with fail
      go_ret
      rw [HQ.out]
      exact ⟨rfl, SesI.of hK3 HU.out HM.out⟩
end Go.Proofs.YtlhcilmnfmglfaaDoor

namespace Go.Proofs.YtlhcilmnfmglfaaDoor
open Go.RowKit Go.Sort
/-! rows of strings -/
def StrM (w : World) (p : Addr) (s : ByteArray) : Prop := w.cell? p = some (.string s)
theorem steady_StrM : Steady StrM := by
  intro w w' p s hp hb h
  unfold StrM at *
  rw [hb.cell hp]; exact h
def rowSN (A : Option Addr) (n c : Nat) (ss : List ByteArray) : Ent := .row (.slice A n c) 9 1 n (ss.map Value.string)
theorem Kn.rlSN {w0 w : World} {m : List Ent} {A : Option Addr} {n c : Nat} {ss : List ByteArray} (h : Kn w0 (rowSN A n c ss :: m) w) : ss.length = n ∧ RL StrM 1 w A n ss := by
  have h0 : w.ownsRow 0 9 1 (.slice A n c) n (ss.map Value.string) := h.at0
  have hl : ss.length = n := by have := h0.1; simpa using this
  refine ⟨hl, hl, fun hn => ?_⟩
  rcases h0.2 with ⟨hv, hn'⟩ | ⟨g, cap, cur, hv, -, hg, -⟩
  · omega
  · injection hv with h1 h2 h3
    refine ⟨_, h1, (Array.getElem?_eq_some_iff.1 hg).1, fun k hk => ?_⟩
    rw [h1] at h0
    have := h0.cells (g := g) rfl k _ (by rw [List.getElem?_map, List.getElem?_eq_getElem hk]; rfl)
    rw [Nat.mul_one]
    exact this
theorem Kn.rlS {w0 w : World} {m : List Ent} {A : Option Addr} {n c : Nat} {ss : List ByteArray} (h : Kn w0 (rowS (.slice A n c) ss :: m) w) : n = ss.length ∧ RL StrM 1 w A n ss := by
  have h0 : w.ownsRow 0 9 1 (.slice A n c) ss.length (ss.map Value.string) := h.at0
  have hn : n = ss.length := by
    rcases h0.2 with ⟨hv, hn'⟩ | ⟨g, cap, cur, hv, -, hg, -⟩
    · injection hv with h1 h2 h3; omega
    · injection hv
  subst hn
  exact ⟨rfl, (Kn.rlSN (m := m) (c := c) h).2⟩
def totS (ss : List ByteArray) : Nat := (ss.map (·.size)).sum
theorem totS_mem {ss : List ByteArray} {s : ByteArray} (h : s ∈ ss) : s.size ≤ totS ss := by
  induction ss with
  | nil => cases h
  | cons a l ih =>
    unfold totS at *
    rw [List.map_cons, List.sum_cons]
    rcases List.mem_cons.1 h with rfl | h
    · omega
    · have := ih h; omega
theorem totS_snoc (ss : List ByteArray) (s : ByteArray) : totS (ss ++ [s]) = totS ss + s.size := by simp [totS]
set_option maxHeartbeats 800000 in
theorem szStringS_any (A : Option Addr) (n c : Nat) (ss : List ByteArray) (left : Int) (w : World) (hr : RL StrM 1 w A n ss) (hsz : ∀ s ∈ ss, s.size ≤ 9223372036854775807) (h1 : 0 ≤ left) (h2 : left ≤ 1048576) (hn : n ≤ 9223372036854775807) :
    Calls Tryd.prog 53 #[.slice A n c, .int .i64 left] w fun e w' => e = .returned (.int .i64 (if (n : Int) + totS ss ≤ left then left - n - totS ss else -1)) ∧ w = w' := by
  have HL := Lib.hid hr.1
  have HR := Lib.hid hr
  have HZ := Lib.hid hsz
  clear hr hsz
  by_cases h : (n : Int) ≤ left
  · have hi : ¬ left - (n : Int) < 0 := by omega
    obtain ⟨R, hR⟩ : ∃ R : Int, (if (n : Int) + totS ss ≤ left then left - n - totS ss else -1) = R := ⟨_, rfl⟩
    rw [hR]
    have HRR := Lib.hid hR
    clear hR
    go_enter Tryd.func53, Tryd.ntmps53
    go_wp2_with fail
    go_loopw [5, 1] (fun i lf wr => ∃ k : Nat, k ≤ n ∧ i = .int .i64 k ∧ lf = .int .i64 (left - n - totS (ss.take k)) ∧ (n : Int) + totS (ss.take k) ≤ left ∧ w = wr) (fun i _ _ => n - (intOf i).toNat)
    case atStart => exact ⟨0, Nat.zero_le _, rfl, by simp [totS], by simp [totS]; omega, rfl⟩
    case round =>
      obtain ⟨k, hk, rfl, rfl, hle, rfl⟩ := hrel
      by_cases hkn : k < n
      · obtain ⟨ad, hA, hlt, hkl, hx⟩ := HR.out.at_ hkn
        unfold StrM at hx
        rw [Nat.mul_one] at hx
        have hzz := HZ.out _ (List.getElem_mem hkl)
        obtain ⟨x, hxe⟩ : ∃ x, ss[k] = x := ⟨_, rfl⟩
        have htk : totS (ss.take (k + 1)) = totS (ss.take k) + x.size := by rw [List.take_succ_eq_append_getElem hkl, totS_snoc, hxe]
        rw [hxe] at hx hzz
        obtain ⟨T, hT⟩ : ∃ T, totS (ss.take k) = T := ⟨_, rfl⟩
        rw [hT] at htk hle ⊢
        have HT := Lib.hid hT
        have HTK := Lib.hid htk
        have HXE := Lib.hid hxe
        clear hT htk hxe
        have hi0 : (0 : Int) ≤ (k : Int) := by omega
        have hi1 : (k : Int) < (n : Int) := by omega
        subst hA
        by_cases hbad : left - (n : Int) - T - x.size < 0
        · go_wp2_with fail
          go_ret
          exact ⟨ret_int (by
            have hall : totS (ss.take (k + 1)) ≤ totS ss := by
              unfold totS
              conv => rhs; rw [← List.take_append_drop (k + 1) ss, List.map_append, List.sum_append]
              omega
            have := HTK.out
            have hr := HRR.out
            rw [if_neg (by omega)] at hr
            exact hr), by first | rfl | trivial⟩
        · go_wp2_with fail
          go_roundw
          case rel => exact ⟨k + 1, by omega, by go_num, by rw [HTK.out]; congr 1; omega, by rw [HTK.out]; omega, by first | rfl | trivial⟩
          case measure => simp [intOf]; omega
      · have hi1 : ¬ (k : Int) < (n : Int) := by omega
        have hT : totS (ss.take k) = totS ss := by rw [List.take_of_length_le (by have := HL.out; omega)]
        rw [hT] at hle ⊢
        have HLE := Lib.hid hle
        clear hle hT
        go_wp2_with fail
        go_ret
        exact ⟨ret_int (by
          have hr := HRR.out
          rw [if_pos HLE.out] at hr
          exact hr), by first | rfl | trivial⟩
  · have hi : left - (n : Int) < 0 := by omega
    go_enter Tryd.func53, Tryd.ntmps53
    go_wp2
    go_ret
    exact ⟨ret_int (by first | rfl | omega), rfl⟩
theorem info_str : (Tryd.prog.info? 9).map (fun i => (i.zero, i.size, i.bytes)) = some (some (.string ⟨#[]⟩), 1, 16) := by kernel_rfl
set_option maxRecDepth 100000 in
set_option maxHeartbeats 1600000 in
theorem toStringS_kn (A : Option Addr) (n c : Nat) (xs : List ByteArray) (w : World) (hr : RL StrM 1 w A n xs) (hm : n ≤ 1048576) :
    Calls Tryd.prog 55 #[.slice A n c] w fun e w' => ∃ X x, e = .returned (.slice X n x) ∧ Kn w [rowSN X n x xs] w' := by
  have HL := Lib.hid hr.1
  have HR := Lib.hid hr
  obtain ⟨i0, hi, hz0, hz1, hz2⟩ := info_parts info_str
  clear hr
  go_enter Tryd.func55, Tryd.ntmps55
  go_wp2_with (at_make; refine wpList_make_full _ rfl _ _ 94 rfl w.heap.size 9 i0 _ 1 Tryd.underlying94 hi hz0 hz1 _ _ _ _ n rfl rfl rfl rfl (by rw [hz2]; omega) (by unfold maxLen; omega) (Nat.le_refl _) ?_; intro w1 hown1 hg1)
  have hb1 : Below w.heap.size w w1 := (Below.refl _ _).grown hg1 (Nat.le_refl _) (by simp)
  have hK1 : Kn w [.row (.slice (some ⟨w.heap.size, 0, none⟩) n n) 9 1 n _] w1 := (Kn.nil w).add (e := .row (.slice (some ⟨w.heap.size, 0, none⟩) n n) 9 1 n _) hb1 (by
    refine ⟨hown1.1, ?_⟩
    rcases hown1.2 with hn | ⟨g, cap, cur, e, hbg, rest⟩
    · exact .inl hn
    · exact .inr ⟨g, cap, cur, e, Nat.zero_le _, rest⟩) (fun k hk => by
    have hk' : (Value.slice (some ⟨w.heap.size, 0, none⟩) n n).ownBlock = some k := hk
    simp only [Value.ownBlock, Option.some.injEq] at hk'
    omega)
  clear hg1 hown1 hb1 hi hz0 hz1 hz2
  go_loopw [4] (fun i wr => ∃ (k : Nat) (cs : List Value), k ≤ n ∧ i = .int .i64 k ∧ Kn w [.row (.slice (some ⟨w.heap.size, 0, none⟩) n n) 9 1 n cs] wr ∧ (∀ (i : Nat) (h : i < xs.length), i < k → cs[i]? = some (.string xs[i]))) (fun i _ => n - (intOf i).toNat)
  case atStart => exact ⟨0, _, Nat.zero_le _, rfl, hK1, fun i h h' => by omega⟩
  case round =>
    clear hK1
    obtain ⟨k, cs, hk, rfl, hK, hcs⟩ := hrel
    have hcl : cs.length = n * 1 := (show wr.ownsRow 0 9 1 _ n cs from hK.at0).1
    have HCS := Lib.hid hcs
    have HCL := Lib.hid hcl
    by_cases hkn : k < n
    · obtain ⟨ad, hA, hlt, hkl, hx⟩ := (HR.out.below steady_StrM hK.below).at_ hkn
      unfold StrM at hx
      rw [Nat.mul_one] at hx
      obtain ⟨x, hxe⟩ : ∃ x, xs[k] = x := ⟨_, rfl⟩
      rw [hxe] at hx
      have HX := Lib.hid hxe
      have hi0 : (0 : Int) ≤ (k : Int) := by omega
      have hi1 : (k : Int) < (n : Int) := by omega
      subst hA
      clear hxe hcs
      obtain ⟨u0, hu0⟩ : ∃ u, cs[k]? = some u := ⟨_, List.getElem?_eq_getElem (by omega)⟩
      obtain ⟨y1, y2⟩ := Kn.rowCell hK hu0
      clear hu0 hcl
      go_wp2_with fail
      go_roundw
      case rel =>
        refine ⟨k + 1, _, by omega, by go_num, hK.rowSt k (.string x), fun i h h' => ?_⟩
        have hcl := HCL.out
        rcases Nat.lt_or_ge i k with h1 | h1
        · rw [List.getElem?_set_ne (by omega)]
          exact HCS.out i h h1
        · obtain rfl : i = k := by omega
          have hx := HX.out
          rw [hx, List.getElem?_set_self (by omega)]
      case measure => simp [intOf]; omega
    · have hce : cs = xs.map Value.string := by
        apply List.ext_getElem?
        intro j
        by_cases hj : j < xs.length
        · rw [hcs j hj (by have := HL.out; omega), List.getElem?_map, List.getElem?_eq_getElem hj]; rfl
        · rw [List.getElem?_eq_none (by have := HL.out; omega), List.getElem?_eq_none (by rw [List.length_map]; omega)]
      have HCE := Lib.hid hce
      have hi1 : ¬ (k : Int) < (n : Int) := by omega
      clear hcs hcl hce
      go_wp2_with fail
      go_ret
      exact ⟨_, _, rfl, by unfold rowSN; rw [← HCE.out]; exact hK⟩
set_option maxHeartbeats 1600000 in
theorem eqStringS_same (A B : Option Addr) (n c d : Nat) (xs : List ByteArray) (w : World) (hr : RL StrM 1 w A n xs) (hs : RL StrM 1 w B n xs) (hm : n ≤ 1048576) :
    Calls Tryd.prog 57 #[.slice A n c, .slice B n d] w fun e w' => e = .returned (.bool true) ∧ ∃ q, w' = w.drewN q := by
  have HR := Lib.hid hr
  have HS := Lib.hid hs
  clear hr hs
  go_enter Tryd.func57, Tryd.ntmps57
  go_wp2_with fail
  go_loopw [5] (fun i wr => ∃ (k : Nat), k ≤ n ∧ i = .int .i64 k ∧ ∃ q, wr = w.drewN q) (fun i _ => n - (intOf i).toNat)
  case atStart => exact ⟨0, Nat.zero_le _, rfl, 0, rfl⟩
  case round =>
    obtain ⟨k, hk, rfl, q, rfl⟩ := hrel
    by_cases hkn : k < n
    · obtain ⟨ad, hA, hlt, hkl, hx⟩ := HR.out.at_ hkn
      obtain ⟨bd, hB, hlt2, hkl2, hy⟩ := HS.out.at_ hkn
      unfold StrM at hx hy
      rw [Nat.mul_one] at hx hy
      obtain ⟨x, hxe⟩ : ∃ x, xs[k] = x := ⟨_, rfl⟩
      rw [hxe] at hx hy
      have hi0 : (0 : Int) ≤ (k : Int) := by omega
      have hi1 : (k : Int) < (n : Int) := by omega
      have hxx : (x.toList == x.toList) = true := by simp
      subst hA
      subst hB
      clear hxe hlt hlt2
      go_wp2_with fail
      go_quiet (fail)
      go_wp2_with fail
      go_roundw
      case rel => exact ⟨k + 1, by omega, by go_num, by first | exact ⟨_, rfl⟩ | exact ⟨_, World.drewN_drewN _ _ _⟩⟩
      case measure => simp [intOf]; omega
    · have hi1 : ¬ (k : Int) < (n : Int) := by omega
      go_wp2_with fail
      go_ret
      exact ⟨rfl, q, rfl⟩
end Go.Proofs.YtlhcilmnfmglfaaDoor

namespace Go.Proofs.YtlhcilmnfmglfaaDoor
open Go.RowKit Go.Sort
/-! marks of strings -/
def mkT (k : Int) : ByteArray := ⟨(109 :: digs k.toNat).toArray⟩
def marksS (k : Int) (n : Nat) : List ByteArray := (List.range n).map (fun (i : Nat) => mkT (k + (i : Int)))
theorem marksS_len (k : Int) (n : Nat) : (marksS k n).length = n := by simp [marksS]
theorem marksS_get (k : Int) (n i : Nat) (h : i < (marksS k n).length) : (marksS k n)[i] = mkT (k + i) := by simp [marksS]
theorem eqS_same (A B : Option Addr) (n c d : Nat) (xs : List ByteArray) (w : World) (hr : RL StrM 1 w A n xs) (hs : RL StrM 1 w B n xs) (hm : n ≤ 1048576) :
    Calls Tryd.prog 57 #[.slice A n c, .slice B n d] w fun e w' => e = .returned (.bool true) ∧ Below w.heap.size w w' := by
  refine (eqStringS_same A B n c d xs w hr hs hm).mono ?_
  rintro e w' ⟨rfl, q, rfl⟩
  exact ⟨rfl, drewN_below q⟩
theorem size_app (a b : ByteArray) : (a ++ b).size = a.size + b.size := ByteArray.size_append
theorem strB_app (a b : ByteArray) : strB (a ++ b) = strB a ++ strB b := by unfold strB; simp
set_option maxHeartbeats 800000 in
theorem markText_any (u0 : Nat) (w : World) (h0 : 0 < u0) (h1 : u0 ≤ 100000000) :
    Calls Tryd.prog 131 #[.int .i64 u0] w fun e w' => e = .returned (.string (mkT u0)) ∧ Below w.heap.size w w' := by
  have hlen := digs_len (u0 : Int) (by omega) (by omega)
  have hu0 : ((u0 : Int)).natAbs = u0 := by omega
  rw [hu0] at hlen
  have hp : ¬ (u0 : Int) ≤ 0 := by omega
  clear hu0
  go_enter Tryd.func131, Tryd.ntmps131
  go_wp2_with fail
  clear hp
  go_loopw [0, 3] (fun k o wr => ∃ (u : Nat) (s : ByteArray), u ≤ u0 ∧ k = .int .i64 u ∧ o = .string s ∧ digs u0 = digs u ++ strB s ∧ Below w.heap.size w wr) (fun k _ _ => (intOf k).natAbs)
  case atStart => exact ⟨u0, ⟨#[]⟩, Nat.le_refl _, rfl, rfl, by simp [strB], Below.refl _ _⟩
  case round =>
    obtain ⟨u, s, hu, rfl, rfl, hdg, hbr⟩ := hrel
    have hbl : s.size ≤ 21 := by rw [hdg] at hlen; simp [strB_len] at hlen; omega
    have HG := Lib.hid hdg; clear hdg
    rcases Nat.eq_zero_or_pos u with hu1 | hu1
    · subst hu1
      have HE : Hid (mkT u0 = (⟨#[109]⟩ : ByteArray) ++ s) := by
        have hg := HG.out
        rw [show digs 0 = [] from rfl, List.nil_append] at hg
        unfold mkT
        rw [Hid, Int.toNat_natCast, str_eq, strB_app, hg]
        rfl
      go_wp2_with fail
      go_ret
      exact ⟨ret_str HE.out.symm, hbr⟩
    · have HN : Hid (digs u0 = digs (u / 10) ++ (UInt8.ofNat (48 + u % 10) :: strB s)) := by rw [Hid, HG.out, digs_step u (by omega)]; simp
      have hi1 : (0 : Int) < (u : Int) := by omega
      obtain ⟨d, hd⟩ : ∃ d : Nat, u % 10 = d := ⟨_, rfl⟩
      have hd1 : d < 10 := by omega
      obtain ⟨q, hq⟩ : ∃ q : Nat, u / 10 = q := ⟨_, rfl⟩
      have hq1 : q < u := by omega
      have t1 : (u : Int).tmod 10 = (d : Int) := by rw [Int.tmod_eq_emod_of_nonneg (by omega)]; omega
      have t2 : (u : Int).tdiv 10 = (q : Int) := by rw [Int.tdiv_eq_ediv_of_nonneg (by omega)]; omega
      have t3 : (u : Int) % 10 = (d : Int) := by omega
      have t4 : (u : Int) / 10 = (q : Int) := by omega
      rw [hq, hd] at HN
      have hbv : byteV (UInt8.ofNat (48 + d)) = .int .u8 (48 + (d : Int)) := by
        unfold byteV
        congr 1
        rw [UInt8.toNat_ofNat']
        omega
      obtain ⟨bb, hbb⟩ : ∃ b, UInt8.ofNat (48 + d) = b := ⟨_, rfl⟩
      rw [hbb] at hbv HN
      have hcv := conv_bytes (wr.alloc (.cells #[.int .u8 (48 + (d : Int))] 5)) (some ⟨wr.heap.size, 0, none⟩) 1 1 [bb] ⟨rfl, fun _ => ⟨_, rfl, by simp, fun j u hu => by
        cases j with
        | zero =>
          simp at hu; subst hu
          rw [hbv]
          exact (cell_of_row _ wr.heap.size _ _ 5 (0, 0) (heap_alloc_new _ _)).trans (by simp)
        | succ j => simp at hu⟩⟩
      have HQ := Lib.hid hq
      clear hd hq hbv hbb
      have hw1 : IntKind.u8.wrap (48 + (d : Int)) = 48 + d := wrapB (by omega)
      go_wp2_with fail
      go_roundw
      case rel => exact ⟨q, _, by omega, rfl, rfl, by rw [strB_app]; exact HN.out, hbr.alloc hbr.size _⟩
      case measure => simp [intOf]; omega
set_option maxRecDepth 100000 in
set_option maxHeartbeats 800000 in
theorem markS_kn (w0 : World) (m : List Ent) (A : Option Addr) (n c : Nat) (ss : List ByteArray) (k : Int) (w : World) (hK : Kn w0 (rowSN A n c ss :: m) w) (h0 : 1 ≤ k) (hk : k + n ≤ 40000000) :
    Calls Tryd.prog 58 #[.slice A n c, .int .i64 k] w fun e w' => e = .returned (.int .i64 (k + n)) ∧ Kn w0 (rowSN A n c (marksS k n) :: m) w' := by
  obtain ⟨k0, rfl⟩ : ∃ k0 : Nat, k = (k0 : Int) := ⟨k.toNat, by omega⟩
  have hl := hK.rlSN.1
  rcases Nat.eq_zero_or_pos n with hn | hn
  · subst hn
    obtain rfl : ss = [] := List.eq_nil_of_length_eq_zero hl
    go_enter Tryd.func58, Tryd.ntmps58
    go_wp2_with fail
    go_loopw [1, 5] (fun kk i wr => i = .int .i64 0 ∧ kk = .int .i64 k0 ∧ w = wr) (fun _ i _ => 0)
    case atStart => exact ⟨rfl, rfl, rfl⟩
    case round =>
      obtain ⟨rfl, rfl, rfl⟩ := hrel
      go_wp2_with fail
      go_ret
      exact ⟨ret_int (by simp), by simpa [marksS] using hK⟩
  · obtain ⟨g, c', hv⟩ := Kn.rowForm hK hn
    injection hv with hv1 hv2 hv3
    subst hv1
    clear hv2 hv3
    go_enter Tryd.func58, Tryd.ntmps58
    go_wp2_with fail
    go_loopw [1, 5] (fun kk i wr => ∃ (j : Nat) (cs : List Value), j ≤ n ∧ i = .int .i64 j ∧ kk = .int .i64 ((k0 + j : Nat) : Int) ∧ Kn w0 (.row (.slice (some ⟨g, 0, none⟩) n c) 9 1 n cs :: m) wr ∧ (∀ (i : Nat), i < j → cs[i]? = some (.string (mkT (k0 + i))))) (fun _ i _ => n - (intOf i).toNat)
    case atStart => exact ⟨0, _, Nat.zero_le _, rfl, rfl, hK, fun i h => by omega⟩
    case round =>
      clear hK
      obtain ⟨j, cs, hj, rfl, rfl, hK, hcs⟩ := hrel
      have hcl : cs.length = n * 1 := (show wr.ownsRow 0 9 1 _ n cs from hK.at0).1
      have HCS := Lib.hid hcs
      have HCL := Lib.hid hcl
      by_cases hkn : j < n
      · obtain ⟨N, hN⟩ : ∃ N, k0 + j = N := ⟨_, rfl⟩
        rw [hN]
        have KM := (markText_any N wr (by omega) (by omega))
        obtain ⟨T, hT⟩ : ∃ T, mkT (N : Int) = T := ⟨_, rfl⟩
        rw [hT] at KM
        have KM := Lib.hid KM
        have HN := Lib.hid hN
        have HT := Lib.hid hT
        have hNb : N ≤ 40000000 := by omega
        have hi0 : (0 : Int) ≤ (j : Int) := by omega
        have hi1 : (j : Int) < (n : Int) := by omega
        obtain ⟨u0, hu0⟩ : ∃ u, cs[j]? = some u := ⟨_, List.getElem?_eq_getElem (by omega)⟩
        have HU := Lib.hid hu0
        clear hN hT hcs hcl hu0
        go_wp2_with fail
        refine KM.out.mono ?_; rintro e w1 ⟨rfl, hw⟩
        have hK1 := hK.keep hw
        obtain ⟨y1, y2⟩ := Kn.rowCell hK1 HU.out
        clear hK hw
        go_wp2_with fail
        go_roundw
        case rel =>
          refine ⟨j + 1, _, by omega, by go_num, by rw [← HN.out]; go_num, hK1.rowSt j (.string T), fun i h => ?_⟩
          have hcl := HCL.out
          rcases Nat.lt_or_ge i j with h1 | h1
          · rw [List.getElem?_set_ne (by omega)]
            exact HCS.out i h1
          · obtain rfl : i = j := by omega
            rw [List.getElem?_set_self (by omega), ← HT.out, ← HN.out, Int.natCast_add]
        case measure => simp [intOf]; omega
      · have hce : cs = (marksS k0 n).map Value.string := by
          apply List.ext_getElem?
          intro i
          by_cases hi : i < n
          · rw [hcs i (by omega), List.getElem?_map, List.getElem?_eq_getElem (by rw [marksS_len]; exact hi), marksS_get]; rfl
          · rw [List.getElem?_eq_none (by omega), List.getElem?_eq_none (by rw [List.length_map, marksS_len]; omega)]
        have HCE := Lib.hid hce
        have hi1 : ¬ (j : Int) < (n : Int) := by omega
        obtain rfl : j = n := by omega
        clear hcs hcl hce
        go_wp2_with fail
        go_ret
        exact ⟨ret_int (by omega), by unfold rowSN; rw [← HCE.out]; exact hK⟩
set_option maxRecDepth 100000 in
set_option maxHeartbeats 800000 in
theorem heldS_any (A : Option Addr) (n c : Nat) (k : Int) (w : World) (hr : RL StrM 1 w A n (marksS k n)) (h0 : 1 ≤ k) (hk : k + n ≤ 40000000) :
    Calls Tryd.prog 59 #[.slice A n c, .int .i64 k] w fun e w' => e = .returned (.int .i64 (k + n)) ∧ Below w.heap.size w w' := by
  obtain ⟨k0, rfl⟩ : ∃ k0 : Nat, k = (k0 : Int) := ⟨k.toNat, by omega⟩
  have HR := Lib.hid (fun W (hW : Below w.heap.size w W) => hr.below steady_StrM hW)
  clear hr
  go_enter Tryd.func59, Tryd.ntmps59
  go_wp2_with fail
  go_loopw [1, 5] (fun kk i wr => ∃ (j : Nat), j ≤ n ∧ i = .int .i64 j ∧ kk = .int .i64 ((k0 + j : Nat) : Int) ∧ Below w.heap.size w wr) (fun _ i _ => n - (intOf i).toNat)
  case atStart => exact ⟨0, Nat.zero_le _, rfl, rfl, Below.refl _ _⟩
  case round =>
    obtain ⟨j, hj, rfl, rfl, hb⟩ := hrel
    by_cases hkn : j < n
    · obtain ⟨N, hN⟩ : ∃ N, k0 + j = N := ⟨_, rfl⟩
      rw [hN]
      have KM := (fun W => markText_any N W (by omega) (by omega))
      obtain ⟨T, hT⟩ : ∃ T, mkT (N : Int) = T := ⟨_, rfl⟩
      rw [hT] at KM
      obtain ⟨ad, hA, hlt, hkl, hx⟩ := (HR.out wr hb).at_ hkn
      unfold StrM at hx
      rw [Nat.mul_one, marksS_get, show (k0 : Int) + (j : Int) = (N : Int) by omega, hT] at hx
      have KM := Lib.hid KM
      have HN := Lib.hid hN
      have hNb : N ≤ 40000000 := by omega
      have hi0 : (0 : Int) ≤ (j : Int) := by omega
      have hi1 : (j : Int) < (n : Int) := by omega
      have HX := Lib.hid (fun W (hW : Below wr.heap.size wr W) => (hW.cell (p := ad.add j) (by rw [block_of_add]; exact hlt)).trans hx)
      have HG := Lib.hid (HX.out _ (Below.refl _ _).drew)
      have hTT : (T.toList == T.toList) = true := by simp
      subst hA
      clear hN hT hkl
      go_wp2_with fail
      go_region_held3 (fun W => W.cell? (ad.add j) = some (.string T)) (first | with_reducible exact HG.out | exact HG.out) (
        (go_at_call 131; (refine (KM.out _).mono ?_); rintro e w1 ⟨rfl, hw⟩; have hw2 := (Below.refl wr.heap.size wr).drew.trans (hw.mono (by simp)); clear HG; have HG := Lib.hid (HX.out _ hw2)))
      all_goals
        go_wp2_with fail
        go_roundw
        case rel => exact ⟨j + 1, by omega, by go_num, by rw [← HN.out]; go_num, hb.trans (hw2.mono hb.size)⟩
        case measure => simp [intOf]; omega
    · have hi1 : ¬ (j : Int) < (n : Int) := by omega
      obtain rfl : j = n := by omega
      go_wp2_with fail
      go_ret
      exact ⟨ret_int (by omega), hb⟩
end Go.Proofs.YtlhcilmnfmglfaaDoor
