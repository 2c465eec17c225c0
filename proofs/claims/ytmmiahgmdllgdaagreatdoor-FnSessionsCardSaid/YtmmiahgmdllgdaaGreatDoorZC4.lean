/- Part 4: lemmas and contracts of the claim's functions. -/
import Derived.Test.YtmmiahgmdllgdaaGreatDoorZC1
import Derived.Test.YtmmiahgmdllgdaaGreatDoorZC2
import Derived.Test.YtmmiahgmdllgdaaGreatDoorZC3
import Derived.Deep.DeepCutAuto
namespace Go.Proofs.YtmmiahgmdllgdaaGreatDoor
open Go.RowKit Go.Sort
/-- a turn: the setting times the unit is added -/
def turnT (t : Tri) (sign : Int) : Tri × Bool :=
  let u := pw t.b.base t.carry.toNat
  (⟨t.a, ⟨t.b.base, shiftD t.b.base t.b.digits (sign * (valL t.a.base t.a.digits * u))⟩, ⟨t.s.base, shiftD t.s.base t.s.digits (sign * u)⟩, t.carry⟩, shiftB t.b.base t.b.digits (sign * (valL t.a.base t.a.digits * u)))
/-- a stroke, and whether the bell rings -/
def strokeT (k : Int) (t : Tri) : Tri × Bool :=
  if k = 1 then turnT t 1
  else if k = 2 then turnT t (-1)
  else if k = 3 then (if t.carry + 1 = vplaces t then (t, true) else ({ t with carry := t.carry + 1 }, false))
  else if k = 4 then (if t.carry = 0 then (t, true) else ({ t with carry := t.carry - 1 }, false))
  else if k = 5 then (⟨t.a, ⟨t.b.base, digD t.b.base t.b.digits.length 0⟩, ⟨t.s.base, digD t.s.base t.s.digits.length 0⟩, t.carry⟩, false)
  else if k = 6 then ({ t with a := ⟨t.a.base, digD t.a.base t.a.digits.length 0⟩ }, false)
  else (t, false)
theorem pw_add (b : Int) (m n : Nat) : pw b (m + n) = pw b m * pw b n := by
  induction n with
  | zero => simp [pw]
  | succ n ih => rw [← Nat.add_assoc, pw_succ, ih, pw_succ, Int.mul_assoc]
theorem vmach_all {t : Tri} (h : vmach t = true) : t.a.ok = true ∧ t.b.ok = true ∧ t.s.ok = true ∧ t.a.base = t.b.base ∧ t.s.base = t.b.base ∧ pw t.b.base t.b.digits.length ≤ 1000000000001 ∧ pw t.s.base t.s.digits.length ≤ 1000000000001 ∧
    t.a.digits.length ≤ t.b.digits.length ∧ 0 ≤ t.carry ∧ t.carry ≤ vplaces t - 1 := by
  simp only [vmach, Bool.and_eq_true, beq_iff_eq, fullB, decide_eq_true_eq] at h
  obtain ⟨⟨⟨⟨h1, h2⟩, h3⟩, ⟨⟨h4, h5⟩, h6⟩, h7⟩, h8, h9⟩ := h
  obtain ⟨p, q⟩ := betB_iff.1 h9
  exact ⟨h1, h2, h3, h4, h5, h6, h7, h8, p, q⟩
theorem vmach_mk {t : Tri} (h1 : t.a.ok = true) (h2 : t.b.ok = true) (h3 : t.s.ok = true) (h4 : t.a.base = t.b.base) (h5 : t.s.base = t.b.base) (h6 : pw t.b.base t.b.digits.length ≤ 1000000000001) (h7 : pw t.s.base t.s.digits.length ≤ 1000000000001)
    (h8 : t.a.digits.length ≤ t.b.digits.length) (h9 : 0 ≤ t.carry) (h10 : t.carry ≤ vplaces t - 1) : vmach t = true := by
  simp only [vmach, Bool.and_eq_true, beq_iff_eq, fullB, decide_eq_true_eq]
  exact ⟨⟨⟨⟨h1, h2⟩, h3⟩, ⟨⟨h4, h5⟩, h6⟩, h7⟩, h8, betB_iff.2 ⟨h9, h10⟩⟩
theorem reg_ok {r : Reg} : r.ok = vreg r.base r.digits := rfl
/-- no sum of a turn runs over -/
theorem turn_bd {t : Tri} (h : vmach t = true) : 1 ≤ pw t.b.base t.carry.toNat ∧ pw t.b.base t.carry.toNat ≤ 1000000000001 ∧ 0 ≤ valL t.a.base t.a.digits * pw t.b.base t.carry.toNat ∧ valL t.a.base t.a.digits * pw t.b.base t.carry.toNat ≤ 1000000000001 := by
  obtain ⟨k1, k2, k3, e1, e2, f1, f2, l1, c0, c1⟩ := vmach_all h
  obtain ⟨⟨b1, b2⟩, ⟨n1, n2⟩, hd, hl⟩ := vreg_iff.1 k1
  have hu := pw_pos t.b.base (by omega) t.carry.toNat
  have hv0 := (valL_bd t.a.base b1 t.a.digits (fun d h => (hd d h).1)).1
  have hv1 := valL_lt t.a.base b1 t.a.digits hd
  have hadd := pw_add t.b.base t.a.digits.length t.carry.toNat
  have hc : t.a.digits.length + t.carry.toNat ≤ t.b.digits.length := by unfold vplaces at c1; omega
  have hm := pw_mono t.b.base (by omega) _ _ hc
  rw [e1] at hv1
  have h3 : valL t.a.base t.a.digits * pw t.b.base t.carry.toNat ≤ pw t.b.base t.a.digits.length * pw t.b.base t.carry.toNat := Int.mul_le_mul_of_nonneg_right (by rw [e1]; omega) (by omega)
  have hm2 := pw_mono t.b.base (by omega) t.carry.toNat t.b.digits.length (by omega)
  exact ⟨hu, by omega, Int.mul_nonneg hv0 (by omega), by omega⟩
theorem turnT_ok {t : Tri} (h : vmach t = true) (sign : Int) : vmach (turnT t sign).1 = true := by
  obtain ⟨k1, k2, k3, e1, e2, f1, f2, l1, c0, c1⟩ := vmach_all h
  refine vmach_mk k1 (shiftD_vreg _ _ _ k2 f1) (shiftD_vreg _ _ _ k3 f2) e1 e2 ?_ ?_ ?_ c0 ?_
  · simp only [turnT, shiftD_len]; exact f1
  · simp only [turnT, shiftD_len]; exact f2
  · simp only [turnT, shiftD_len]; exact l1
  · simp only [turnT, vplaces, shiftD_len]; exact c1
theorem zero_ok {b : Int} {ds : List Int} (h : vreg b ds = true) : vreg b (digD b ds.length 0) = true := by
  obtain ⟨⟨b1, b2⟩, ⟨n1, n2⟩, -, -⟩ := vreg_iff.1 h
  have := pw_pos b b1 ds.length
  exact digD_vreg b b1 b2 _ (by omega) (by omega) 0 (by omega) (by omega) (by omega)
theorem strokeT_ok {t : Tri} (k : Int) (h : vmach t = true) : vmach (strokeT k t).1 = true := by
  obtain ⟨k1, k2, k3, e1, e2, f1, f2, l1, c0, c1⟩ := vmach_all h
  unfold strokeT
  split
  · exact turnT_ok h 1
  split
  · exact turnT_ok h (-1)
  split
  · split
    · exact h
    · rename_i hc
      exact vmach_mk k1 k2 k3 e1 e2 f1 f2 l1 (by simp only []; omega) (by simp only [vplaces] at c1 hc ⊢; omega)
  split
  · split
    · exact h
    · rename_i hc
      exact vmach_mk k1 k2 k3 e1 e2 f1 f2 l1 (by simp only []; omega) (by simp only [vplaces] at c1 hc ⊢; omega)
  split
  · refine vmach_mk k1 (zero_ok k2) (zero_ok k3) e1 e2 (by simp only [digD_len]; exact f1) (by simp only [digD_len]; exact f2) (by simp only [digD_len]; exact l1) c0 (by simp only [vplaces, digD_len]; exact c1)
  split
  · refine vmach_mk (zero_ok k1) k2 k3 e1 e2 f1 f2 (by simp only [digD_len]; exact l1) c0 (by simp only [vplaces, digD_len]; exact c1)
  · exact h
end Go.Proofs.YtmmiahgmdllgdaaGreatDoor

namespace Go.Proofs.YtmmiahgmdllgdaaGreatDoor
open Go.RowKit Go.Sort
/-! programs, plainly: depths, matches, what a run does -/
def depA (xs : List Ins) (k : Nat) : Int := (progD (xs.take k)).getD 0
theorem vprog_len {xs : List Ins} (h : vprog xs = true) : xs.length ≤ 120 := by
  unfold vprog at h; simp only [Bool.and_eq_true, decide_eq_true_eq] at h; exact h.2
theorem vprog_some {xs : List Ins} (h : vprog xs = true) (k : Nat) : progD (xs.take k) = some (depA xs k) := by
  unfold vprog at h; simp only [Bool.and_eq_true, decide_eq_true_eq] at h
  unfold depA
  cases hp : progD (xs.take k) with
  | none => rw [progD_none hp] at h; cases h.1
  | some d => rfl
theorem depA_zero (xs : List Ins) : depA xs 0 = 0 := rfl
theorem depA_end {xs : List Ins} (h : vprog xs = true) {k : Nat} (hk : xs.length ≤ k) : depA xs k = 0 := by
  unfold vprog at h; simp only [Bool.and_eq_true, decide_eq_true_eq] at h
  unfold depA; rw [List.take_of_length_le hk, h.1]; rfl
theorem dep_step {xs : List Ins} (h : vprog xs = true) {k : Nat} (hk : k < xs.length) : instrOk xs[k].op xs[k].arg = true ∧ depthStep xs[k].op (depA xs k) = some (depA xs (k + 1)) := by
  have h1 := vprog_some h (k + 1)
  rw [progD_succ hk, vprog_some h k] at h1
  simp only [stepI, Option.bind_some] at h1
  split at h1
  · rename_i hi; exact ⟨hi, h1⟩
  · cases h1
theorem dep_bd {xs : List Ins} (h : vprog xs = true) : ∀ k : Nat, 0 ≤ depA xs k ∧ depA xs k ≤ 4
  | 0 => by rw [depA_zero]; omega
  | k + 1 => by
    by_cases hk : k < xs.length
    · exact depthStep_bd (dep_step h hk).2 (dep_bd h k).1 (dep_bd h k).2
    · rw [depA_end h (by omega)]; omega
theorem dep_open {xs : List Ins} (h : vprog xs = true) {k : Nat} (hk : k < xs.length) (ho : opens xs[k].op = true) : depA xs (k + 1) = depA xs k + 1 := by
  have h1 := (dep_step h hk).2
  have h10 : ¬ xs[k].op = 10 := by intro h; rw [h] at ho; simp [opens] at ho
  unfold depthStep at h1
  rw [if_neg h10, ho] at h1
  simp only [if_true] at h1
  split at h1
  · cases h1
  · injection h1 with h1; omega
theorem dep_close {xs : List Ins} (h : vprog xs = true) {k : Nat} (hk : k < xs.length) (ho : xs[k].op = 10) : depA xs (k + 1) = depA xs k - 1 := by
  have h1 := (dep_step h hk).2
  unfold depthStep at h1
  rw [if_pos ho] at h1
  split at h1
  · cases h1
  · injection h1 with h1; omega
theorem dep_same {xs : List Ins} (h : vprog xs = true) {k : Nat} (hk : k < xs.length) (ho : opens xs[k].op = false) (h10 : ¬ xs[k].op = 10) : depA xs (k + 1) = depA xs k := by
  have h1 := (dep_step h hk).2
  unfold depthStep at h1
  rw [if_neg h10, ho] at h1
  simp only [Bool.false_eq_true, if_false] at h1
  injection h1 with h1; omega
theorem dep_near {xs : List Ins} (h : vprog xs = true) (k : Nat) : depA xs k - 1 ≤ depA xs (k + 1) ∧ depA xs (k + 1) ≤ depA xs k + 1 := by
  by_cases hk : k < xs.length
  · rcases ho : opens xs[k].op with _ | _
    · by_cases h10 : xs[k].op = 10
      · rw [dep_close h hk h10]; omega
      · rw [dep_same h hk ho h10]; omega
    · rw [dep_open h hk ho]; omega
  · rw [depA_end h (show xs.length ≤ k by omega), depA_end h (show xs.length ≤ k + 1 by omega)]; omega
/-- e is the end of the loop that begins at i -/
def IsMatch (xs : List Ins) (i e : Nat) : Prop := i ≤ e ∧ e < xs.length ∧ depA xs (e + 1) = depA xs i ∧ ∀ j, i < j → j ≤ e → depA xs i < depA xs j
theorem IsMatch.one {xs : List Ins} {i e f : Nat} (h1 : IsMatch xs i e) (h2 : IsMatch xs i f) : e = f := by
  obtain ⟨a1, a2, a3, a4⟩ := h1
  obtain ⟨b1, b2, b3, b4⟩ := h2
  rcases Nat.lt_trichotomy e f with h | h | h
  · have := b4 (e + 1) (by omega) (by omega); omega
  · exact h
  · have := a4 (f + 1) (by omega) (by omega); omega
/-- a part of a program in which all loops are whole -/
structure Seg (xs : List Ins) (i tt : Nat) : Prop where
  le : i ≤ tt
  len : tt ≤ xs.length
  dep : depA xs tt = depA xs i
  above : ∀ j, i ≤ j → j ≤ tt → depA xs i ≤ depA xs j
theorem Seg.all {xs : List Ins} (h : vprog xs = true) : Seg xs 0 xs.length :=
  ⟨Nat.zero_le _, Nat.le_refl _, by rw [depA_end h (Nat.le_refl _), depA_zero], fun j _ _ => by rw [depA_zero]; exact (dep_bd h j).1⟩
theorem Seg.lt {xs : List Ins} {i tt : Nat} (hs : Seg xs i tt) (hi : i < tt) : i < xs.length := Nat.lt_of_lt_of_le hi hs.len
theorem Seg.noEnd {xs : List Ins} (h : vprog xs = true) {i tt : Nat} (hs : Seg xs i tt) (hi : i < tt) : ¬ (xs[i]'(hs.lt hi)).op = 10 := by
  intro h10
  have h1 := dep_close h (hs.lt hi) h10
  have h2 := hs.above (i + 1) (by omega) (by omega)
  omega
theorem Seg.next {xs : List Ins} (h : vprog xs = true) {i tt : Nat} (hs : Seg xs i tt) (hi : i < tt) (ho : opens (xs[i]'(hs.lt hi)).op = false) : Seg xs (i + 1) tt := by
  have h1 := dep_same h (hs.lt hi) ho (hs.noEnd h hi)
  exact ⟨by omega, hs.len, by rw [h1]; exact hs.dep, fun j h2 h3 => by rw [h1]; exact hs.above j (by omega) h3⟩
theorem Seg.loop {xs : List Ins} (h : vprog xs = true) {i tt e : Nat} (hs : Seg xs i tt) (hi : i < tt) (ho : opens (xs[i]'(hs.lt hi)).op = true) (hm : IsMatch xs i e) :
    i < e ∧ e < tt ∧ Seg xs (i + 1) e ∧ Seg xs (e + 1) tt := by
  obtain ⟨m1, m2, m3, m4⟩ := hm
  have h1 := dep_open h (hs.lt hi) ho
  have he : i < e := by
    rcases Nat.lt_or_ge i e with h2 | h2
    · exact h2
    · obtain rfl : e = i := by omega
      omega
  have ht : e < tt := by
    rcases Nat.lt_or_ge e tt with h2 | h2
    · exact h2
    · have := m4 tt hi h2; have := hs.dep; omega
  have h3 := m4 e he (Nat.le_refl _)
  have h4 := dep_near h e
  refine ⟨he, ht, ⟨by omega, by omega, by omega, fun j h5 h6 => ?_⟩, ⟨by omega, hs.len, by rw [m3]; exact hs.dep, fun j h5 h6 => by rw [m3]; exact hs.above j (by omega) h6⟩⟩
  have := m4 j (by omega) h6
  omega
theorem Seg.noOpen {xs : List Ins} {i tt : Nat} (hs : Seg xs i tt) : xs.length = tt ∨ tt < xs.length := by have := hs.len; omega
/-- what a runner holds -/
structure RS where
  m : Tri
  tr : List Int
  done : Nat
  code : Int
def RS.tick (s : RS) : RS := ⟨s.m, s.tr, s.done + 1, if s.done = 3000 then 5 else 0⟩
theorem RS.tick_full {s : RS} (h : s.done = 3000) : s.tick = ⟨s.m, s.tr, s.done + 1, 5⟩ := by simp [RS.tick, h]
theorem RS.tick_ok {s : RS} (h : ¬ s.done = 3000) : s.tick = ⟨s.m, s.tr, s.done + 1, 0⟩ := by simp [RS.tick, h]
/-- the setting set tt a value that fits -/
def setT (t : Tri) (v : Int) : Tri := { t with a := ⟨t.a.base, digD t.a.base t.a.digits.length v⟩ }
def setFits (t : Tri) (v : Int) : Bool := restD t.a.base t.a.digits.length v == 0
inductive Task where
  | run (i tt : Nat)
  | loop (op arg : Int) (i e : Nat) (k : Nat)
  | str (kind : Int) (n : Nat)
/-- what is done by a part of a program; the last is whether the bell has rung -/
inductive Ev (L : List Ins) : Task → RS → RS → Bool → Prop where
  | s0 {kind s} : Ev L (.str kind 0) s s false
  | sFull {kind n s} (h : s.done = 3000) : Ev L (.str kind (n + 1)) s s.tick false
  | sStep {kind n s s' b} (h : ¬ s.done = 3000) (he : Ev L (.str kind n) ⟨(strokeT kind s.m).1, s.tr ++ [kind], s.done + 1, 0⟩ s' b) : Ev L (.str kind (n + 1)) s s' ((strokeT kind s.m).2 || b)
  | rEnd {i tt s} (h : tt ≤ i) : Ev L (.run i tt) s s false
  | rCode {i tt s} (hi : i < tt) (h : ¬ s.code = 0) : Ev L (.run i tt) s s false
  | rSetFull {i tt s} (hi : i < tt) (hl : i < L.length) (hc : s.code = 0) (ho : L[i].op = 1) (h : s.done = 3000) : Ev L (.run i tt) s s.tick false
  | rSetBad {i tt s} (hi : i < tt) (hl : i < L.length) (hc : s.code = 0) (ho : L[i].op = 1) (h : ¬ s.done = 3000) (hf : setFits s.m L[i].arg = false) : Ev L (.run i tt) s ⟨s.m, s.tr, s.done + 1, 10⟩ false
  | rSet {i tt s s' b} (hi : i < tt) (hl : i < L.length) (hc : s.code = 0) (ho : L[i].op = 1) (h : ¬ s.done = 3000) (hf : setFits s.m L[i].arg = true) (he : Ev L (.run (i + 1) tt) ⟨setT s.m L[i].arg, s.tr, s.done + 1, 0⟩ s' b) : Ev L (.run i tt) s s' b
  | rLoop {i tt e s s1 s' b b1} (hi : i < tt) (hl : i < L.length) (hc : s.code = 0) (ho : opens L[i].op = true) (hm : IsMatch L i e) (h1 : Ev L (.loop L[i].op L[i].arg (i + 1) e 0) s s1 b1) (he : Ev L (.run (e + 1) tt) s1 s' b) : Ev L (.run i tt) s s' b
  | rStr {i tt s s1 s' b b1} (hi : i < tt) (hl : i < L.length) (hc : s.code = 0) (ho : opens L[i].op = false) (h1' : ¬ L[i].op = 1) (h1 : Ev L (.str (L[i].op - 1) (max 1 L[i].arg).toNat) s s1 b1) (he : Ev L (.run (i + 1) tt) s1 s' b) : Ev L (.run i tt) s s' (b1 || b)
  | lEnd {op arg : Int} {i e k : Nat} {s : RS} (h8 : op = 8) (hk : arg ≤ (k : Int)) : Ev L (.loop op arg i e k) s s false
  | lFull {op arg : Int} {i e k : Nat} {s : RS} (h8 : ¬ (op = 8 ∧ arg ≤ (k : Int))) (h : s.done = 3000) : Ev L (.loop op arg i e k) s s.tick false
  | lOut {op arg : Int} {i e k : Nat} {s s1 : RS} {b : Bool} (h8 : ¬ (op = 8 ∧ arg ≤ (k : Int))) (h : ¬ s.done = 3000) (h1 : Ev L (.run i e) ⟨s.m, s.tr, s.done + 1, 0⟩ s1 b) (ho : ¬ s1.code = 0 ∨ (op = 9 ∧ b = true)) : Ev L (.loop op arg i e k) s s1 false
  | lStep {op arg : Int} {i e k : Nat} {s s1 s' : RS} {b b2 : Bool} (h8 : ¬ (op = 8 ∧ arg ≤ (k : Int))) (h : ¬ s.done = 3000) (h1 : Ev L (.run i e) ⟨s.m, s.tr, s.done + 1, 0⟩ s1 b) (ho : s1.code = 0 ∧ ¬ (op = 9 ∧ b = true)) (he : Ev L (.loop op arg i e (k + 1)) s1 s' b2) : Ev L (.loop op arg i e k) s s' false
theorem Ev.one {L : List Ins} {t : Task} {s s1 : RS} {b1 : Bool} (h : Ev L t s s1 b1) : ∀ {s2 : RS} {b2 : Bool}, Ev L t s s2 b2 → s1 = s2 ∧ b1 = b2 := by
  induction h with
  | s0 => intro s2 b2 h2; cases h2; exact ⟨rfl, rfl⟩
  | sFull h => intro s2 b2 h2; cases h2 with
    | sFull => exact ⟨rfl, rfl⟩
    | sStep h' => exact absurd h h'
  | sStep h he ih => intro s2 b2 h2; cases h2 with
    | sFull h' => exact absurd h' h
    | sStep _ h' => obtain ⟨rfl, rfl⟩ := ih h'; exact ⟨rfl, rfl⟩
  | rEnd h => intro s2 b2 h2; cases h2 <;> first | exact ⟨rfl, rfl⟩ | omega
  | rCode hi h => intro s2 b2 h2; cases h2 <;> first | exact ⟨rfl, rfl⟩ | contradiction
  | @rSetFull i _ _ hi hl hc ho h =>
    have hop : opens (L[i]'hl).op = false := by rw [ho]; rfl
    intro s2 b2 h2; cases h2 <;> first | exact ⟨rfl, rfl⟩ | contradiction | omega | simp_all
  | @rSetBad i _ _ hi hl hc ho h hf =>
    have hop : opens (L[i]'hl).op = false := by rw [ho]; rfl
    intro s2 b2 h2; cases h2 <;> first | exact ⟨rfl, rfl⟩ | contradiction | omega | simp_all
  | @rSet i _ _ _ _ hi hl hc ho h hf he ih =>
    have hop : opens (L[i]'hl).op = false := by rw [ho]; rfl
    intro s2 b2 h2; cases h2 with
    | rSet _ _ _ _ _ _ he' => exact ih he'
    | _ => first | contradiction | omega | simp_all
  | @rLoop i _ _ _ _ _ _ _ hi hl hc ho hm h1 he ih1 ih2 =>
    have hop : ¬ (L[i]'hl).op = 1 := by intro h; rw [h] at ho; simp [opens] at ho
    intro s2 b2 h2; cases h2 with
    | rLoop _ _ _ _ hm' h1' he' =>
      obtain rfl := hm.one hm'
      obtain ⟨rfl, -⟩ := ih1 h1'
      exact ih2 he'
    | _ => first | contradiction | omega | simp_all
  | rStr hi hl hc ho h1' h1 he ih1 ih2 =>
    intro s2 b2 h2; cases h2 with
    | rStr _ _ _ _ _ h1'' he' =>
      obtain ⟨rfl, rfl⟩ := ih1 h1''
      obtain ⟨rfl, rfl⟩ := ih2 he'
      exact ⟨rfl, rfl⟩
    | _ => first | contradiction | omega | simp_all
  | lEnd h8 hk => intro s2 b2 h2; cases h2 <;> first | exact ⟨rfl, rfl⟩ | (exfalso; rename_i h _; exact h ⟨h8, hk⟩) | (exfalso; simp_all)
  | lFull h8 h => intro s2 b2 h2; cases h2 with
    | lEnd a b => exact absurd ⟨a, b⟩ h8
    | lFull => exact ⟨rfl, rfl⟩
    | lOut _ h' => exact absurd h h'
    | lStep _ h' => exact absurd h h'
  | lOut h8 h h1 ho ih => intro s2 b2 h2; cases h2 with
    | lEnd a b => exact absurd ⟨a, b⟩ h8
    | lFull _ h' => exact absurd h' h
    | lOut _ _ h1' => exact ⟨(ih h1').1, rfl⟩
    | lStep _ _ h1' ho' =>
      obtain ⟨rfl, rfl⟩ := ih h1'
      rcases ho with ho | ho
      · exact absurd ho'.1 ho
      · exact absurd ho ho'.2
  | lStep h8 h h1 ho he ih1 ih2 => intro s2 b2 h2; cases h2 with
    | lEnd a b => exact absurd ⟨a, b⟩ h8
    | lFull _ h' => exact absurd h' h
    | lOut _ _ h1' ho' =>
      obtain ⟨rfl, rfl⟩ := ih1 h1'
      rcases ho' with ho' | ho'
      · exact absurd ho.1 ho'
      · exact absurd ho' ho.2
    | lStep _ _ h1' _ he' =>
      obtain ⟨rfl, rfl⟩ := ih1 h1'
      exact ⟨(ih2 he').1, rfl⟩
theorem restD_div (b : Int) (hb : 2 ≤ b) (k : Nat) (v : Int) (h0 : 0 ≤ v) : restD b k v = v / pw b k := by
  induction k with
  | zero => simp [restD, pw]
  | succ k ih =>
    have h1 := pw_pos b hb k
    rw [restD, ih, Int.tdiv_eq_ediv_of_nonneg (Int.ediv_nonneg h0 (by omega)), Int.ediv_ediv_of_nonneg (by omega)]; rfl
theorem restD_zero (b : Int) (hb : 2 ≤ b) (k : Nat) (v : Int) (h0 : 0 ≤ v) : (restD b k v == 0) = decide (v < pw b k) := by
  have h1 := pw_pos b hb k
  rw [restD_div b hb k v h0, Bool.eq_iff_iff, beq_iff_eq, decide_eq_true_iff]
  constructor
  · intro h
    rcases Int.lt_or_le v (pw b k) with h2 | h2
    · exact h2
    · have := Int.ediv_le_ediv (show 0 < pw b k by omega) h2
      rw [Int.ediv_self (by omega)] at this; omega
  · intro h; exact Int.ediv_eq_zero_of_lt h0 h
/-- what holds of a runner all the time -/
structure RS.Good (s : RS) : Prop where
  m : vmach s.m = true
  tr : s.tr.length ≤ s.done
  done : s.code = 0 → s.done ≤ 3000
  top : s.done ≤ 3001
theorem setT_ok {t : Tri} (v : Int) (h : vmach t = true) (h0 : 0 ≤ v) (h1 : v < pw t.a.base t.a.digits.length) : vmach (setT t v) = true := by
  obtain ⟨k1, k2, k3, e1, e2, f1, f2, l1, c0, c1⟩ := vmach_all h
  obtain ⟨⟨b1, b2⟩, ⟨n1, n2⟩, hd, hl⟩ := vreg_iff.1 k1
  have hm := pw_mono t.a.base (by omega) _ _ l1
  rw [e1] at hm
  refine vmach_mk (t := setT t v) (digD_vreg _ b1 b2 _ (by omega) (by omega) v h0 h1 ?_) k2 k3 e1 e2 f1 f2 (by simp only [setT, digD_len]; exact l1) c0 (by simp only [setT, vplaces, digD_len]; exact c1)
  rw [e1] at h1; omega
theorem RS.Good.tick {s : RS} (h : s.Good) (hc : s.code = 0) : s.tick.Good := by
  have h1 := h.done hc
  have h2 := h.tr
  unfold RS.tick
  split
  · exact ⟨h.m, by simp only []; omega, (fun h => by cases h), by simp only []; omega⟩
  · exact ⟨h.m, by simp only []; omega, fun _ => by simp only []; omega, by simp only []; omega⟩
theorem RS.Good.stroke {s : RS} (h : s.Good) (hc : s.code = 0) (hd : ¬ s.done = 3000) (k : Int) : (RS.mk (strokeT k s.m).1 (s.tr ++ [k]) (s.done + 1) 0).Good := by
  have h1 := h.done hc
  have h2 := h.tr
  exact ⟨strokeT_ok k h.m, by simp; omega, fun _ => by simp only []; omega, by simp only []; omega⟩
theorem RS.Good.more {s : RS} (h : s.Good) (hc : s.code = 0) (hd : ¬ s.done = 3000) (t : Tri) (ht : vmach t = true) (c : Int) : (RS.mk t s.tr (s.done + 1) c).Good := by
  have h1 := h.done hc
  have h2 := h.tr
  exact ⟨ht, by simp only []; omega, fun _ => by simp only []; omega, by simp only []; omega⟩
end Go.Proofs.YtmmiahgmdllgdaaGreatDoor

namespace Go.Proofs.YtmmiahgmdllgdaaGreatDoor
open Go.RowKit Go.Sort
/-! sessions, plainly -/
/-- the name of a stroke -/
def sname (k : Int) : ByteArray :=
  if k = 1 then ⟨#[97, 100, 100]⟩ else if k = 2 then ⟨#[115, 117, 98]⟩ else if k = 3 then ⟨#[114, 105, 103, 104, 116]⟩ else if k = 4 then ⟨#[108, 101, 102, 116]⟩ else if k = 5 then ⟨#[99, 108, 101, 97, 114]⟩ else if k = 6 then ⟨#[122, 101, 114, 111]⟩ else ⟨#[]⟩
def kindOf (bs : List UInt8) : Int :=
  if bs = strB (sname 1) then 1 else if bs = strB (sname 2) then 2 else if bs = strB (sname 3) then 3 else if bs = strB (sname 4) then 4 else if bs = strB (sname 5) then 5 else if bs = strB (sname 6) then 6 else 0
theorem kindOf_sname {k : Int} (h : 1 ≤ k ∧ k ≤ 6) : kindOf (strB (sname k)) = k := by
  have h' : k = 1 ∨ k = 2 ∨ k = 3 ∨ k = 4 ∨ k = 5 ∨ k = 6 := by omega
  rcases h' with rfl | rfl | rfl | rfl | rfl | rfl <;> decide
theorem kindOf_none {bs : List UInt8} (h : ∀ k : Int, 1 ≤ k → k ≤ 6 → strB (sname k) ≠ bs) : kindOf bs = 0 := by
  unfold kindOf
  rw [if_neg (fun e => h 1 (by omega) (by omega) e.symm), if_neg (fun e => h 2 (by omega) (by omega) e.symm), if_neg (fun e => h 3 (by omega) (by omega) e.symm), if_neg (fun e => h 4 (by omega) (by omega) e.symm), if_neg (fun e => h 5 (by omega) (by omega) e.symm), if_neg (fun e => h 6 (by omega) (by omega) e.symm)]
theorem kindOf_bd (bs : List UInt8) : 0 ≤ kindOf bs ∧ kindOf bs ≤ 6 := by
  unfold kindOf
  repeat (split; omega)
  omega
theorem sname_len (k : Int) : (sname k).size ≤ 5 := by
  unfold sname
  repeat (split; decide)
  decide
theorem kindOf_name {bs : List UInt8} (h : kindOf bs ≠ 0) : strB (sname (kindOf bs)) = bs := by
  unfold kindOf at h ⊢
  repeat' split
  all_goals first | (rename_i e; exact e.symm) | (exfalso; revert h; simp_all)
def setB : List UInt8 := [115, 101, 116, 32]
def showB : List UInt8 := [115, 104, 111, 119, 32]
def endB : List UInt8 := [101, 110, 100]
def startB : List UInt8 := [115, 116, 97, 114, 116, 32]
/-- does a line begin so, with more behind? -/
def begins (p bs : List UInt8) : Bool := decide (p.length < bs.length) && decide (bs.take p.length = p)
/-- what a session has done -/
structure SS where
  start : Tri
  m : Tri
  str : List Int
  bel : List Int
  ended : Bool
def lineS (s : SS) (i : Int) (bs : List UInt8) : SS × Int :=
  if s.ended then (s, 5)
  else if kindOf bs ≠ 0 then (⟨s.start, (strokeT (kindOf bs) s.m).1, s.str ++ [kindOf bs], if (strokeT (kindOf bs) s.m).2 then s.bel ++ [i] else s.bel, false⟩, 0)
  else if bs = endB then ({ s with ended := true }, 0)
  else if begins setB bs then
    (if (rdDec (bs.drop 4)).isSome && decide (0 ≤ rdN (bs.drop 4) ∧ rdN (bs.drop 4) < pw s.m.a.base s.m.a.digits.length) then ({ s with m := setT s.m (rdN (bs.drop 4)) }, 0) else (s, 3))
  else if begins showB bs then (if bs.drop 5 = strB (mtextL s.m) then (s, 0) else (s, 4))
  else (s, 2)
def goS (s : SS) (i : Int) : List (List UInt8) → SS × Int × Int
  | [] => if s.ended then (s, -1, 0) else (s, i, 5)
  | b :: t => if (lineS s i b).2 ≠ 0 then ((lineS s i b).1, i, (lineS s i b).2) else goS (lineS s i b).1 (i + 1) t
def zSS : SS := ⟨zTri, zTri, [], [], false⟩
def runS : List (List UInt8) → SS × Int × Int
  | [] => (zSS, 0, 1)
  | b :: t => if begins startB b && (rdM (b.drop 6)).isSome then goS ⟨rdMach (b.drop 6), rdMach (b.drop 6), [], [], false⟩ 1 t else (zSS, 0, 1)
structure SS.Good (s : SS) (k : Nat) : Prop where
  start : vmach s.start = true
  m : vmach s.m = true
  str : s.str.length ≤ k
  bel : s.bel.length ≤ k
theorem SS.Good.mono {s : SS} {k k' : Nat} (h : s.Good k) (hk : k ≤ k') : s.Good k' := ⟨h.start, h.m, Nat.le_trans h.str hk, Nat.le_trans h.bel hk⟩
theorem lineS_good {s : SS} {k : Nat} {i : Int} {bs : List UInt8} (h : s.Good k) : (lineS s i bs).1.Good (k + 1) := by
  unfold lineS
  split
  · exact h.mono (by omega)
  split
  · refine ⟨h.start, strokeT_ok _ h.m, by simp only [List.length_append, List.length_cons, List.length_nil]; have := h.str; omega, ?_⟩
    show (if _ then _ else _ : List Int).length ≤ _
    have := h.bel
    split
    · simp only [List.length_append, List.length_cons, List.length_nil]; omega
    · omega
  split
  · exact ⟨h.start, h.m, by have := h.str; show s.str.length ≤ _; omega, by have := h.bel; show s.bel.length ≤ _; omega⟩
  split
  · split
    · rename_i hc
      rw [Bool.and_eq_true, decide_eq_true_eq] at hc
      exact ⟨h.start, setT_ok _ h.m hc.2.1 hc.2.2, by have := h.str; show s.str.length ≤ _; omega, by have := h.bel; show s.bel.length ≤ _; omega⟩
    · exact h.mono (by omega)
  split
  · split <;> exact h.mono (by omega)
  · exact h.mono (by omega)
theorem goS_good : ∀ {l : List (List UInt8)} {s : SS} {k : Nat} {i : Int}, s.Good k → (goS s i l).1.Good (k + l.length)
  | [], s, k, i, h => by
    unfold goS
    split <;> exact h
  | b :: t, s, k, i, h => by
    unfold goS
    have h1 := lineS_good (i := i) (bs := b) h
    split
    · exact h1.mono (by simp only [List.length_cons]; omega)
    · have := goS_good (l := t) (i := i + 1) h1
      rw [List.length_cons, show k + (t.length + 1) = k + 1 + t.length by omega]
      exact this
theorem rdm_good {bs : List UInt8} (h : (rdM bs).isSome = true) : vmach (rdMach bs) = true := by
  obtain ⟨t, ht⟩ := Option.isSome_iff_exists.1 h
  rw [(rdm_some ht).1]
  exact (rdM_sound ht).1
theorem runS_good {l : List (List UInt8)} (h : (runS l).2.2 = 0) : (runS l).1.Good l.length := by
  match l, h with
  | [], h => simp [runS] at h
  | b :: t, h =>
    rcases hc : (begins startB b && (rdM (b.drop 6)).isSome) with _ | _
    · simp [runS, hc] at h
    · have hc' := hc
      rw [Bool.and_eq_true] at hc'
      have hg := rdm_good hc'.2
      have := goS_good (l := t) (s := ⟨rdMach (b.drop 6), rdMach (b.drop 6), [], [], false⟩) (k := 0) (i := 1) ⟨hg, hg, Nat.le_refl _, Nat.le_refl _⟩
      simp only [runS, hc, if_true]
      exact this.mono (by simp)
/-- what a whole session gives: its end, and a code -/
def wholeC (l : List (List UInt8)) : Int := if l.length > 100 then 5 else if (runS l).2.2 = 0 then 0 else 8
theorem wholeC_ok {l : List (List UInt8)} (h : wholeC l = 0) : l.length ≤ 100 ∧ (runS l).2.2 = 0 := by
  unfold wholeC at h
  split at h
  · cases h
  · split at h
    · exact ⟨by omega, by assumption⟩
    · cases h
end Go.Proofs.YtmmiahgmdllgdaaGreatDoor

namespace Go.Proofs.YtmmiahgmdllgdaaGreatDoor
open Go.RowKit Go.Sort
theorem isStrokeV (k : Int) (w : World) (h : 1 ≤ k ∧ k ≤ 6) : Calls Tryz.prog 218 #[.int .i64 k] w fun e w' => e = .returned (.bool true) ∧ w = w' := by
  have KB := Lib.hid (fun W => calls_val (between_any k 1 6 W) (congrArg Value.bool (betB_iff.2 h)))
  go_enter Tryz.func218, Tryz.ntmps218
  go_wp2_with (go_at_call 80; refine (KB.out _).mono ?_; rintro e w' ⟨rfl, rfl⟩)
  go_ret
  exact ⟨rfl, rfl⟩
theorem l10KindV (k : Int) (w : World) (h : 1 ≤ k ∧ k ≤ 6) : Calls Tryz.prog 188 #[.int .i64 k] w fun e w' => e = .returned (.bool true) ∧ w = w' := by
  have KB := Lib.hid (fun W => calls_val (l00In_any k 1 6 W) (congrArg Value.bool (betB_iff.2 h)))
  go_enter Tryz.func188, Tryz.ntmps188
  go_wp2_with (go_at_call 81; refine (KB.out _).mono ?_; rintro e w' ⟨rfl, rfl⟩)
  go_ret
  exact ⟨rfl, rfl⟩
set_option maxHeartbeats 800000 in
theorem StrokeName_any (k : Int) (w : World) (h : 1 ≤ k ∧ k ≤ 6) : Calls Tryz.prog 170 #[.int .i64 k] w fun e w' => e = .returned (.string (sname k)) ∧ Below w.heap.size w w' := by
  have h' : k = 1 ∨ k = 2 ∨ k = 3 ∨ k = 4 ∨ k = 5 ∨ k = 6 := by omega
  clear h
  rcases h' with rfl | rfl | rfl | rfl | rfl | rfl
  all_goals
    go_enter Tryz.func170, Tryz.ntmps170
    go_wp2_with (go_at_call 218; refine (isStrokeV _ _ (by decide)).mono ?_; rintro e w' ⟨rfl, rfl⟩)
    go_ret
    exact ⟨rfl, by first | exact Below.refl _ _ | exact (Below.refl _ _).alloc (Nat.le_refl _) _⟩
set_option maxHeartbeats 800000 in
theorem specStrokeName_any (k : Int) (w : World) (h : 1 ≤ k ∧ k ≤ 6) : Calls Tryz.prog 145 #[.int .i64 k] w fun e w' => e = .returned (.string (sname k)) ∧ Below w.heap.size w w' := by
  have h' : k = 1 ∨ k = 2 ∨ k = 3 ∨ k = 4 ∨ k = 5 ∨ k = 6 := by omega
  clear h
  rcases h' with rfl | rfl | rfl | rfl | rfl | rfl
  all_goals
    go_enter Tryz.func145, Tryz.ntmps145
    go_wp2_with (go_at_call 188; refine (l10KindV _ _ (by decide)).mono ?_; rintro e w' ⟨rfl, rfl⟩)
    go_ret
    exact ⟨rfl, by first | exact Below.refl _ _ | exact (Below.refl _ _).alloc (Nat.le_refl _) _⟩
set_option maxHeartbeats 1600000 in
theorem strokeNamed_any (s : ByteArray) (w : World) :
    Calls Tryz.prog 130 #[.string s] w fun e w' => e = .returned (.tuple #[.int .i64 (kindOf (strB s)), .bool (decide (kindOf (strB s) ≠ 0))]) ∧ Below w.heap.size w w' := by
  go_enter Tryz.func130, Tryz.ntmps130
  go_wp2_with fail
  go_loopw [4] (fun kk wr => ∃ k : Nat, 1 ≤ k ∧ k ≤ 7 ∧ kk = .int .i64 k ∧ (∀ j : Int, 1 ≤ j → j < k → strB (sname j) ≠ strB s) ∧ Below w.heap.size w wr) (fun kk _ => 8 - (intOf kk).toNat)
  case atStart => exact ⟨1, by omega, by omega, rfl, fun j h1 h2 => by omega, Below.refl _ _⟩
  case round =>
    obtain ⟨k, k1, k7, rfl, hno, hb⟩ := hrel
    have HNO := Lib.hid hno
    clear hno
    by_cases hk : k ≤ 6
    · have hk2 : (k : Int) ≤ 6 := by omega
      have KN := Lib.hid (StrokeName_any k wr (by omega))
      obtain ⟨N, hN⟩ : ∃ N, sname k = N := ⟨_, rfl⟩
      rw [hN] at KN
      have HN := Lib.hid hN
      clear hN
      rcases hq : (N.toList == s.toList) with _ | _
      · have HQ : Hid (strB N ≠ strB s) := by simp only [Hid]; rw [strB_toList, strB_toList, beq_eq_false_iff_ne] at hq; exact hq
        go_wp2_with (go_at_call 170; refine KN.out.mono ?_; rintro e w' ⟨rfl, hw⟩)
        go_roundw
        case rel => exact ⟨k + 1, by omega, by omega, by go_num, fun j h1 h2 => by
            rcases Int.lt_or_le j k with h3 | h3
            · exact HNO.out j h1 h3
            · obtain rfl : j = k := by omega
              rw [HN.out]; exact HQ.out, hb.trans (hw.mono hb.size)⟩
        case measure => simp [intOf]; omega
      · have HQ : Hid (kindOf (strB s) = k) := by
          simp only [Hid]
          rw [strB_toList, strB_toList, beq_iff_eq] at hq
          rw [← hq, ← HN.out]
          exact kindOf_sname (by omega)
        have hk0 : Hid (decide (kindOf (strB s) ≠ 0) = true) := by simp only [Hid]; rw [HQ.out]; exact decide_eq_true (by omega)
        go_wp2_with (go_at_call 170; refine KN.out.mono ?_; rintro e w' ⟨rfl, hw⟩)
        go_ret2
        exact ⟨by rw [hk0.out, HQ.out]; rfl, hb.trans (hw.mono hb.size)⟩
    · have hk2 : ¬ (k : Int) ≤ 6 := by omega
      have HQ := Lib.hid (kindOf_none (bs := strB s) (fun j h1 h2 => HNO.out j h1 (by omega)))
      go_wp2_with fail
      go_ret2
      exact ⟨by rw [HQ.out]; rfl, hb⟩
set_option maxHeartbeats 1600000 in
theorem l24Kind_any (s : ByteArray) (w : World) :
    Calls Tryz.prog 138 #[.string s] w fun e w' => e = .returned (.int .i64 (kindOf (strB s))) ∧ Below w.heap.size w w' := by
  go_enter Tryz.func138, Tryz.ntmps138
  go_wp2_with fail
  go_loopw [3] (fun kk wr => ∃ k : Nat, 1 ≤ k ∧ k ≤ 7 ∧ kk = .int .i64 k ∧ (∀ j : Int, 1 ≤ j → j < k → strB (sname j) ≠ strB s) ∧ Below w.heap.size w wr) (fun kk _ => 8 - (intOf kk).toNat)
  case atStart => exact ⟨1, by omega, by omega, rfl, fun j h1 h2 => by omega, Below.refl _ _⟩
  case round =>
    obtain ⟨k, k1, k7, rfl, hno, hb⟩ := hrel
    have HNO := Lib.hid hno
    clear hno
    by_cases hk : k ≤ 6
    · have hk2 : (k : Int) ≤ 6 := by omega
      have KN := Lib.hid (specStrokeName_any k wr (by omega))
      obtain ⟨N, hN⟩ : ∃ N, sname k = N := ⟨_, rfl⟩
      rw [hN] at KN
      have HN := Lib.hid hN
      clear hN
      rcases hq : (N.toList == s.toList) with _ | _
      · have HQ : Hid (strB N ≠ strB s) := by simp only [Hid]; rw [strB_toList, strB_toList, beq_eq_false_iff_ne] at hq; exact hq
        go_wp2_with (go_at_call 145; refine KN.out.mono ?_; rintro e w' ⟨rfl, hw⟩)
        go_roundw
        case rel => exact ⟨k + 1, by omega, by omega, by go_num, fun j h1 h2 => by
            rcases Int.lt_or_le j k with h3 | h3
            · exact HNO.out j h1 h3
            · obtain rfl : j = k := by omega
              rw [HN.out]; exact HQ.out, hb.trans (hw.mono hb.size)⟩
        case measure => simp [intOf]; omega
      · have HQ : Hid (kindOf (strB s) = k) := by
          simp only [Hid]
          rw [strB_toList, strB_toList, beq_iff_eq] at hq
          rw [← hq, ← HN.out]
          exact kindOf_sname (by omega)
        go_wp2_with (go_at_call 145; refine KN.out.mono ?_; rintro e w' ⟨rfl, hw⟩)
        go_ret
        exact ⟨by rw [HQ.out]; rfl, hb.trans (hw.mono hb.size)⟩
    · have hk2 : ¬ (k : Int) ≤ 6 := by omega
      have HQ := Lib.hid (kindOf_none (bs := strB s) (fun j h1 h2 => HNO.out j h1 (by omega)))
      go_wp2_with fail
      go_ret
      exact ⟨by rw [HQ.out]; rfl, hb⟩
theorem begins_iff {p bs : List UInt8} : begins p bs = true ↔ p.length < bs.length ∧ bs.take p.length = p := by
  unfold begins; simp
/-- what stands behind a beginning -/
def restB (p s : ByteArray) : ByteArray := if begins (strB p) (strB s) then s.extract p.size s.size else ⟨#[]⟩
theorem restB_yes {p s : ByteArray} (h : begins (strB p) (strB s) = true) : restB p s = s.extract p.size s.size := if_pos h
theorem restB_no {p s : ByteArray} (h : begins (strB p) (strB s) = false) : restB p s = ⟨#[]⟩ := if_neg (by rw [h]; exact Bool.false_ne_true)
set_option maxHeartbeats 800000 in
theorem behind_any (s p : ByteArray) (w : World) (_hs : s.size ≤ 9223372036854775807) (hp : p.size ≤ 100) :
    Calls Tryz.prog 69 #[.string s, .string p] w fun e w' => e = .returned (.tuple #[.string (restB p s), .bool (begins (strB p) (strB s))]) ∧ w = w' := by
  have HB := Lib.hid (show begins (strB p) (strB s) = (decide (p.size < s.size) && decide ((strB s).take p.size = strB p)) by unfold begins; rw [strB_len, strB_len])
  by_cases hl : p.size < s.size
  · have hl1 : ¬ (s.size : Int) ≤ (p.size : Int) := by omega
    rcases hq : ((s.extract 0 p.size).toList == p.toList) with _ | _
    · have HF : Hid (begins (strB p) (strB s) = false) := by
        simp only [Hid]
        rw [HB.out]
        rw [strB_toList, strB_toList, strB_extract, beq_eq_false_iff_ne] at hq
        simp at hq
        simp [hq]
      have HQ := Lib.hid (restB_no HF.out)
      go_enter Tryz.func69, Tryz.ntmps69
      go_wp2_with fail
      go_ret2
      exact ⟨by rw [HQ.out, HF.out]; rfl, rfl⟩
    · have HF : Hid (begins (strB p) (strB s) = true) := by
        simp only [Hid]
        rw [HB.out]
        rw [strB_toList, strB_toList, strB_extract, beq_iff_eq] at hq
        simp at hq
        simp [hq, hl]
      have HQ := Lib.hid (restB_yes HF.out)
      go_enter Tryz.func69, Tryz.ntmps69
      go_wp2_with fail
      go_ret2
      exact ⟨by rw [HQ.out, HF.out]; rfl, rfl⟩
  · have hl1 : (s.size : Int) ≤ (p.size : Int) := by omega
    have HF : Hid (begins (strB p) (strB s) = false) := by
      simp only [Hid]
      rw [HB.out, decide_eq_false hl]; rfl
    have HQ := Lib.hid (restB_no HF.out)
    go_enter Tryz.func69, Tryz.ntmps69
    go_wp2_with fail
    go_ret2
    exact ⟨by rw [HQ.out, HF.out]; rfl, rfl⟩
end Go.Proofs.YtmmiahgmdllgdaaGreatDoor

namespace Go.Proofs.YtmmiahgmdllgdaaGreatDoor
open Go.RowKit Go.Sort
/-- what is known at index j of the search for the match of i -/
structure Seek (xs : List Ins) (i j : Nat) (d : Int) : Prop where
  le : i ≤ j
  lt : j < xs.length
  dep : d = depA xs j - depA xs i
  above : ∀ q, i < q → q ≤ j → depA xs i < depA xs q
theorem Seek.next {xs : List Ins} (h : vprog xs = true) {i j : Nat} {d : Int} (hs : Seek xs i j d) (ho : opens (xs[i]'(Nat.lt_of_le_of_lt hs.le hs.lt)).op = true) {d' : Int} (hd : d' = depA xs (j + 1) - depA xs i) (h0 : ¬ d' = 0) : Seek xs i (j + 1) d' := by
  have hn := dep_near h j
  have hi : i < xs.length := Nat.lt_of_le_of_lt hs.le hs.lt
  have hb := dep_bd h i
  have hge : depA xs i ≤ depA xs (j + 1) := by
    rcases Nat.lt_or_eq_of_le hs.le with h1 | h1
    · have := hs.above j h1 (Nat.le_refl _); omega
    · subst h1; rw [dep_open h hi ho]; omega
  have hl : j + 1 < xs.length := by
    rcases Nat.lt_or_ge (j + 1) xs.length with h1 | h1
    · exact h1
    · have := depA_end h h1; omega
  refine ⟨by have := hs.le; omega, hl, hd, fun q h1 h2 => ?_⟩
  rcases Nat.lt_or_eq_of_le h2 with h3 | h3
  · exact hs.above q h1 (by omega)
  · subst h3; omega
theorem Seek.found {xs : List Ins} {i j : Nat} {d : Int} (hs : Seek xs i j d) {d' : Int} (hd : d' = depA xs (j + 1) - depA xs i) (h0 : d' = 0) : IsMatch xs i j := ⟨hs.le, hs.lt, by omega, hs.above⟩
theorem Seek.zero {xs : List Ins} {i : Nat} (hi : i < xs.length) : Seek xs i i 0 := ⟨Nat.le_refl _, hi, by omega, fun q h1 h2 => by omega⟩
def MatchRet (xs : List Ins) (i : Nat) (w : World) (e : Ending) (w' : World) : Prop := ∃ f : Nat, e = .returned (.int .i64 f) ∧ IsMatch xs i f ∧ Below w.heap.size w w'
def MatchRet0 (xs : List Ins) (i : Nat) (w : World) (e : Ending) (w' : World) : Prop := ∃ f : Nat, e = .returned (.int .i64 f) ∧ IsMatch xs i f ∧ w = w'
end Go.Proofs.YtmmiahgmdllgdaaGreatDoor

namespace Go.Proofs.YtmmiahgmdllgdaaGreatDoor
open Go.RowKit Go.Sort
set_option maxRecDepth 100000 in
set_option maxHeartbeats 6400000 in
theorem stroke_any (t : Tri) (A1 A2 A3 : Option Addr) (c1 c2 c3 : Nat) (k : Int) (w : World) (r1 : RI w A1 t.a.digits.length t.a.digits) (r2 : RI w A2 t.b.digits.length t.b.digits) (r3 : RI w A3 t.s.digits.length t.s.digits) (hv : vmach t = true) (hk16 : 1 ≤ k ∧ k ≤ 6) :
    Calls Tryz.prog 131 #[.agg #[.int .i64 t.a.base, .slice A1 t.a.digits.length c1, .int .i64 t.b.base, .slice A2 t.b.digits.length c2, .int .i64 t.s.base, .slice A3 t.s.digits.length c3, .int .i64 t.carry], .int .i64 k] w fun e w' => ∃ A1 c1 A2 c2 A3 c3, e = .returned (.tuple #[.agg #[.int .i64 (strokeT k t).1.a.base, .slice A1 (strokeT k t).1.a.digits.length c1, .int .i64 (strokeT k t).1.b.base, .slice A2 (strokeT k t).1.b.digits.length c2, .int .i64 (strokeT k t).1.s.base, .slice A3 (strokeT k t).1.s.digits.length c3, .int .i64 (strokeT k t).1.carry], .bool (strokeT k t).2]) ∧
      Kn w [rowI A3 c3 (strokeT k t).1.s.digits, rowI A2 c2 (strokeT k t).1.b.digits, rowI A1 c1 (strokeT k t).1.a.digits] w' := by
  obtain ⟨k1, k2, k3, e1, e2, f1, f2, l1, p0, p1⟩ := vmach_all hv
  obtain ⟨u1, u2, u3, u4⟩ := turn_bd hv
  obtain ⟨⟨b1, b2⟩, ⟨n1, n2⟩, hd1, -⟩ := vreg_iff.1 k1
  obtain ⟨⟨b3, b4⟩, ⟨n3, n4⟩, hd2, -⟩ := vreg_iff.1 k2
  obtain ⟨⟨b5, b6⟩, ⟨n5, n6⟩, hd3, -⟩ := vreg_iff.1 k3
  have hz : Sized t := ⟨n1, n3, n5, n2, n4, n6⟩
  have KC := Lib.hid (fun W (hW : Below w.heap.size w W) => copiedM_any t A1 A2 A3 c1 c2 c3 W (r1.below hW) (r2.below hW) (r3.below hW) hz)
  have KP := (fun W => power_B t.b.base t.carry.toNat W b3 b4 (by unfold vplaces at p1; omega))
  have hpc : powC t.b.base t.carry.toNat = pw t.b.base t.carry.toNat := by unfold powC; rw [if_pos u2]
  rw [hpc, show ((t.carry.toNat : Nat) : Int) = t.carry by omega] at KP
  obtain ⟨U, hU⟩ : ∃ U, pw t.b.base t.carry.toNat = U := ⟨_, rfl⟩
  have HU := Lib.hid hU
  rw [hU] at KP u1 u2 u3 u4
  have KP := Lib.hid KP
  have E1 := Lib.hid e1
  have E2 := Lib.hid e2
  clear hpc hU e1 e2 hz
  go_enter Tryz.func131, Tryz.ntmps131
  go_wp2_with fail
  refine Calls.kn (((Kn.nil w).al [.int .i64 t.a.base, .slice A1 t.a.digits.length c1, .int .i64 t.b.base, .slice A2 t.b.digits.length c2, .int .i64 t.s.base, .slice A3 t.s.digits.length c3, .int .i64 t.carry] 32).al [.int .i64 0, .slice none 0 0, .int .i64 0, .slice none 0 0, .int .i64 0, .slice none 0 0, .int .i64 0] 32) ?_; intro w1 hK1
  simp only [World.size_alloc] at hK1
  with_reducible refine (KC.out _ hK1.below).mono ?_; rintro e w2 ⟨B1, h1, B2, h2, B3, h3, rfl, hKC⟩
  have hK2 := hK1.join hKC
  obtain ⟨a1, a2, a3, d1, d2, d3, -⟩ := hK2.cells
  clear hK1 hKC
  go_wp2_with fail
  refine Calls.kn (hK2.al [.int .i64 t.a.base, .slice B1 t.a.digits.length h1, .int .i64 t.b.base, .slice B2 t.b.digits.length h2, .int .i64 t.s.base, .slice B3 t.s.digits.length h3, .int .i64 t.carry] 32) ?_; intro w3 hK3
  with_reducible refine (KP.out _).mono ?_; rintro e w4 ⟨rfl, hw⟩
  have hK4 := hK3.keep hw
  clear a1 a2 a3 d1 d2 d3 hK2 hK3 hw
  obtain ⟨x1, x2, x3, a1, a2, a3, d1, d2, d3, -⟩ := hK4.cells
  have hk' : k = 1 ∨ k = 2 ∨ k = 3 ∨ k = 4 ∨ k = 5 ∨ k = 6 := by omega
  clear hk16
  rcases hk' with hk | hk | hk | hk | hk | hk
  · subst hk
    have hT : strokeT 1 t = turnT t 1 := by unfold strokeT; simp
    have KV := (fun W (hW : Below w.heap.size w W) => value_any t.a.base A1 t.a.digits.length c1 t.a.digits W b1 b2 hd1 (r1.below hW) n2)
    have hTT : turnT t 1 = (⟨t.a, ⟨t.b.base, shiftD t.b.base t.b.digits (1 * (valL t.a.base t.a.digits * pw t.b.base t.carry.toNat))⟩, ⟨t.s.base, shiftD t.s.base t.s.digits (1 * pw t.b.base t.carry.toNat)⟩, t.carry⟩, shiftB t.b.base t.b.digits (1 * (valL t.a.base t.a.digits * pw t.b.base t.carry.toNat))) := rfl
    rw [HU.out] at hTT
    obtain ⟨V, hV⟩ : ∃ V, valL t.a.base t.a.digits = V := ⟨_, rfl⟩
    rw [hV] at KV hTT u3 u4
    obtain ⟨X, hX⟩ : ∃ X, 1 * (V * U) = X := ⟨_, rfl⟩
    obtain ⟨Y, hY⟩ : ∃ Y, 1 * U = Y := ⟨_, rfl⟩
    rw [hX, hY] at hTT
    have hXb : -1000000000001 ≤ X ∧ X ≤ 1000000000001 := by omega
    have hYb : -1000000000001 ≤ Y ∧ Y ≤ 1000000000001 := by omega
    have hV1 : 0 ≤ V := by
      have := (valL_bd t.a.base b1 t.a.digits (fun d h => (hd1 d h).1)).1
      omega
    have hV2 : V ≤ 1000000000001 := by
      have := Int.mul_le_mul_of_nonneg_left (show 1 ≤ U from u1) hV1
      rw [Int.mul_one] at this
      omega
    have KS2 := (fun W (hW : Below w.heap.size w W) => shifted_any t.b.base A2 c2 t.b.digits X W (r2.below hW) k2 f1 hXb.1 hXb.2)
    have KS3 := (fun W (hW : Below w.heap.size w W) => shifted_any t.s.base A3 c3 t.s.digits Y W (r3.below hW) k3 f2 hYb.1 hYb.2)
    obtain ⟨es, hes⟩ : ∃ es, shiftD t.b.base t.b.digits X = es := ⟨_, rfl⟩
    obtain ⟨fs, hfs⟩ : ∃ fs, shiftD t.s.base t.s.digits Y = fs := ⟨_, rfl⟩
    obtain ⟨bell, hbl⟩ : ∃ e, shiftB t.b.base t.b.digits X = e := ⟨_, rfl⟩
    obtain ⟨bell2, hbl2⟩ : ∃ e, shiftB t.s.base t.s.digits Y = e := ⟨_, rfl⟩
    rw [hes, hbl] at KS2
    rw [hfs, hbl2] at KS3
    rw [hes, hfs, hbl] at hTT
    have HS := Lib.hid (hT.trans hTT)
    have KV := Lib.hid KV
    have KS2 := Lib.hid KS2
    have KS3 := Lib.hid KS3
    have HYY := Lib.hid hY
    have HW2 := Lib.hid (show IntKind.i64.wrap (V * U) = X by rw [← hX, Int.one_mul]; exact wrapI64 (by omega))
    have HW1 := HW2
    clear hT hTT hV hX hY hes hfs hbl hbl2 hd1 hd2 hd3 r1 r2 r3 k1 k2 k3 KC KP f1 f2 l1 p0 p1
    go_wp2_with fail
    have HG := Lib.hid (box7 hK4.drew.drop.drop.drop.drop.drop)
    have HT := HG
    go_cut [7] (fun bb wx => bb = .bool bell ∧ ∃ (E2 : Option Addr) (g2 : Nat), Kn w [.blk w2.heap.size [.int .i64 t.a.base, .slice B1 t.a.digits.length h1, .int .i64 t.b.base, .slice E2 es.length g2, .int .i64 t.s.base, .slice B3 t.s.digits.length h3, .int .i64 t.carry] 32, rowI E2 g2 es, rowI B3 h3 t.s.digits, rowI B2 h2 t.b.digits, rowI B1 h1 t.a.digits, .blk (w.heap.size + 1) [.int .i64 0, .slice none 0 0, .int .i64 0, .slice none 0 0, .int .i64 0, .slice none 0 0, .int .i64 0] 32, .blk w.heap.size [.int .i64 t.a.base, .slice A1 t.a.digits.length c1, .int .i64 t.b.base, .slice A2 t.b.digits.length c2, .int .i64 t.s.base, .slice A3 t.s.digits.length c3, .int .i64 t.carry] 32] wx)
    case first =>
      go_region_held3 (fun W => W.cell? ⟨w.heap.size, 0, none⟩ = some (.int .i64 t.a.base) ∧ W.cell? ⟨w.heap.size, 1, none⟩ = some (.slice A1 t.a.digits.length c1) ∧ W.cell? ⟨w.heap.size, 2, none⟩ = some (.int .i64 t.b.base) ∧ W.cell? ⟨w.heap.size, 3, none⟩ = some (.slice A2 t.b.digits.length c2) ∧ W.cell? ⟨w.heap.size, 4, none⟩ = some (.int .i64 t.s.base) ∧ W.cell? ⟨w.heap.size, 5, none⟩ = some (.slice A3 t.s.digits.length c3) ∧ W.cell? ⟨w.heap.size, 6, none⟩ = some (.int .i64 t.carry))
        (first | with_reducible exact HG.out | with_reducible exact HT.out | exact HG.out | exact HT.out) (first
        | (go_at_call 173; (with_reducible refine (KV.out _ hK4.drew.below).mono ?_); rintro e w5 ⟨rfl, hw⟩; have hK5 := hK4.drew.keep hw; clear HG; have HG := Lib.hid (box7 hK5.drop.drop.drop.drop.drop))
        | (go_at_call 172; (first | (rw [HW1.out]; rw [HW2.out]) | rw [HW2.out]); (with_reducible refine (KS2.out _ hK5.below).mono ?_); rintro e w6 ⟨E2, g2, rfl, hK⟩; have hK6 := hK5.join hK; clear HG; have HG := Lib.hid (box7 hK6.drop.drop.drop.drop.drop.drop); have hK7 := (hK6.sw1.st 2 (.int .i64 t.b.base)).st 3 (.slice E2 es.length g2); have HT := Lib.hid (box7 hK7.drop.drop.drop.drop.drop.drop); obtain ⟨q1, q2, q3⟩ := hK6.drop.blkAt))
      all_goals
        go_wp2_with fail
        go_meet
        exact ⟨rfl, _, _, hK7⟩
    case rest =>
      obtain ⟨rfl, E2, g2, hK5⟩ := hcut
      clear HG HT x1 x2 x3 a1 a2 a3 d1 d2 d3 hK4 KV KS2
      obtain ⟨x1, x2, x3, a1, a2, a3, d1, d2, d3, -⟩ := hK5.cells
      go_wp2_with fail
      rw [show U = Y by rw [← HYY.out]; omega]
      refine (KS3.out _ hK5.below).mono ?_; rintro e w6 ⟨E3, g3, rfl, hK⟩
      have hK6 := hK5.join hK
      clear x1 x2 x3 a1 a2 a3 d1 d2 d3 hK5
      obtain ⟨x1, x2, x3, a1, a2, a3, d1, d2, d3, -⟩ := hK6.cells
      go_upto_region 22 with fail
      refine Code.wp.kn ((hK6.sw1.st 4 (.int .i64 t.s.base)).st 5 (.slice E3 fs.length g3)) ?_; intro w5 hK5
      clear x1 x2 x3 a1 a2 a3 d1 d2 d3
      obtain ⟨x1, x2, x3, a1, a2, a3, d1, d2, d3, -⟩ := hK5.cells
      go_wp2_with fail
      refine bodyPost.kn ((((((((hK5.front 6 rfl).st 0 (.int .i64 t.a.base)).st 1 (.slice B1 t.a.digits.length h1)).st 2 (.int .i64 t.b.base)).st 3 (.slice E2 es.length g2)).st 4 (.int .i64 t.s.base)).st 5 (.slice E3 fs.length g3)).st 6 (.int .i64 t.carry)) ?_; intro w6 hK6
      clear x1 x2 x3 a1 a2 a3 d1 d2 d3 hK5
      obtain ⟨a1, a2, a3, -⟩ := hK6.cells
      refine bodyPost_ret (v := .tuple #[.agg #[.int .i64 t.a.base, .slice B1 t.a.digits.length h1, .int .i64 t.b.base, .slice E2 es.length g2, .int .i64 t.s.base, .slice E3 fs.length g3, .int .i64 t.carry], .bool bell]) (by simp [results, Tryz.results131, go_sem, a1]) rfl ⟨B1, h1, E2, g2, E3, g3, by rw [HS.out], ?_⟩
      rw [HS.out]
      exact hK6.sel [2, 3, 6] 99 (by decide) (by decide)
  · subst hk
    have hT : strokeT 2 t = turnT t (-1) := by unfold strokeT; simp
    have KV := (fun W (hW : Below w.heap.size w W) => value_any t.a.base A1 t.a.digits.length c1 t.a.digits W b1 b2 hd1 (r1.below hW) n2)
    have hTT : turnT t (-1) = (⟨t.a, ⟨t.b.base, shiftD t.b.base t.b.digits ((-1) * (valL t.a.base t.a.digits * pw t.b.base t.carry.toNat))⟩, ⟨t.s.base, shiftD t.s.base t.s.digits ((-1) * pw t.b.base t.carry.toNat)⟩, t.carry⟩, shiftB t.b.base t.b.digits ((-1) * (valL t.a.base t.a.digits * pw t.b.base t.carry.toNat))) := rfl
    rw [HU.out] at hTT
    obtain ⟨V, hV⟩ : ∃ V, valL t.a.base t.a.digits = V := ⟨_, rfl⟩
    rw [hV] at KV hTT u3 u4
    obtain ⟨X, hX⟩ : ∃ X, (-1) * (V * U) = X := ⟨_, rfl⟩
    obtain ⟨Y, hY⟩ : ∃ Y, (-1) * U = Y := ⟨_, rfl⟩
    rw [hX, hY] at hTT
    have hXb : -1000000000001 ≤ X ∧ X ≤ 1000000000001 := by omega
    have hYb : -1000000000001 ≤ Y ∧ Y ≤ 1000000000001 := by omega
    have hV1 : 0 ≤ V := by
      have := (valL_bd t.a.base b1 t.a.digits (fun d h => (hd1 d h).1)).1
      omega
    have hV2 : V ≤ 1000000000001 := by
      have := Int.mul_le_mul_of_nonneg_left (show 1 ≤ U from u1) hV1
      rw [Int.mul_one] at this
      omega
    have KS2 := (fun W (hW : Below w.heap.size w W) => shifted_any t.b.base A2 c2 t.b.digits X W (r2.below hW) k2 f1 hXb.1 hXb.2)
    have KS3 := (fun W (hW : Below w.heap.size w W) => shifted_any t.s.base A3 c3 t.s.digits Y W (r3.below hW) k3 f2 hYb.1 hYb.2)
    obtain ⟨es, hes⟩ : ∃ es, shiftD t.b.base t.b.digits X = es := ⟨_, rfl⟩
    obtain ⟨fs, hfs⟩ : ∃ fs, shiftD t.s.base t.s.digits Y = fs := ⟨_, rfl⟩
    obtain ⟨bell, hbl⟩ : ∃ e, shiftB t.b.base t.b.digits X = e := ⟨_, rfl⟩
    obtain ⟨bell2, hbl2⟩ : ∃ e, shiftB t.s.base t.s.digits Y = e := ⟨_, rfl⟩
    rw [hes, hbl] at KS2
    rw [hfs, hbl2] at KS3
    rw [hes, hfs, hbl] at hTT
    have HS := Lib.hid (hT.trans hTT)
    have KV := Lib.hid KV
    have KS2 := Lib.hid KS2
    have KS3 := Lib.hid KS3
    have HYY := Lib.hid hY
    have HW1 := Lib.hid (show IntKind.i64.wrap (-V) = -V from wrapI64 (by omega))
    have HW2 := Lib.hid (show IntKind.i64.wrap (-V * U) = X by rw [← hX, Int.neg_one_mul, Int.neg_mul]; exact wrapI64 (by omega))
    clear hT hTT hV hX hY hes hfs hbl hbl2 hd1 hd2 hd3 r1 r2 r3 k1 k2 k3 KC KP f1 f2 l1 p0 p1
    go_wp2_with fail
    have HG := Lib.hid (box7 hK4.drew.drop.drop.drop.drop.drop)
    have HT := HG
    go_cut [7] (fun bb wx => bb = .bool bell ∧ ∃ (E2 : Option Addr) (g2 : Nat), Kn w [.blk w2.heap.size [.int .i64 t.a.base, .slice B1 t.a.digits.length h1, .int .i64 t.b.base, .slice E2 es.length g2, .int .i64 t.s.base, .slice B3 t.s.digits.length h3, .int .i64 t.carry] 32, rowI E2 g2 es, rowI B3 h3 t.s.digits, rowI B2 h2 t.b.digits, rowI B1 h1 t.a.digits, .blk (w.heap.size + 1) [.int .i64 0, .slice none 0 0, .int .i64 0, .slice none 0 0, .int .i64 0, .slice none 0 0, .int .i64 0] 32, .blk w.heap.size [.int .i64 t.a.base, .slice A1 t.a.digits.length c1, .int .i64 t.b.base, .slice A2 t.b.digits.length c2, .int .i64 t.s.base, .slice A3 t.s.digits.length c3, .int .i64 t.carry] 32] wx)
    case first =>
      go_region_held3 (fun W => W.cell? ⟨w.heap.size, 0, none⟩ = some (.int .i64 t.a.base) ∧ W.cell? ⟨w.heap.size, 1, none⟩ = some (.slice A1 t.a.digits.length c1) ∧ W.cell? ⟨w.heap.size, 2, none⟩ = some (.int .i64 t.b.base) ∧ W.cell? ⟨w.heap.size, 3, none⟩ = some (.slice A2 t.b.digits.length c2) ∧ W.cell? ⟨w.heap.size, 4, none⟩ = some (.int .i64 t.s.base) ∧ W.cell? ⟨w.heap.size, 5, none⟩ = some (.slice A3 t.s.digits.length c3) ∧ W.cell? ⟨w.heap.size, 6, none⟩ = some (.int .i64 t.carry))
        (first | with_reducible exact HG.out | with_reducible exact HT.out | exact HG.out | exact HT.out) (first
        | (go_at_call 173; (with_reducible refine (KV.out _ hK4.drew.below).mono ?_); rintro e w5 ⟨rfl, hw⟩; have hK5 := hK4.drew.keep hw; clear HG; have HG := Lib.hid (box7 hK5.drop.drop.drop.drop.drop))
        | (go_at_call 172; (first | (rw [HW1.out]; rw [HW2.out]) | rw [HW2.out]); (with_reducible refine (KS2.out _ hK5.below).mono ?_); rintro e w6 ⟨E2, g2, rfl, hK⟩; have hK6 := hK5.join hK; clear HG; have HG := Lib.hid (box7 hK6.drop.drop.drop.drop.drop.drop); have hK7 := (hK6.sw1.st 2 (.int .i64 t.b.base)).st 3 (.slice E2 es.length g2); have HT := Lib.hid (box7 hK7.drop.drop.drop.drop.drop.drop); obtain ⟨q1, q2, q3⟩ := hK6.drop.blkAt))
      all_goals
        go_wp2_with fail
        go_meet
        exact ⟨rfl, _, _, hK7⟩
    case rest =>
      obtain ⟨rfl, E2, g2, hK5⟩ := hcut
      clear HG HT x1 x2 x3 a1 a2 a3 d1 d2 d3 hK4 KV KS2
      obtain ⟨x1, x2, x3, a1, a2, a3, d1, d2, d3, -⟩ := hK5.cells
      go_wp2_with fail
      rw [show -U = Y by rw [← HYY.out]; omega]
      refine (KS3.out _ hK5.below).mono ?_; rintro e w6 ⟨E3, g3, rfl, hK⟩
      have hK6 := hK5.join hK
      clear x1 x2 x3 a1 a2 a3 d1 d2 d3 hK5
      obtain ⟨x1, x2, x3, a1, a2, a3, d1, d2, d3, -⟩ := hK6.cells
      go_upto_region 22 with fail
      refine Code.wp.kn ((hK6.sw1.st 4 (.int .i64 t.s.base)).st 5 (.slice E3 fs.length g3)) ?_; intro w5 hK5
      clear x1 x2 x3 a1 a2 a3 d1 d2 d3
      obtain ⟨x1, x2, x3, a1, a2, a3, d1, d2, d3, -⟩ := hK5.cells
      go_wp2_with fail
      refine bodyPost.kn ((((((((hK5.front 6 rfl).st 0 (.int .i64 t.a.base)).st 1 (.slice B1 t.a.digits.length h1)).st 2 (.int .i64 t.b.base)).st 3 (.slice E2 es.length g2)).st 4 (.int .i64 t.s.base)).st 5 (.slice E3 fs.length g3)).st 6 (.int .i64 t.carry)) ?_; intro w6 hK6
      clear x1 x2 x3 a1 a2 a3 d1 d2 d3 hK5
      obtain ⟨a1, a2, a3, -⟩ := hK6.cells
      refine bodyPost_ret (v := .tuple #[.agg #[.int .i64 t.a.base, .slice B1 t.a.digits.length h1, .int .i64 t.b.base, .slice E2 es.length g2, .int .i64 t.s.base, .slice E3 fs.length g3, .int .i64 t.carry], .bool bell]) (by simp [results, Tryz.results131, go_sem, a1]) rfl ⟨B1, h1, E2, g2, E3, g3, by rw [HS.out], ?_⟩
      rw [HS.out]
      exact hK6.sel [2, 3, 6] 99 (by decide) (by decide)
  · subst hk
    have KL := Lib.hid (fun W (hW : Below w.heap.size w W) => places_any t A1 A2 A3 c1 c2 c3 W (r1.below hW) (r2.below hW) (r3.below hW) n2 n4 n6)
    have hvp : vplaces t ≤ 16 := by unfold vplaces; omega
    have hwr := wrapI64 (n := t.carry + 1) (by omega)
    have hc4 : -9223372036854775808 ≤ t.carry + 1 ∧ t.carry + 1 ≤ 9223372036854775807 := by omega
    have hS1 : ¬ t.carry + 1 = vplaces t → strokeT 3 t = ({ t with carry := t.carry + 1 }, false) := fun h => by unfold strokeT; simp [h]
    have hS2 : t.carry + 1 = vplaces t → strokeT 3 t = (t, true) := fun h => by unfold strokeT; simp [h]
    obtain ⟨PL, hPL⟩ : ∃ p, vplaces t = p := ⟨_, rfl⟩
    rw [hPL] at KL hS1 hS2
    have HS1 := Lib.hid hS1
    have HS2 := Lib.hid hS2
    clear hS1 hS2 hPL hvp r1 r2 r3 KC KP u1 u2 u3 u4 f1 f2 l1 p0 p1
    go_wp2_with fail
    have HG := Lib.hid (box7 hK4.drew.drop.drop.drop.drop.drop)
    go_cut [7] (fun bb wx => bb = .bool (t.carry + 1 == PL) ∧ Kn w [.blk w2.heap.size [.int .i64 t.a.base, .slice B1 t.a.digits.length h1, .int .i64 t.b.base, .slice B2 t.b.digits.length h2, .int .i64 t.s.base, .slice B3 t.s.digits.length h3, .int .i64 t.carry] 32, rowI B3 h3 t.s.digits, rowI B2 h2 t.b.digits, rowI B1 h1 t.a.digits, .blk (w.heap.size + 1) [.int .i64 0, .slice none 0 0, .int .i64 0, .slice none 0 0, .int .i64 0, .slice none 0 0, .int .i64 0] 32, .blk w.heap.size [.int .i64 t.a.base, .slice A1 t.a.digits.length c1, .int .i64 t.b.base, .slice A2 t.b.digits.length c2, .int .i64 t.s.base, .slice A3 t.s.digits.length c3, .int .i64 t.carry] 32] wx)
    case first =>
      go_region_held3 (fun W => W.cell? ⟨w.heap.size, 0, none⟩ = some (.int .i64 t.a.base) ∧ W.cell? ⟨w.heap.size, 1, none⟩ = some (.slice A1 t.a.digits.length c1) ∧ W.cell? ⟨w.heap.size, 2, none⟩ = some (.int .i64 t.b.base) ∧ W.cell? ⟨w.heap.size, 3, none⟩ = some (.slice A2 t.b.digits.length c2) ∧ W.cell? ⟨w.heap.size, 4, none⟩ = some (.int .i64 t.s.base) ∧ W.cell? ⟨w.heap.size, 5, none⟩ = some (.slice A3 t.s.digits.length c3) ∧ W.cell? ⟨w.heap.size, 6, none⟩ = some (.int .i64 t.carry))
        (first | with_reducible exact HG.out | exact HG.out) (first
        | (go_at_call 174; (with_reducible refine (KL.out _ hK4.drew.below).mono ?_); rintro e w5 ⟨rfl, hw⟩; have hK5 := hK4.drew.keep hw; clear HG; have HG := Lib.hid (box7 hK5.drop.drop.drop.drop.drop)))
      all_goals
        go_wp2_with fail
        go_meet
        exact ⟨by first | rfl | rw [hwr], hK5⟩
    case rest =>
      obtain ⟨rfl, hK7⟩ := hcut
      clear HG x1 x2 x3 a1 a2 a3 d1 d2 d3 hK4 KL
      obtain ⟨x1, x2, x3, a1, a2, a3, d1, d2, d3, -⟩ := hK7.cells
      rcases hc0 : (t.carry + 1 == PL) with _ | _
      · have HS := Lib.hid (HS1.out (by simpa using hc0))
        clear hc0
        go_upto_region 22 with fail
        refine Code.wp.kn (hK7.st 6 (.int .i64 (t.carry + 1))) ?_; intro w5 hK5
        clear hK7
        clear x1 x2 x3 a1 a2 a3 d1 d2 d3
        obtain ⟨x1, x2, x3, a1, a2, a3, d1, d2, d3, -⟩ := hK5.cells
        go_wp2_with fail
        refine bodyPost.kn ((((((((hK5.front 4 rfl).st 0 (.int .i64 t.a.base)).st 1 (.slice B1 t.a.digits.length h1)).st 2 (.int .i64 t.b.base)).st 3 (.slice B2 t.b.digits.length h2)).st 4 (.int .i64 t.s.base)).st 5 (.slice B3 t.s.digits.length h3)).st 6 (.int .i64 (t.carry + 1))) ?_; intro w6 hK6
        clear x1 x2 x3 a1 a2 a3 d1 d2 d3 hK5
        obtain ⟨a1, a2, a3, -⟩ := hK6.cells
        refine bodyPost_ret (v := .tuple #[.agg #[.int .i64 t.a.base, .slice B1 t.a.digits.length h1, .int .i64 t.b.base, .slice B2 t.b.digits.length h2, .int .i64 t.s.base, .slice B3 t.s.digits.length h3, .int .i64 (t.carry + 1)], .bool false]) (by simp [results, Tryz.results131, go_sem, a1]) rfl ⟨B1, h1, B2, h2, B3, h3, by rw [HS.out], ?_⟩
        rw [HS.out]
        exact hK6.sel [2, 3, 4] 99 (by decide) (by decide)
      · have HS := Lib.hid (HS2.out (by simpa using hc0))
        clear hc0
        go_upto_region 22 with fail
        refine Code.wp.kn hK7 ?_; intro w5 hK5
        clear hK7
        clear x1 x2 x3 a1 a2 a3 d1 d2 d3
        obtain ⟨x1, x2, x3, a1, a2, a3, d1, d2, d3, -⟩ := hK5.cells
        go_wp2_with fail
        refine bodyPost.kn ((((((((hK5.front 4 rfl).st 0 (.int .i64 t.a.base)).st 1 (.slice B1 t.a.digits.length h1)).st 2 (.int .i64 t.b.base)).st 3 (.slice B2 t.b.digits.length h2)).st 4 (.int .i64 t.s.base)).st 5 (.slice B3 t.s.digits.length h3)).st 6 (.int .i64 t.carry)) ?_; intro w6 hK6
        clear x1 x2 x3 a1 a2 a3 d1 d2 d3 hK5
        obtain ⟨a1, a2, a3, -⟩ := hK6.cells
        refine bodyPost_ret (v := .tuple #[.agg #[.int .i64 t.a.base, .slice B1 t.a.digits.length h1, .int .i64 t.b.base, .slice B2 t.b.digits.length h2, .int .i64 t.s.base, .slice B3 t.s.digits.length h3, .int .i64 t.carry], .bool true]) (by simp [results, Tryz.results131, go_sem, a1]) rfl ⟨B1, h1, B2, h2, B3, h3, by rw [HS.out], ?_⟩
        rw [HS.out]
        exact hK6.sel [2, 3, 4] 99 (by decide) (by decide)
  · subst hk
    rcases hc0 : decide (t.carry = 0) with _ | _
    · have hc1 := of_decide_eq_false hc0
      have hc2 : (t.carry == 0) = false := by simp; exact hc1
      have hc3 : -9223372036854775808 ≤ t.carry - 1 ∧ t.carry - 1 ≤ 9223372036854775807 := by unfold vplaces at p1; omega
      have HC := Lib.hid hc1
      clear hc0 hc1 u1 u2 u3 u4 f1 f2 l1 p0 p1 KC KP
      go_upto_region 22 with fail
      refine Code.wp.kn (hK4.st 6 (.int .i64 (t.carry - 1))) ?_; intro w5 hK5
      have hS : strokeT 4 t = ({ t with carry := t.carry - 1 }, false) := by unfold strokeT; simp [HC.out]
      have HS := Lib.hid hS
      clear hS hK4
      clear x1 x2 x3 a1 a2 a3 d1 d2 d3
      obtain ⟨x1, x2, x3, a1, a2, a3, d1, d2, d3, -⟩ := hK5.cells
      go_wp2_with fail
      refine bodyPost.kn ((((((((hK5.front 4 rfl).st 0 (.int .i64 t.a.base)).st 1 (.slice B1 t.a.digits.length h1)).st 2 (.int .i64 t.b.base)).st 3 (.slice B2 t.b.digits.length h2)).st 4 (.int .i64 t.s.base)).st 5 (.slice B3 t.s.digits.length h3)).st 6 (.int .i64 (t.carry - 1))) ?_; intro w6 hK6
      clear x1 x2 x3 a1 a2 a3 d1 d2 d3 hK5
      obtain ⟨a1, a2, a3, -⟩ := hK6.cells
      refine bodyPost_ret (v := .tuple #[.agg #[.int .i64 t.a.base, .slice B1 t.a.digits.length h1, .int .i64 t.b.base, .slice B2 t.b.digits.length h2, .int .i64 t.s.base, .slice B3 t.s.digits.length h3, .int .i64 (t.carry - 1)], .bool false]) (by simp [results, Tryz.results131, go_sem, a1]) rfl ⟨B1, h1, B2, h2, B3, h3, by rw [HS.out], ?_⟩
      rw [HS.out]
      exact hK6.sel [2, 3, 4] 99 (by decide) (by decide)
    · have hc1 := of_decide_eq_true hc0
      have HC := Lib.hid hc1
      have hc2 : (t.carry == 0) = true := by simp; exact hc1
      clear hc0 hc1 u1 u2 u3 u4 f1 f2 l1 p0 p1 KC KP
      go_upto_region 22 with fail
      refine Code.wp.kn hK4 ?_; intro w5 hK5
      have hS : strokeT 4 t = (t, true) := by unfold strokeT; simp [HC.out]
      have HS := Lib.hid hS
      clear hS hK4
      clear x1 x2 x3 a1 a2 a3 d1 d2 d3
      obtain ⟨x1, x2, x3, a1, a2, a3, d1, d2, d3, -⟩ := hK5.cells
      go_wp2_with fail
      refine bodyPost.kn ((((((((hK5.front 4 rfl).st 0 (.int .i64 t.a.base)).st 1 (.slice B1 t.a.digits.length h1)).st 2 (.int .i64 t.b.base)).st 3 (.slice B2 t.b.digits.length h2)).st 4 (.int .i64 t.s.base)).st 5 (.slice B3 t.s.digits.length h3)).st 6 (.int .i64 t.carry)) ?_; intro w6 hK6
      clear x1 x2 x3 a1 a2 a3 d1 d2 d3 hK5
      obtain ⟨a1, a2, a3, -⟩ := hK6.cells
      refine bodyPost_ret (v := .tuple #[.agg #[.int .i64 t.a.base, .slice B1 t.a.digits.length h1, .int .i64 t.b.base, .slice B2 t.b.digits.length h2, .int .i64 t.s.base, .slice B3 t.s.digits.length h3, .int .i64 t.carry], .bool true]) (by simp [results, Tryz.results131, go_sem, a1]) rfl ⟨B1, h1, B2, h2, B3, h3, by rw [HS.out], ?_⟩
      rw [HS.out]
      exact hK6.sel [2, 3, 4] 99 (by decide) (by decide)
  · subst hk
    have KW2 := (fun W => withValue_any t.b.base A2 t.b.digits.length c2 0 W b3 b4 (by omega) (by decide) (by decide))
    have KW3 := (fun W => withValue_any t.s.base A3 t.s.digits.length c3 0 W b5 b6 (by omega) (by decide) (by decide))
    have hS : strokeT 5 t = (⟨t.a, ⟨t.b.base, digD t.b.base t.b.digits.length 0⟩, ⟨t.s.base, digD t.s.base t.s.digits.length 0⟩, t.carry⟩, false) := by unfold strokeT; simp
    obtain ⟨es, hes⟩ : ∃ es, digD t.b.base t.b.digits.length 0 = es := ⟨_, rfl⟩
    obtain ⟨fs, hfs⟩ : ∃ fs, digD t.s.base t.s.digits.length 0 = fs := ⟨_, rfl⟩
    rw [hes] at KW2
    rw [hfs] at KW3
    rw [hes, hfs] at hS
    have KW2 := Lib.hid KW2
    have KW3 := Lib.hid KW3
    have HS := Lib.hid hS
    clear hS hes hfs r1 r2 r3 KC KP u1 u2 u3 u4 f1 f2 l1 p0 p1
    go_wp2_with fail
    have HG := Lib.hid (box7 hK4.drew.drop.drop.drop.drop.drop)
    have HT := HG
    have HT2 := HG
    go_region_held3 (fun W => W.cell? ⟨w.heap.size, 0, none⟩ = some (.int .i64 t.a.base) ∧ W.cell? ⟨w.heap.size, 1, none⟩ = some (.slice A1 t.a.digits.length c1) ∧ W.cell? ⟨w.heap.size, 2, none⟩ = some (.int .i64 t.b.base) ∧ W.cell? ⟨w.heap.size, 3, none⟩ = some (.slice A2 t.b.digits.length c2) ∧ W.cell? ⟨w.heap.size, 4, none⟩ = some (.int .i64 t.s.base) ∧ W.cell? ⟨w.heap.size, 5, none⟩ = some (.slice A3 t.s.digits.length c3) ∧ W.cell? ⟨w.heap.size, 6, none⟩ = some (.int .i64 t.carry))
      (first | with_reducible exact HG.out | with_reducible exact HT.out | with_reducible exact HT2.out | exact HG.out | exact HT.out | exact HT2.out) (first
      | (go_at_call 175; (with_reducible refine (KW2.out _).mono ?_); rintro e w5 ⟨E2, g2, rfl, hK⟩; have hK5 := hK4.drew.join hK; clear HG; have HG := Lib.hid (box7 hK5.drop.drop.drop.drop.drop.drop))
      | (go_at_call 175; (with_reducible refine (KW3.out _).mono ?_); rintro e w6 ⟨E3, g3, rfl, hK⟩; have hK6 := hK5.join hK; clear HG; have HG := Lib.hid (box7 hK6.drop.drop.drop.drop.drop.drop.drop); have hK7 := (hK6.sw2.st 2 (.int .i64 t.b.base)).st 3 (.slice E2 es.length g2); have HT := Lib.hid (box7 hK7.drop.drop.drop.drop.drop.drop.drop); have hK8 := (hK7.st 4 (.int .i64 t.s.base)).st 5 (.slice E3 fs.length g3); have HT2 := Lib.hid (box7 hK8.drop.drop.drop.drop.drop.drop.drop); obtain ⟨q1, q2, q3⟩ := hK6.drop.drop.blkAt))
    all_goals
      clear x1 x2 x3 a1 a2 a3 d1 d2 d3
      go_upto_region 22 with fail
      refine Code.wp.kn hK8 ?_; intro w5 hK5
      clear hK7 hK8 HG HT HT2 hK6 hK4
      obtain ⟨x1, x2, x3, a1, a2, a3, d1, d2, d3, -⟩ := hK5.cells
      clear x1 x2 x3 a1 a2 a3 d1 d2 d3
      obtain ⟨x1, x2, x3, a1, a2, a3, d1, d2, d3, -⟩ := hK5.cells
      go_wp2_with fail
      refine bodyPost.kn ((((((((hK5.front 6 rfl).st 0 (.int .i64 t.a.base)).st 1 (.slice B1 t.a.digits.length h1)).st 2 (.int .i64 t.b.base)).st 3 (.slice E2 es.length g2)).st 4 (.int .i64 t.s.base)).st 5 (.slice E3 fs.length g3)).st 6 (.int .i64 t.carry)) ?_; intro w6 hK6
      clear x1 x2 x3 a1 a2 a3 d1 d2 d3 hK5
      obtain ⟨a1, a2, a3, -⟩ := hK6.cells
      refine bodyPost_ret (v := .tuple #[.agg #[.int .i64 t.a.base, .slice B1 t.a.digits.length h1, .int .i64 t.b.base, .slice E2 es.length g2, .int .i64 t.s.base, .slice E3 fs.length g3, .int .i64 t.carry], .bool false]) (by simp [results, Tryz.results131, go_sem, a1]) rfl ⟨B1, h1, E2, g2, E3, g3, by rw [HS.out], ?_⟩
      rw [HS.out]
      exact hK6.sel [2, 3, 6] 99 (by decide) (by decide)
  · subst hk
    have KW2 := (fun W => withValue_any t.a.base A1 t.a.digits.length c1 0 W b1 b2 (by omega) (by decide) (by decide))
    have hS : strokeT 6 t = ({ t with a := ⟨t.a.base, digD t.a.base t.a.digits.length 0⟩ }, false) := by unfold strokeT; simp
    obtain ⟨es, hes⟩ : ∃ es, digD t.a.base t.a.digits.length 0 = es := ⟨_, rfl⟩
    rw [hes] at KW2 hS
    have KW2 := Lib.hid KW2
    have HS := Lib.hid hS
    clear hS hes r1 r2 r3 KC KP u1 u2 u3 u4 f1 f2 l1 p0 p1
    go_upto_region 22 with (go_at_call 175; (with_reducible refine (KW2.out _).mono ?_); rintro e w5 ⟨E2, g2, rfl, hK⟩; have hK6 := hK4.join hK; clear x1 x2 x3 a1 a2 a3 d1 d2 d3; obtain ⟨x1, x2, x3, a1, a2, a3, d1, d2, d3, -⟩ := hK6.cells)
    refine Code.wp.kn ((hK6.sw1.st 0 (.int .i64 t.a.base)).st 1 (.slice E2 es.length g2)) ?_; intro w5 hK5
    clear hK6 hK4
    clear x1 x2 x3 a1 a2 a3 d1 d2 d3
    obtain ⟨x1, x2, x3, a1, a2, a3, d1, d2, d3, -⟩ := hK5.cells
    go_wp2_with fail
    refine bodyPost.kn ((((((((hK5.front 5 rfl).st 0 (.int .i64 t.a.base)).st 1 (.slice E2 es.length g2)).st 2 (.int .i64 t.b.base)).st 3 (.slice B2 t.b.digits.length h2)).st 4 (.int .i64 t.s.base)).st 5 (.slice B3 t.s.digits.length h3)).st 6 (.int .i64 t.carry)) ?_; intro w6 hK6
    clear x1 x2 x3 a1 a2 a3 d1 d2 d3 hK5
    obtain ⟨a1, a2, a3, -⟩ := hK6.cells
    refine bodyPost_ret (v := .tuple #[.agg #[.int .i64 t.a.base, .slice E2 es.length g2, .int .i64 t.b.base, .slice B2 t.b.digits.length h2, .int .i64 t.s.base, .slice B3 t.s.digits.length h3, .int .i64 t.carry], .bool false]) (by simp [results, Tryz.results131, go_sem, a1]) rfl ⟨E2, g2, B2, h2, B3, h3, by rw [HS.out], ?_⟩
    rw [HS.out]
    exact hK6.sel [3, 4, 2] 99 (by decide) (by decide)
end Go.Proofs.YtmmiahgmdllgdaaGreatDoor

namespace Go.Proofs.YtmmiahgmdllgdaaGreatDoor
open Go.RowKit Go.Sort
theorem RegAt.below {w w' : World} {p : Addr} {b : Int} {A : Option Addr} {n c : Nat} (h : RegAt w p b A n c) (hb : Below w.heap.size w w') : RegAt w' p b A n c := by
  have hp : p.block < w.heap.size := World.block_lt_of_cell? w p h.1
  exact ⟨by rw [hb.cell hp]; exact h.1, by rw [hb.cell (by exact hp)]; exact h.2⟩
theorem l02Own_any (p : Addr) (b : Int) (A : Option Addr) (n c : Nat) (ds : List Int) (w : World) (hp : RegAt w p b A n c) (hr : RI w A n ds) (h0 : 0 < n) (hm : n ≤ 1000000) :
    Calls Tryz.prog 168 #[.pointer (some p)] w fun e w' => ∃ A' c', e = .returned (.agg #[.int .i64 b, .slice A' ds.length c']) ∧ Kn w [rowI A' c' ds] w' := by
  have KC := Lib.hid (fun W (hW : Below w.heap.size w W) => l00Own_any A n c ds W (hr.below hW) h0 hm)
  have hl := hr.1
  subst hl
  clear hr
  have HP := Lib.hid (fun W (hW : Below w.heap.size w W) => hp.below hW)
  go_enter Tryz.func168, Tryz.ntmps168
  go_wp2_with fail
  have hK2 := (Kn.nil w).al [.int .i64 0, .slice none 0 0] 30
  generalize w.alloc (.cells #[.int .i64 0, .slice none 0 0] 30) = w2 at hK2 ⊢
  have HG := Lib.hid (show _ ∧ _ from HP.out _ hK2.drew.below)
  go_region_held3 (fun W => W.cell? p = some (.int .i64 b) ∧ W.cell? ⟨p.block, p.off + 1, none⟩ = some (.slice A ds.length c))
    (first | with_reducible exact HG.out | with_reducible exact HS.out | exact HG.out) (first
    | (go_at_call 118; refine (KC.out _ hK2.drew.below).mono ?_; rintro e w4 ⟨A', c', rfl, hK⟩; have hK4 := hK2.drew.join hK; clear HG; have hq := HP.out _ hK4.below; have HG := Lib.hid (show _ ∧ _ from hq); obtain ⟨g1, f1, l1⟩ := hK4.drop.blkAt; have hK5 := (hK4.sw1.st 0 (.int .i64 b)).st 1 (.slice A' ds.length c'); have HS := Lib.hid (show _ ∧ _ from HP.out _ hK5.below)))
  all_goals
    go_wp2_with fail
    refine bodyPost_ret (v := .agg #[.int .i64 b, .slice A' ds.length c']) (by simp [results, Tryz.results168, go_sem, g1]) rfl ⟨A', c', rfl, ?_⟩
    exact hK5.drop
set_option maxRecDepth 100000 in
set_option maxHeartbeats 1600000 in
theorem l10Own_any (g : Nat) (t : Tri) (A1 A2 A3 : Option Addr) (c1 c2 c3 : Nat) (w : World) (hT : TriC w ⟨g, 0, none⟩ t A1 c1 A2 c2 A3 c3) (hz : Sized t) :
    Calls Tryz.prog 127 #[.pointer (some ⟨g, 0, none⟩)] w fun e w' => ∃ A1 c1 A2 c2 A3 c3, e = .returned (.agg #[.int .i64 t.a.base, .slice A1 t.a.digits.length c1, .int .i64 t.b.base, .slice A2 t.b.digits.length c2, .int .i64 t.s.base, .slice A3 t.s.digits.length c3, .int .i64 t.carry]) ∧ Kn w [rowI A3 c3 t.s.digits, rowI A2 c2 t.b.digits, rowI A1 c1 t.a.digits] w' := by
  obtain ⟨⟨q1, q2, q3, q4, q5, q6, q7⟩, r1, r2, r3⟩ := hT
  simp only [Nat.zero_add] at q1 q2 q3 q4 q5 q6 q7
  have hlt : g < w.heap.size := World.block_lt_of_cell? w _ q1
  have K1 := Lib.hid (fun W (hW : Below w.heap.size w W) => l02Own_any ⟨g, 0, none⟩ t.a.base A1 t.a.digits.length c1 t.a.digits W (RegAt.below ⟨q1, q2⟩ hW) (r1.below hW) hz.a0 (by have := hz.a; omega))
  have K2 := Lib.hid (fun W (hW : Below w.heap.size w W) => l02Own_any ⟨g, 2, none⟩ t.b.base A2 t.b.digits.length c2 t.b.digits W (RegAt.below ⟨q3, q4⟩ hW) (r2.below hW) hz.b0 (by have := hz.b; omega))
  have K3 := Lib.hid (fun W (hW : Below w.heap.size w W) => l02Own_any ⟨g, 4, none⟩ t.s.base A3 t.s.digits.length c3 t.s.digits W (RegAt.below ⟨q5, q6⟩ hW) (r3.below hW) hz.s0 (by have := hz.s; omega))
  have HP := Lib.hid (fun W (hW : Below w.heap.size w W) => (hW.cell (p := ⟨g, 6, none⟩) hlt).trans q7)
  clear q1 q2 q3 q4 q5 q6 q7 r1 r2 r3 hz
  go_enter Tryz.func127, Tryz.ntmps127
  go_wp2_with fail
  have hK2 := (Kn.nil w).al [.int .i64 0, .slice none 0 0, .int .i64 0, .slice none 0 0, .int .i64 0, .slice none 0 0, .int .i64 0] 32
  generalize w.alloc (.cells #[.int .i64 0, .slice none 0 0, .int .i64 0, .slice none 0 0, .int .i64 0, .slice none 0 0, .int .i64 0] 32) = w2 at hK2 ⊢
  have HG := Lib.hid (HP.out _ hK2.drew.below)
  go_region_held3 (fun W => W.cell? ⟨g, 6, none⟩ = some (.int .i64 t.carry))
    (first | with_reducible exact HG.out | with_reducible exact HS.out | exact HG.out) (first
    | (go_at_call 168; (with_reducible refine (K1.out _ hK2.drew.below).mono ?_); rintro e w4 ⟨B1, e1, rfl, hK⟩; have hK4 := hK2.drew.join hK; clear HG; have hq := HP.out _ hK4.below; have HG := Lib.hid hq)
    | (go_at_call 168; (with_reducible refine (K2.out _ hK4.below).mono ?_); rintro e w5 ⟨B2, e2, rfl, hK⟩; have hK5 := hK4.join hK; clear HG; have hq := HP.out _ hK5.below; have HG := Lib.hid hq)
    | (go_at_call 168; (with_reducible refine (K3.out _ hK5.below).mono ?_); rintro e w6 ⟨B3, e3, rfl, hK⟩; have hK6 := hK5.join hK; clear HG; have hq := HP.out _ hK6.below; have HG := Lib.hid hq; have hK7 := ((((((hK6.sw3.st 0 (.int .i64 t.a.base)).st 1 (.slice B1 t.a.digits.length e1)).st 2 (.int .i64 t.b.base)).st 3 (.slice B2 t.b.digits.length e2)).st 4 (.int .i64 t.s.base)).st 5 (.slice B3 t.s.digits.length e3)).st 6 (.int .i64 t.carry); have hq2 := HP.out _ hK7.below; have HS := Lib.hid hq2; obtain ⟨g1, f1, l1⟩ := hK6.drop.drop.drop.blkAt))
  all_goals
    go_wp2_with fail
    refine bodyPost_ret (v := .agg #[.int .i64 t.a.base, .slice B1 t.a.digits.length e1, .int .i64 t.b.base, .slice B2 t.b.digits.length e2, .int .i64 t.s.base, .slice B3 t.s.digits.length e3, .int .i64 t.carry]) (by simp [results, Tryz.results127, go_sem, g1]) rfl ⟨B1, e1, B2, e2, B3, e3, rfl, ?_⟩
    exact hK7.drop
end Go.Proofs.YtmmiahgmdllgdaaGreatDoor

namespace Go.Proofs.YtmmiahgmdllgdaaGreatDoor
open Go.RowKit Go.Sort
/-- the first k numbers are 0 -/
def zeroUpto (k : Nat) (ds : List Int) : List Int := List.replicate k 0 ++ ds.drop k
theorem zeroUpto_len {k : Nat} {ds : List Int} (h : k ≤ ds.length) : (zeroUpto k ds).length = ds.length := by simp [zeroUpto]; omega
theorem zeroUpto_step {k : Nat} {ds : List Int} (h : k < ds.length) : (zeroUpto k ds).set k 0 = zeroUpto (k + 1) ds := by
  unfold zeroUpto
  rw [List.set_append_right _ _ (by simp), List.drop_eq_getElem_cons h, List.replicate_succ', List.length_replicate, Nat.sub_self, List.set_cons_zero, List.append_assoc]
  rfl
theorem zeroUpto_all (ds : List Int) : zeroUpto ds.length ds = List.replicate ds.length 0 := by simp [zeroUpto]
set_option maxHeartbeats 800000 in
/-- digits of numbers that are owned are set to 0 -/
theorem l10ZeroK {w0 : World} {m : List Ent} {cs : List Value} {T : TypeId} {g o : Nat} (A : Option Addr) (c : Nat) (ds : List Int) (w : World) (hK : Kn w0 (rowI A c ds :: .blk g cs T :: m) w) (ho : cs[o + 1]? = some (.slice A ds.length c)) (h0 : 0 < ds.length) (hl : ds.length ≤ 1000000) :
    Calls Tryz.prog 187 #[.pointer (some ⟨g, o, none⟩)] w fun e w' => e = .returned (.tuple #[]) ∧ Kn w0 (rowI A c (List.replicate ds.length 0) :: .blk g cs T :: m) w' := by
  obtain ⟨r, c', hA⟩ := Kn.rowForm hK h0
  injection hA with hA hA2 hA3
  subst hA; subst hA3
  have HO := Lib.hid ho; clear ho
  go_enter Tryz.func187, Tryz.ntmps187
  go_wp2_with fail
  go_loopw [2] (fun ii wr => ∃ k : Nat, k ≤ ds.length ∧ ii = .int .i64 k ∧ Kn w0 (rowI (some ⟨r, 0, none⟩) c (zeroUpto k ds) :: .blk g cs T :: m) wr) (fun i _ => ds.length - (intOf i).toNat)
  case atStart => exact ⟨0, Nat.zero_le _, rfl, hK⟩
  case round =>
    clear hK
    obtain ⟨k, hk, rfl, hK⟩ := hrel
    have x1 := (hK.drop.blkAt.1 (o + 1)).trans HO.out
    by_cases hlt : k < ds.length
    · have hz := zeroUpto_step hlt
      have hlen := zeroUpto_len hk
      have hj : ∃ z : Value, ((zeroUpto k ds).map (Value.int .i64))[k]? = some z := ⟨_, by rw [List.getElem?_map, List.getElem?_eq_getElem (show k < (zeroUpto k ds).length by omega)]; rfl⟩
      obtain ⟨z, hj⟩ := hj
      obtain ⟨x2, x3⟩ := Kn.rowCell hK hj
      have HZ := Lib.hid hz
      clear hz hj hlen
      have hi1 : (k : Int) < (ds.length : Int) := by omega
      go_wp2_with fail
      go_roundw
      case rel => exact ⟨k + 1, by omega, by go_num, by rw [← HZ.out]; exact Kn.setI hK k 0⟩
      case measure => simp [intOf]; omega
    · have hi1 : ¬ (k : Int) < (ds.length : Int) := by omega
      obtain rfl : k = ds.length := by omega
      go_wp2_with fail
      go_end0
      exact ⟨rfl, by rw [← zeroUpto_all]; exact hK⟩
end Go.Proofs.YtmmiahgmdllgdaaGreatDoor

namespace Go.Proofs.YtmmiahgmdllgdaaGreatDoor
open Go.RowKit Go.Sort
theorem l10PlacesK {w0 : World} {m : List Ent} {rest : List Value} {T : TypeId} {g : Nat} (t : Tri) (A1 A2 A3 : Option Addr) (c1 c2 c3 : Nat) (w : World) (hK : Kn w0 (.blk g (.int .i64 t.a.base :: .slice A1 t.a.digits.length c1 :: .int .i64 t.b.base :: .slice A2 t.b.digits.length c2 :: .int .i64 t.s.base :: .slice A3 t.s.digits.length c3 :: .int .i64 t.carry :: rest) T :: m) w) (h1 : t.a.digits.length ≤ 16) (h2 : t.b.digits.length ≤ 16) (_h3 : t.s.digits.length ≤ 16) :
    Calls Tryz.prog 182 #[.pointer (some ⟨g, 0, none⟩)] w fun e w' => e = .returned (.int .i64 (vplaces t)) ∧ ∃ q, w' = w.drewN q := by
  obtain ⟨a1, a2, a3⟩ := hK.blkAt
  clear hK
  go_enter Tryz.func182, Tryz.ntmps182
  go_wp2_with fail
  go_quiet ((go_at_call 221; exact quiet_left (l00Min_any _ _ _)))
  go_wp2
  go_ret
  exact ⟨ret_int (by unfold vplaces; omega), _, rfl⟩
set_option maxHeartbeats 1600000 in
theorem l10ShiftK {w0 : World} {m : List Ent} {rest : List Value} {T : TypeId} {g : Nat} (t : Tri) (A1 A2 A3 : Option Addr) (c1 c2 c3 : Nat) (by_ : Int) (w : World) (hK : Kn w0 (.blk g (.int .i64 t.a.base :: .slice A1 t.a.digits.length c1 :: .int .i64 t.b.base :: .slice A2 t.b.digits.length c2 :: .int .i64 t.s.base :: .slice A3 t.s.digits.length c3 :: .int .i64 t.carry :: rest) T :: m) w) (hv : vmach t = true) (hb : by_ = 1 ∨ by_ = -1) :
    Calls Tryz.prog 186 #[.pointer (some ⟨g, 0, none⟩), .int .i64 by_] w fun e w' => 
      (betB (t.carry + by_) 0 (vplaces t - 1) = true → e = .returned (.bool false) ∧ Kn w0 (.blk g (.int .i64 t.a.base :: .slice A1 t.a.digits.length c1 :: .int .i64 t.b.base :: .slice A2 t.b.digits.length c2 :: .int .i64 t.s.base :: .slice A3 t.s.digits.length c3 :: .int .i64 (t.carry + by_) :: rest) T :: m) w') ∧ (betB (t.carry + by_) 0 (vplaces t - 1) = false → e = .returned (.bool true) ∧ Kn w0 (.blk g (.int .i64 t.a.base :: .slice A1 t.a.digits.length c1 :: .int .i64 t.b.base :: .slice A2 t.b.digits.length c2 :: .int .i64 t.s.base :: .slice A3 t.s.digits.length c3 :: .int .i64 t.carry :: rest) T :: m) w') := by
  obtain ⟨k1, k2, k3, e1, e2, f1, f2, l1, p0, p1⟩ := vmach_all hv
  obtain ⟨-, ⟨n1, n2⟩, -, -⟩ := vreg_iff.1 k1
  obtain ⟨-, ⟨n3, n4⟩, -, -⟩ := vreg_iff.1 k2
  obtain ⟨-, ⟨n5, n6⟩, -, -⟩ := vreg_iff.1 k3
  have hp1 : -16 ≤ vplaces t ∧ vplaces t ≤ 16 := by unfold vplaces; omega
  have KP := Lib.hid (fun W (h : Kn w0 (.blk g (.int .i64 t.a.base :: .slice A1 t.a.digits.length c1 :: .int .i64 t.b.base :: .slice A2 t.b.digits.length c2 :: .int .i64 t.s.base :: .slice A3 t.s.digits.length c3 :: .int .i64 t.carry :: rest) T :: m) W) => l10PlacesK t A1 A2 A3 c1 c2 c3 W h n2 n4 n6)
  have hw := wrapI64 (n := t.carry + by_) (by omega)
  have hw2 := wrapI64 (n := vplaces t - 1) (by omega)
  obtain ⟨P, hP⟩ : ∃ P, vplaces t = P := ⟨_, rfl⟩
  rw [hP] at KP hw2 hp1 p1 ⊢
  obtain ⟨a1, a2, a3⟩ := hK.blkAt
  clear k1 k2 k3 f1 f2 l1 n1 n2 n3 n4 n5 n6 hP e1 e2 hv
  rcases hbt : betB (t.carry + by_) 0 (P - 1) with _ | _
  · have KI := Lib.hid (fun W => calls_val (l00In_any (t.carry + by_) 0 (P - 1) W) (congrArg Value.bool hbt))
    clear hbt
    go_enter Tryz.func186, Tryz.ntmps186
    go_wp2_with fail
    go_quiet ((first | (go_at_call 182; first | exact quiet_of_ex (KP.out _ (hK.drewN _)) | exact quiet_add_ex (KP.out _ (hK.drewN _))) | (go_at_call 81; first | exact quiet_left (KI.out _) | exact quiet_add_left (KI.out _))))
    go_wp2_with fail
    go_ret
    exact ⟨(fun h => by cases h), fun _ => ⟨rfl, hK.drewN _⟩⟩
  · have KI := Lib.hid (fun W => calls_val (l00In_any (t.carry + by_) 0 (P - 1) W) (congrArg Value.bool hbt))
    clear hbt
    go_enter Tryz.func186, Tryz.ntmps186
    go_wp2_with fail
    go_quiet ((first | (go_at_call 182; first | exact quiet_of_ex (KP.out _ (hK.drewN _)) | exact quiet_add_ex (KP.out _ (hK.drewN _))) | (go_at_call 81; first | exact quiet_left (KI.out _) | exact quiet_add_left (KI.out _))))
    go_wp2_with fail
    go_ret
    exact ⟨fun _ => ⟨rfl, (hK.drewN _).st 6 _⟩, (fun h => by cases h)⟩
end Go.Proofs.YtmmiahgmdllgdaaGreatDoor

namespace Go.Proofs.YtmmiahgmdllgdaaGreatDoor
open Go.RowKit Go.Sort
set_option maxRecDepth 100000 in
set_option maxHeartbeats 1600000 in
theorem l10Move_any (p : Addr) (b : Int) (A : Option Addr) (c : Nat) (ds : List Int) (x : Int) (w : World) (hp : RegAt w p b A ds.length c) (hr : RI w A ds.length ds) (hv : vreg b ds = true) (hpw : pw b ds.length ≤ 1000000000001) (hx0 : -1000000000001 ≤ x) (hx1 : x ≤ 1000000000001) :
    Calls Tryz.prog 222 #[.pointer (some p), .int .i64 x] w fun e w' => ∃ A' c', e = .returned (.tuple #[.agg #[.int .i64 b, .slice A' (shiftD b ds x).length c'], .bool (shiftB b ds x)]) ∧ Kn w [rowI A' c' (shiftD b ds x)] w' := by
  obtain ⟨⟨b1, b2⟩, ⟨n1, n2⟩, hd, hl⟩ := vreg_iff.1 hv
  have hp1 := pw_pos b b1 ds.length
  have hv0 := (valL_bd b b1 ds (fun d h => (hd d h).1)).1
  have KN := (fun W => l10Power_any b ds.length W b1 b2 (by omega))
  have hpc : powS b ds.length = pw b ds.length := by unfold powS; omega
  rw [hpc] at KN
  have KV := (fun W (hW : Below w.heap.size w W) => l02Value_any b A ds.length c ds W b1 b2 hd (hr.below hW) n2)
  have hsd : shiftD b ds x = digD b ds.length (((valL b ds + x).tmod (pw b ds.length) + pw b ds.length).tmod (pw b ds.length)) := rfl
  have hsb : shiftB b ds x = (decide (valL b ds + x < 0) || decide (pw b ds.length ≤ valL b ds + x)) := rfl
  obtain ⟨N, hN⟩ : ∃ N, pw b ds.length = N := ⟨_, rfl⟩
  obtain ⟨V, hV⟩ : ∃ V, valL b ds = V := ⟨_, rfl⟩
  rw [hN] at KN hsd hsb hpw hp1
  rw [hV] at KV hsd hsb hv0 hl
  obtain ⟨S, hS⟩ : ∃ S, V + x = S := ⟨_, rfl⟩
  rw [hS] at hsd hsb
  have hSb : -1000000000001 ≤ S ∧ S ≤ 2000000000001 := by omega
  have hm1 : -N < S.tmod N ∧ S.tmod N < N := by
    have h1 := Int.tmod_lt_of_pos S (show 0 < N by omega)
    have h2 := Int.lt_tmod_of_pos S (show 0 < N by omega)
    omega
  have hm2 : 0 ≤ (S.tmod N + N).tmod N ∧ (S.tmod N + N).tmod N < N := ⟨Int.tmod_nonneg _ (by omega), Int.tmod_lt_of_pos _ (by omega)⟩
  have hwr : IntKind.i64.wrap (S.tmod N + N) = S.tmod N + N := wrapI64 (by omega)
  have hwn : IntKind.i64.wrap (N - 1) = N - 1 := wrapI64 (by omega)
  have nz1 : N ≠ 0 := by omega
  have nz2 : (N == 0) = false := by simp; omega
  have nz3 : ¬ N = 0 := by omega
  have KW := (fun W => l02NewV_any b ds.length ((S.tmod N + N).tmod N) W b1 b2 (by omega) hm2.1 (by omega))
  rw [← hsd] at KW
  obtain ⟨es, hes⟩ : ∃ es, shiftD b ds x = es := ⟨_, rfl⟩
  rw [hes] at KW ⊢
  obtain ⟨bell, hbl⟩ : ∃ e, shiftB b ds x = e := ⟨_, rfl⟩
  have HSB := Lib.hid (show (!betB S 0 (N - 1)) = bell by
    rw [← hbl, hsb]
    rcases hb : betB S 0 (N - 1) with _ | _
    · have := betB_false.1 hb
      simp; omega
    · have := betB_iff.1 hb
      simp; omega)
  rw [hbl]
  have KI := Lib.hid (fun W => l00In_any S 0 (N - 1) W)
  have KN := Lib.hid KN
  have KV := Lib.hid KV
  have KW := Lib.hid KW
  have hSe : IntKind.i64.wrap (V + x) = S := by rw [hS]; exact wrapI64 (by omega)
  have HSE := Lib.hid hS
  have hV2 : -9223372036854775808 ≤ V + x ∧ V + x ≤ 9223372036854775807 := by omega
  have HP := Lib.hid (fun W (hW : Below w.heap.size w W) => hp.below hW)
  clear hsd hsb hes hbl hr hv hd hl hpc hN hV hS hp hSe
  go_enter Tryz.func222, Tryz.ntmps222
  go_wp2_with (first
    | (refine wpList.kn ((Kn.nil w).al [.int .i64 0, .slice none 0 0] 30) ?_; intro w2 hK2; obtain ⟨x1, x2⟩ := HP.out _ hK2.below)
    | (go_at_call 183; refine (KN.out _).mono ?_; rintro e w' ⟨rfl, rfl⟩))
  go_quiet ((go_at_call 223; exact quiet_left (KV.out _ (hK2.drewN _).below)))
  clear x1 x2
  have hK3 := hK2.drewN nq
  generalize w2.drewN nq = w3 at hK3 ⊢
  rw [HSE.out]
  have hq := HP.out _ hK3.drew.below
  have HG := Lib.hid (show _ ∧ _ from hq)
  have hq0 := HP.out _ (hK3.al [.int .i64 0, .slice none 0 0] 30).drew.below
  have HA := Lib.hid (show _ ∧ _ from hq0)
  have HS := HG
  clear hq hq0
  go_wp2_with fail
  go_cut [9] (fun pp wx => ∃ (g : Nat) (A' : Option Addr) (c' : Nat), pp = .pointer (some ⟨g, 0, none⟩) ∧ Kn w [.blk g [.int .i64 b, .slice A' es.length c'] 30, rowI A' c' es, .blk w.heap.size [.int .i64 0, .slice none 0 0] 30] wx)
  case first =>
    go_region_held3 (fun W => W.cell? p = some (.int .i64 b) ∧ W.cell? ⟨p.block, p.off + 1, none⟩ = some (.slice A ds.length c))
      (first | with_reducible exact HG.out | with_reducible exact HA.out | with_reducible exact HS.out | exact HG.out | exact HA.out | exact HS.out) (first
      | (go_at_call 184; (with_reducible refine (KW.out _).mono ?_); rintro e w4 ⟨A', c', rfl, hK⟩; clear HG HA; first
        | (have hK4 := hK3.drew.join hK; have hq := HP.out _ hK4.below; have HG := Lib.hid (show _ ∧ _ from hq); have hq1 := HP.out _ (hK4.al [.int .i64 0, .slice none 0 0] 30).below; have HA := Lib.hid (show _ ∧ _ from hq1); have hK5 := hK4.al [.int .i64 b, .slice A' es.length c'] 30; have hq2 := HP.out _ hK5.below; have HS := Lib.hid (show _ ∧ _ from hq2))
        | (have hK4 := (hK3.al [.int .i64 0, .slice none 0 0] 30).drew.join hK; have hq := HP.out _ hK4.below; have HG := Lib.hid (show _ ∧ _ from hq); obtain ⟨g1, f1, l1⟩ := hK4.drop.blkAt; have HA := HG; have hK5 := (hK4.sw1.st 0 (.int .i64 b)).st 1 (.slice A' es.length c'); have hq2 := HP.out _ hK5.below; have HS := Lib.hid (show _ ∧ _ from hq2))))
    all_goals
      go_wp2_with fail
      go_meet
      exact ⟨_, _, _, rfl, hK5⟩
  case rest =>
    obtain ⟨g, A', c', rfl, hK5⟩ := hcut
    clear HG HA HS KN KV KW hK2 hK3
    obtain ⟨a1, a2, a3, d1, d2, d3, -⟩ := hK5.cells
    go_wp2_with fail
    have HG := Lib.hid (box2 hK5.drew)
    have hK6 := ((hK5.sw2.st 0 (.int .i64 b)).st 1 (.slice A' es.length c')).drew
    have HS := Lib.hid (box2 hK6.drop)
    go_region_held3 (fun W => W.cell? ⟨g, 0, none⟩ = some (.int .i64 b) ∧ W.cell? ⟨g, 1, none⟩ = some (.slice A' es.length c'))
      (first | with_reducible exact HG.out | with_reducible exact HS.out | exact HG.out) (first
      | (go_at_call 81; (with_reducible refine (KI.out _).mono ?_); rintro e w7 ⟨rfl, rfl⟩))
    all_goals
      go_wp2_with fail
      refine bodyPost_ret (v := .tuple #[.agg #[.int .i64 b, .slice A' es.length c'], .bool bell]) (by simp [results, Tryz.results222, go_sem, d1]; first | exact HSB.out | (have := HSB.out; simp_all)) rfl ⟨A', c', rfl, ?_⟩
      exact hK6.drop.drop
end Go.Proofs.YtmmiahgmdllgdaaGreatDoor

namespace Go.Proofs.YtmmiahgmdllgdaaGreatDoor
open Go.RowKit Go.Sort
/-- the machine in block g, and its numbers -/
def MB (w0 : World) (g : Nat) (rest : List Value) (T : TypeId) (k : Tri) (m : List Ent) (w : World) : Prop := ∃ B1 d1 B2 d2 B3 d3, Kn w0 (.blk g (.int .i64 k.a.base :: .slice B1 k.a.digits.length d1 :: .int .i64 k.b.base :: .slice B2 k.b.digits.length d2 :: .int .i64 k.s.base :: .slice B3 k.s.digits.length d3 :: .int .i64 k.carry :: rest) T :: rowI B3 d3 k.s.digits :: rowI B2 d2 k.b.digits :: rowI B1 d1 k.a.digits :: m) w
set_option maxRecDepth 100000 in
set_option maxHeartbeats 1600000 in
theorem l10TurnK {w0 : World} {m : List Ent} {rest : List Value} {T : TypeId} {g : Nat} (t : Tri) (sign : Int) (w : World) (hM : MB w0 g rest T t m w) (hv : vmach t = true) (hs : sign = 1 ∨ sign = -1) :
    Calls Tryz.prog 185 #[.pointer (some ⟨g, 0, none⟩), .int .i64 sign] w fun e w' => e = .returned (.bool (turnT t sign).2) ∧ MB w0 g rest T (turnT t sign).1 m w' := by
  obtain ⟨A1, c1, A2, c2, A3, c3, hK⟩ := hM
  obtain ⟨k1, k2, k3, e1, e2, f1, f2, l1, p0, p1⟩ := vmach_all hv
  obtain ⟨u1, u2, u3, u4⟩ := turn_bd hv
  obtain ⟨⟨b1, b2⟩, ⟨n1, n2⟩, hd1, -⟩ := vreg_iff.1 k1
  obtain ⟨⟨b3, b4⟩, ⟨n3, n4⟩, hd2, -⟩ := vreg_iff.1 k2
  obtain ⟨⟨b5, b6⟩, ⟨n5, n6⟩, hd3, -⟩ := vreg_iff.1 k3
  have HT := Lib.hid (show turnT t sign = (⟨t.a, ⟨t.b.base, shiftD t.b.base t.b.digits (sign * (valL t.a.base t.a.digits * pw t.b.base t.carry.toNat))⟩, ⟨t.s.base, shiftD t.s.base t.s.digits (sign * pw t.b.base t.carry.toNat)⟩, t.carry⟩, shiftB t.b.base t.b.digits (sign * (valL t.a.base t.a.digits * pw t.b.base t.carry.toNat))) from rfl)
  have KP := (fun W => l10Power_any t.a.base t.carry.toNat W b1 b2 (by unfold vplaces at p1; omega))
  have hpc : powS t.a.base t.carry.toNat = pw t.b.base t.carry.toNat := by rw [e1]; unfold powS; omega
  rw [hpc, show ((t.carry.toNat : Nat) : Int) = t.carry by omega] at KP
  have KV := (fun W (hW : Kn w0 (.blk g (.int .i64 t.a.base :: .slice A1 t.a.digits.length c1 :: .int .i64 t.b.base :: .slice A2 t.b.digits.length c2 :: .int .i64 t.s.base :: .slice A3 t.s.digits.length c3 :: .int .i64 t.carry :: rest) T :: rowI A3 c3 t.s.digits :: rowI A2 c2 t.b.digits :: rowI A1 c1 t.a.digits :: m) W) => l02Value_any t.a.base A1 t.a.digits.length c1 t.a.digits W b1 b2 hd1 hW.drop.drop.drop.riv n2)
  obtain ⟨U, hU⟩ : ∃ U, pw t.b.base t.carry.toNat = U := ⟨_, rfl⟩
  obtain ⟨V, hV⟩ : ∃ V, valL t.a.base t.a.digits = V := ⟨_, rfl⟩
  rw [hU] at KP HT u1 u2 u3 u4
  rw [hV] at KV HT u3 u4
  obtain ⟨X, hX⟩ : ∃ X, sign * (V * U) = X := ⟨_, rfl⟩
  obtain ⟨Y, hY⟩ : ∃ Y, sign * U = Y := ⟨_, rfl⟩
  rw [hX, hY] at HT
  have hXb : -1000000000001 ≤ X ∧ X ≤ 1000000000001 := by rcases hs with rfl | rfl <;> omega
  have hYb : -1000000000001 ≤ Y ∧ Y ≤ 1000000000001 := by rcases hs with rfl | rfl <;> omega
  have hYX : Y * V = X := by rw [← hX, ← hY, Int.mul_assoc, Int.mul_comm U V]
  have w1' : IntKind.i64.wrap (sign * U) = Y := by rw [hY]; exact wrapI64 (by omega)
  have w2' : IntKind.i64.wrap (Y * V) = X := by rw [hYX]; exact wrapI64 (by omega)
  have KM2 := (fun W (hW : Kn w0 (.blk g (.int .i64 t.a.base :: .slice A1 t.a.digits.length c1 :: .int .i64 t.b.base :: .slice A2 t.b.digits.length c2 :: .int .i64 t.s.base :: .slice A3 t.s.digits.length c3 :: .int .i64 t.carry :: rest) T :: rowI A3 c3 t.s.digits :: rowI A2 c2 t.b.digits :: rowI A1 c1 t.a.digits :: m) W) => l10Move_any ⟨g, 2, none⟩ t.b.base A2 c2 t.b.digits X W ⟨hW.blkAt.1 2, hW.blkAt.1 3⟩ hW.drop.drop.riv k2 f1 hXb.1 hXb.2)
  have KM3 := (fun W (hW : Kn w0 (.blk g (.int .i64 t.a.base :: .slice A1 t.a.digits.length c1 :: .int .i64 t.b.base :: .slice A2 t.b.digits.length c2 :: .int .i64 t.s.base :: .slice A3 t.s.digits.length c3 :: .int .i64 t.carry :: rest) T :: rowI A3 c3 t.s.digits :: rowI A2 c2 t.b.digits :: rowI A1 c1 t.a.digits :: m) W) => l10Move_any ⟨g, 4, none⟩ t.s.base A3 c3 t.s.digits Y W ⟨hW.blkAt.1 4, hW.blkAt.1 5⟩ hW.drop.riv k3 f2 hYb.1 hYb.2)
  obtain ⟨es, hes⟩ : ∃ es, shiftD t.b.base t.b.digits X = es := ⟨_, rfl⟩
  obtain ⟨fs, hfs⟩ : ∃ fs, shiftD t.s.base t.s.digits Y = fs := ⟨_, rfl⟩
  obtain ⟨bell, hbl⟩ : ∃ e, shiftB t.b.base t.b.digits X = e := ⟨_, rfl⟩
  obtain ⟨bell2, hbl2⟩ : ∃ e, shiftB t.s.base t.s.digits Y = e := ⟨_, rfl⟩
  rw [hes, hbl] at KM2
  rw [hfs, hbl2] at KM3
  rw [hes, hfs, hbl] at HT
  rw [HT.out]
  have KP := Lib.hid KP
  have KV := Lib.hid KV
  have KM2 := Lib.hid KM2
  have KM3 := Lib.hid KM3
  have HW1 := Lib.hid w1'
  have HW2 := Lib.hid w2'
  have HY := Lib.hid hY
  have hYo : -9223372036854775808 ≤ sign * U ∧ sign * U ≤ 9223372036854775807 := by rw [hY]; omega
  have hXo : -9223372036854775808 ≤ sign * U * V ∧ sign * U * V ≤ 9223372036854775807 := by rw [hY, hYX]; omega
  clear hpc hU hV hX hY hYX w1' w2' hes hfs hbl hbl2 hd1 hd2 hd3 hv k1 k2 k3 e1 e2 hs
  obtain ⟨a1, a2, a3⟩ := hK.blkAt
  go_enter Tryz.func185, Tryz.ntmps185
  go_wp2_with fail
  go_quiet ((go_at_call 183; exact quiet_left (KP.out _)))
  have hK1 := hK.drewN nq
  generalize w.drewN nq = w1 at hK1 ⊢
  clear hK a1 a2 a3
  obtain ⟨a1, a2, a3⟩ := hK1.blkAt
  go_wp2_with fail
  have HG := Lib.hid (box2 hK1.drew)
  have HA := Lib.hid (box2 (hK1.al [.int .i64 0, .slice none 0 0] 30).drew.drop)
  have HS := HG
  go_cut [6, 7] (fun pp oo wx => ∃ (g6 : Nat) (A' : Option Addr) (c' : Nat), pp = .pointer (some ⟨g6, 0, none⟩) ∧ oo = .bool bell ∧ Kn w0 (.blk g6 [.int .i64 t.b.base, .slice A' es.length c'] 30 :: rowI A' c' es :: .blk g (.int .i64 t.a.base :: .slice A1 t.a.digits.length c1 :: .int .i64 t.b.base :: .slice A2 t.b.digits.length c2 :: .int .i64 t.s.base :: .slice A3 t.s.digits.length c3 :: .int .i64 t.carry :: rest) T :: rowI A3 c3 t.s.digits :: rowI A2 c2 t.b.digits :: rowI A1 c1 t.a.digits :: m) wx)
  case first =>
    go_region_held3 (fun W => W.cell? ⟨g, 0, none⟩ = some (.int .i64 t.a.base) ∧ W.cell? ⟨g, 1, none⟩ = some (.slice A1 t.a.digits.length c1))
      (first | with_reducible exact HG.out | with_reducible exact HA.out | with_reducible exact HS.out | exact HG.out | exact HA.out | exact HS.out) (first
      | (go_at_call 223; first | ((with_reducible refine (KV.out _ hK1.drew).mono ?_); rintro e w7 ⟨rfl, rfl⟩) | ((with_reducible refine (KV.out _ (hK1.al [.int .i64 0, .slice none 0 0] 30).drew.drop).mono ?_); rintro e w7 ⟨rfl, rfl⟩))
      | (go_at_call 222; rw [HW1.out, HW2.out]; clear HG HA; first
        | ((with_reducible refine (KM2.out _ hK1.drew).mono ?_); rintro e w4 ⟨A', c', rfl, hK⟩; have hK4 := hK1.drew.join hK; have HG := Lib.hid (box2 hK4.drop); have HA := Lib.hid (box2 (hK4.al [.int .i64 0, .slice none 0 0] 30).drop.drop); have hK5 := hK4.al [.int .i64 t.b.base, .slice A' es.length c'] 30; have HS := Lib.hid (box2 hK5.drop.drop))
        | ((refine (KM2.out _ (hK1.al [.int .i64 0, .slice none 0 0] 30).drew.drop).mono ?_); rintro e w4 ⟨A', c', rfl, hK⟩; have hK4 := (hK1.al [.int .i64 0, .slice none 0 0] 30).drew.join hK; have HG := Lib.hid (box2 hK4.drop.drop); obtain ⟨g1, f1, l1⟩ := hK4.drop.blkAt; have HA := HG; have hK5 := (hK4.sw1.st 0 (.int .i64 t.b.base)).st 1 (.slice A' es.length c'); have HS := Lib.hid (box2 hK5.drop.drop))))
    all_goals
      go_wp2_with fail
      go_meet
      exact ⟨_, _, _, rfl, rfl, hK5⟩
  case rest =>
    obtain ⟨g6, A', c', rfl, rfl, hK5⟩ := hcut
    clear HG HA HS KP KV KM2 hK1 a1 a2 a3
    obtain ⟨x1, x2, x3, a1, a2, a3, -⟩ := hK5.cells
    go_wp2_with fail
    rw [HY.out]
    refine (KM3.out _ hK5.drop.drop).mono ?_; rintro e w4 ⟨A2', c2', rfl, hK⟩
    have hK6 := hK5.join hK
    clear x1 x2 x3 a1 a2 a3
    obtain ⟨x1, x2, x3, a1, a2, a3, -⟩ := hK6.cells
    have hK7 := ((((hK6.sw3.st 2 (.int .i64 t.b.base)).st 3 (.slice A' es.length c')).st 4 (.int .i64 t.s.base)).st 5 (.slice A2' fs.length c2')).al [.int .i64 t.s.base, .slice A2' fs.length c2'] 30
    go_wp2_with fail
    go_ret
    refine ⟨rfl, A1, c1, A', c', A2', c2', ?_⟩
    refine Kn.only hK7 (by repeat (first | exact List.Sublist.refl _ | apply List.Sublist.cons_cons | apply List.Sublist.cons))
end Go.Proofs.YtmmiahgmdllgdaaGreatDoor

namespace Go.Proofs.YtmmiahgmdllgdaaGreatDoor
open Go.RowKit Go.Sort
theorem MB.congr {w0 w : World} {g : Nat} {rest : List Value} {T : TypeId} {k k' : Tri} {m : List Ent} (h : MB w0 g rest T k m w) (e : k = k') : MB w0 g rest T k' m w := e ▸ h
theorem l10ShiftM {w0 : World} {m : List Ent} {rest : List Value} {T : TypeId} {g : Nat} (t : Tri) (k by_ : Int) (w : World) (hM : MB w0 g rest T t m w) (hv : vmach t = true) (hb : (k = 3 ∧ by_ = 1) ∨ (k = 4 ∧ by_ = -1)) :
    Calls Tryz.prog 186 #[.pointer (some ⟨g, 0, none⟩), .int .i64 by_] w fun e w' => e = .returned (.bool (strokeT k t).2) ∧ MB w0 g rest T (strokeT k t).1 m w' := by
  obtain ⟨A1, c1, A2, c2, A3, c3, hK⟩ := hM
  obtain ⟨-, -, -, -, -, -, -, -, p0, p1⟩ := vmach_all hv
  refine (l10ShiftK t A1 A2 A3 c1 c2 c3 by_ w hK hv (by omega)).mono ?_
  rintro e w' ⟨h1, h2⟩
  rcases hbt : betB (t.carry + by_) 0 (vplaces t - 1) with _ | _
  · obtain ⟨rfl, hK'⟩ := h2 hbt
    have := betB_false.1 hbt
    have hs : strokeT k t = (t, true) := by
      rcases hb with ⟨rfl, rfl⟩ | ⟨rfl, rfl⟩
      · unfold strokeT; rw [if_neg (by decide), if_neg (by decide), if_pos rfl, if_pos (by omega)]
      · unfold strokeT; rw [if_neg (by decide), if_neg (by decide), if_neg (by decide), if_pos rfl, if_pos (by omega)]
    rw [hs]
    exact ⟨rfl, A1, c1, A2, c2, A3, c3, hK'⟩
  · obtain ⟨rfl, hK'⟩ := h1 hbt
    have := betB_iff.1 hbt
    have hs : strokeT k t = ({ t with carry := t.carry + by_ }, false) := by
      rcases hb with ⟨rfl, rfl⟩ | ⟨rfl, rfl⟩
      · unfold strokeT; rw [if_neg (by decide), if_neg (by decide), if_pos rfl, if_neg (by omega)]
      · unfold strokeT; rw [if_neg (by decide), if_neg (by decide), if_neg (by decide), if_pos rfl, if_neg (by omega)]; rfl
    rw [hs]
    exact ⟨rfl, A1, c1, A2, c2, A3, c3, hK'⟩
set_option maxRecDepth 100000 in
set_option maxHeartbeats 1600000 in
theorem l10DoK {w0 : World} {m : List Ent} {rest : List Value} {T : TypeId} {g : Nat} (t : Tri) (k : Int) (w : World) (hM : MB w0 g rest T t m w) (hv : vmach t = true) (hk : 1 ≤ k ∧ k ≤ 6) :
    Calls Tryz.prog 144 #[.pointer (some ⟨g, 0, none⟩), .int .i64 k] w fun e w' => e = .returned (.bool (strokeT k t).2) ∧ MB w0 g rest T (strokeT k t).1 m w' := by
  have hk' : k = 1 ∨ k = 2 ∨ k = 3 ∨ k = 4 ∨ k = 5 ∨ k = 6 := by omega
  clear hk
  rcases hk' with rfl | rfl | rfl | rfl | rfl | rfl
  · have KT := Lib.hid (l10TurnK t 1 w hM hv (.inl rfl))
    obtain ⟨r, hr⟩ : ∃ r, strokeT 1 t = r := ⟨_, rfl⟩
    have HR := Lib.hid (show turnT t 1 = r by rw [← hr]; rfl)
    rw [hr]
    clear hr hM hv
    go_enter Tryz.func144, Tryz.ntmps144
    go_wp2_with (go_at_call 185; refine KT.out.mono ?_; rw [HR.out]; rintro e w' ⟨rfl, hM⟩)
    go_ret
    exact ⟨rfl, hM⟩
  · have KT := Lib.hid (l10TurnK t (-1) w hM hv (.inr rfl))
    obtain ⟨r, hr⟩ : ∃ r, strokeT 2 t = r := ⟨_, rfl⟩
    have HR := Lib.hid (show turnT t (-1) = r by rw [← hr]; rfl)
    rw [hr]
    clear hr hM hv
    go_enter Tryz.func144, Tryz.ntmps144
    go_wp2_with (go_at_call 185; refine KT.out.mono ?_; rw [HR.out]; rintro e w' ⟨rfl, hM⟩)
    go_ret
    exact ⟨rfl, hM⟩
  · have KT := (l10ShiftM t 3 1 w hM hv (.inl ⟨rfl, rfl⟩))
    obtain ⟨r, hr⟩ : ∃ r, strokeT 3 t = r := ⟨_, rfl⟩
    rw [hr] at KT ⊢
    have KT := Lib.hid KT
    clear hr hM hv
    go_enter Tryz.func144, Tryz.ntmps144
    go_wp2_with (go_at_call 186; refine KT.out.mono ?_; rintro e w' ⟨rfl, hM⟩)
    go_ret
    exact ⟨rfl, hM⟩
  · have KT := (l10ShiftM t 4 (-1) w hM hv (.inr ⟨rfl, rfl⟩))
    obtain ⟨r, hr⟩ : ∃ r, strokeT 4 t = r := ⟨_, rfl⟩
    rw [hr] at KT ⊢
    have KT := Lib.hid KT
    clear hr hM hv
    go_enter Tryz.func144, Tryz.ntmps144
    go_wp2_with (go_at_call 186; refine KT.out.mono ?_; rintro e w' ⟨rfl, hM⟩)
    go_ret
    exact ⟨rfl, hM⟩
  · obtain ⟨k1, k2, k3, -⟩ := vmach_all hv
    obtain ⟨-, ⟨n3, n4⟩, -, -⟩ := vreg_iff.1 k2
    obtain ⟨-, ⟨n5, n6⟩, -, -⟩ := vreg_iff.1 k3
    have hS : strokeT 5 t = (⟨t.a, ⟨t.b.base, List.replicate t.b.digits.length 0⟩, ⟨t.s.base, List.replicate t.s.digits.length 0⟩, t.carry⟩, false) := by unfold strokeT; simp [digD_zero]
    rw [hS]
    obtain ⟨A1, c1, A2, c2, A3, c3, hK⟩ := hM
    clear hS hv k1 k2 k3
    obtain ⟨a1, a2, a3⟩ := hK.blkAt
    go_enter Tryz.func144, Tryz.ntmps144
    go_wp2_with fail
    refine (l10ZeroK (cs := (.int .i64 t.a.base :: .slice A1 t.a.digits.length c1 :: .int .i64 t.b.base :: .slice A2 t.b.digits.length c2 :: .int .i64 t.s.base :: .slice A3 t.s.digits.length c3 :: .int .i64 t.carry :: rest)) (o := 2) A2 c2 t.b.digits w hK.sw2 rfl (by omega) (by omega)).mono ?_; rintro e w1 ⟨rfl, hK1⟩
    go_wp2_with fail
    refine (l10ZeroK (cs := (.int .i64 t.a.base :: .slice A1 t.a.digits.length c1 :: .int .i64 t.b.base :: .slice A2 t.b.digits.length c2 :: .int .i64 t.s.base :: .slice A3 t.s.digits.length c3 :: .int .i64 t.carry :: rest)) (o := 4) A3 c3 t.s.digits w1 (hK1.sw1.sw2) rfl (by omega) (by omega)).mono ?_; rintro e w2 ⟨rfl, hK2⟩
    go_wp2_with fail
    go_ret
    refine ⟨rfl, A1, c1, A2, c2, A3, c3, ?_⟩
    simp only [List.length_replicate]
    exact hK2.sw1
  · obtain ⟨k1, k2, k3, -⟩ := vmach_all hv
    obtain ⟨-, ⟨n1, n2⟩, -, -⟩ := vreg_iff.1 k1
    have hS : strokeT 6 t = ({ t with a := ⟨t.a.base, List.replicate t.a.digits.length 0⟩ }, false) := by unfold strokeT; simp [digD_zero]
    rw [hS]
    obtain ⟨A1, c1, A2, c2, A3, c3, hK⟩ := hM
    clear hS hv k1 k2 k3
    go_enter Tryz.func144, Tryz.ntmps144
    go_wp2_with fail
    refine (l10ZeroK (cs := (.int .i64 t.a.base :: .slice A1 t.a.digits.length c1 :: .int .i64 t.b.base :: .slice A2 t.b.digits.length c2 :: .int .i64 t.s.base :: .slice A3 t.s.digits.length c3 :: .int .i64 t.carry :: rest)) (o := 0) A1 c1 t.a.digits w hK.sw3 rfl (by omega) (by omega)).mono ?_; rintro e w1 ⟨rfl, hK1⟩
    go_wp2_with fail
    go_ret
    refine ⟨rfl, A1, c1, A2, c2, A3, c3, ?_⟩
    simp only [List.length_replicate]
    exact hK1.sw3.sw3.sw3
end Go.Proofs.YtmmiahgmdllgdaaGreatDoor

namespace Go.Proofs.YtmmiahgmdllgdaaGreatDoor
open Go.RowKit Go.Sort
end Go.Proofs.YtmmiahgmdllgdaaGreatDoor

namespace Go.Proofs.YtmmiahgmdllgdaaGreatDoor
open Go.RowKit Go.Sort
/-- what SetValue returns for a valid machine -/
def SetRet (t : Tri) (v : Int) (w : World) (e : Ending) (w' : World) : Prop :=
  (v < pw t.a.base t.a.digits.length ∧ ∃ A1 c1 A2 c2 A3 c3, e = .returned (.tuple #[.agg #[.int .i64 t.a.base, .slice A1 (setT t v).a.digits.length c1, .int .i64 t.b.base, .slice A2 t.b.digits.length c2, .int .i64 t.s.base, .slice A3 t.s.digits.length c3, .int .i64 t.carry], .int .i64 0]) ∧
    Kn w [rowI A3 c3 t.s.digits, rowI A2 c2 t.b.digits, rowI A1 c1 (setT t v).a.digits] w') ∨
  (¬ v < pw t.a.base t.a.digits.length ∧ e = .returned (.tuple #[.agg #[.int .i64 0, .slice none 0 0, .int .i64 0, .slice none 0 0, .int .i64 0, .slice none 0 0, .int .i64 0], .int .i64 2]) ∧ Below w.heap.size w w')
set_option maxRecDepth 100000 in
set_option maxHeartbeats 3200000 in
theorem SetValueV_any (t : Tri) (A1 A2 A3 : Option Addr) (c1 c2 c3 : Nat) (v : Int) (w : World) (r1 : RI w A1 t.a.digits.length t.a.digits) (r2 : RI w A2 t.b.digits.length t.b.digits) (r3 : RI w A3 t.s.digits.length t.s.digits) (hv : vmach t = true) (h0 : 0 ≤ v) (h1 : v ≤ 1000000000000) :
    Calls Tryz.prog 143 #[.agg #[.int .i64 t.a.base, .slice A1 t.a.digits.length c1, .int .i64 t.b.base, .slice A2 t.b.digits.length c2, .int .i64 t.s.base, .slice A3 t.s.digits.length c3, .int .i64 t.carry], .int .i64 v] w (SetRet t v w) := by
  obtain ⟨k1, k2, k3, e1, e2, f1, f2, l1, p0, p1⟩ := vmach_all hv
  obtain ⟨⟨b1, b2⟩, ⟨n1, n2⟩, hd1, -⟩ := vreg_iff.1 k1
  obtain ⟨⟨b3, b4⟩, ⟨n3, n4⟩, hd2, -⟩ := vreg_iff.1 k2
  obtain ⟨⟨b5, b6⟩, ⟨n5, n6⟩, hd3, -⟩ := vreg_iff.1 k3
  have hz : Sized t := ⟨n1, n3, n5, n2, n4, n6⟩
  have hT : ∀ W, Kn w [.blk (w.heap.size + 1) [.int .i64 0, .slice none 0 0, .int .i64 0, .slice none 0 0, .int .i64 0, .slice none 0 0, .int .i64 0] 32, .blk w.heap.size [.int .i64 t.a.base, .slice A1 t.a.digits.length c1, .int .i64 t.b.base, .slice A2 t.b.digits.length c2, .int .i64 t.s.base, .slice A3 t.s.digits.length c3, .int .i64 t.carry] 32] W → TriC W ⟨w.heap.size, 0, none⟩ t A1 c1 A2 c2 A3 c3 := fun W h =>
    ⟨⟨h.drop.blkAt.1 0, h.drop.blkAt.1 1, h.drop.blkAt.1 2, h.drop.blkAt.1 3, h.drop.blkAt.1 4, h.drop.blkAt.1 5, h.drop.blkAt.1 6⟩, r1.below h.below, r2.below h.below, r3.below h.below⟩
  have KO := Lib.hid (fun W h => calls_val (l10Ok_any ⟨w.heap.size, 0, none⟩ t W (hT W h).tri ⟨by unfold SmallReg; omega, by unfold SmallReg; omega, by unfold SmallReg; omega⟩) (congrArg Value.bool hv))
  have KN := (fun W => l10Power_any t.a.base t.a.digits.length W b1 b2 (by omega))
  have hmo := pw_mono t.a.base (by omega) _ _ l1
  rw [← e1] at f1
  have hpc : powS t.a.base t.a.digits.length = pw t.a.base t.a.digits.length := by unfold powS; omega
  rw [hpc] at KN
  have hp1 := pw_pos t.a.base b1 t.a.digits.length
  have KW := Lib.hid (fun W h => l10Own_any w.heap.size t A1 A2 A3 c1 c2 c3 W (hT W h) hz)
  have KD := (fun W => l02NewV_any t.a.base t.a.digits.length v W b1 b2 (by omega) h0 (by omega))
  have hst : (setT t v).a.digits = digD t.a.base t.a.digits.length v := rfl
  obtain ⟨N, hN⟩ : ∃ N, pw t.a.base t.a.digits.length = N := ⟨_, rfl⟩
  have HN := Lib.hid hN
  rw [hN] at KN hp1 hmo
  obtain ⟨ds, hds⟩ : ∃ ds, digD t.a.base t.a.digits.length v = ds := ⟨_, rfl⟩
  rw [hds] at KD hst
  have HST := Lib.hid hst
  have KN := Lib.hid KN
  have KD := Lib.hid KD
  have hwn : IntKind.i64.wrap (N - 1) = N - 1 := wrapI64 (by omega)
  clear hst hds hN hpc hT r1 r2 r3 k1 k2 k3 hd1 hd2 hd3 e1 e2 hv hz
  rcases hbt : betB v 0 (N - 1) with _ | _
  · have KI := Lib.hid (fun W => calls_val (l00In_any v 0 (N - 1) W) (congrArg Value.bool hbt))
    have HV := Lib.hid (show ¬ v < N by have := betB_false.1 hbt; omega)
    clear hbt h0 h1 p0 p1
    go_enter Tryz.func143, Tryz.ntmps143
    go_wp2_with fail
    refine Calls.kn (((Kn.nil w).al [.int .i64 t.a.base, .slice A1 t.a.digits.length c1, .int .i64 t.b.base, .slice A2 t.b.digits.length c2, .int .i64 t.s.base, .slice A3 t.s.digits.length c3, .int .i64 t.carry] 32).al [.int .i64 0, .slice none 0 0, .int .i64 0, .slice none 0 0, .int .i64 0, .slice none 0 0, .int .i64 0] 32) ?_; intro w1 hK1
    simp only [World.size_alloc] at hK1
    refine (KO.out _ hK1).mono ?_; rintro e w2 ⟨rfl, q, rfl⟩
    have hK2 := hK1.drewN q
    generalize w1.drewN q = w2 at hK2 ⊢
    clear hK1
    obtain ⟨a1, a2, a3, d1, d2, d3, -⟩ := hK2.cells
    go_wp2_with (first | (go_at_call 183; refine (KN.out _).mono ?_; rintro e w' ⟨rfl, rfl⟩) | (go_at_call 81; refine (KI.out _).mono ?_; rintro e w' ⟨rfl, rfl⟩))
    refine bodyPost.kn (((((((hK2.st 0 (.int .i64 0)).st 1 (.slice none 0 0)).st 2 (.int .i64 0)).st 3 (.slice none 0 0)).st 4 (.int .i64 0)).st 5 (.slice none 0 0)).st 6 (.int .i64 0)) ?_; intro w6 hK6
    clear a1 a2 a3 d1 d2 d3
    obtain ⟨a1, a2, a3, -⟩ := hK6.cells
    exact bodyPost_ret (v := .tuple #[.agg #[.int .i64 0, .slice none 0 0, .int .i64 0, .slice none 0 0, .int .i64 0, .slice none 0 0, .int .i64 0], .int .i64 2]) (by simp [results, Tryz.results143, go_sem, a1]) rfl (.inr ⟨by rw [HN.out]; have := HV.out; omega, rfl, hK6.below⟩)
  · have KI := Lib.hid (fun W => calls_val (l00In_any v 0 (N - 1) W) (congrArg Value.bool hbt))
    have HV : Hid (v < N) := by have := betB_iff.1 hbt; simp only [Hid]; omega
    clear hbt h0 h1 p0 p1
    go_enter Tryz.func143, Tryz.ntmps143
    go_wp2_with fail
    refine Calls.kn (((Kn.nil w).al [.int .i64 t.a.base, .slice A1 t.a.digits.length c1, .int .i64 t.b.base, .slice A2 t.b.digits.length c2, .int .i64 t.s.base, .slice A3 t.s.digits.length c3, .int .i64 t.carry] 32).al [.int .i64 0, .slice none 0 0, .int .i64 0, .slice none 0 0, .int .i64 0, .slice none 0 0, .int .i64 0] 32) ?_; intro w1 hK1
    simp only [World.size_alloc] at hK1
    refine (KO.out _ hK1).mono ?_; rintro e w2 ⟨rfl, q, rfl⟩
    have hK2 := hK1.drewN q
    generalize w1.drewN q = w2 at hK2 ⊢
    clear hK1
    obtain ⟨a1, a2, a3, d1, d2, d3, -⟩ := hK2.cells
    go_wp2_with (first | (go_at_call 183; refine (KN.out _).mono ?_; rintro e w' ⟨rfl, rfl⟩) | (go_at_call 81; refine (KI.out _).mono ?_; rintro e w' ⟨rfl, rfl⟩))
    refine (KW.out _ hK2).mono ?_; rintro e w3 ⟨B1, h1, B2, h2, B3, h3, rfl, hKC⟩
    have hK3 := hK2.join hKC
    clear hK2 hKC a1 a2 a3 d1 d2 d3
    obtain ⟨a1, a2, a3, d1, d2, d3, -⟩ := hK3.cells
    go_wp2_with fail
    refine Calls.kn (hK3.al [.int .i64 t.a.base, .slice B1 t.a.digits.length h1, .int .i64 t.b.base, .slice B2 t.b.digits.length h2, .int .i64 t.s.base, .slice B3 t.s.digits.length h3, .int .i64 t.carry] 32) ?_; intro w4 hK4
    refine (KD.out _).mono ?_; rintro e w5 ⟨E1, g1, rfl, hKD⟩
    have hK5 := hK4.join hKD
    clear hK3 hK4 hKD a1 a2 a3 d1 d2 d3
    obtain ⟨x1, x2, x3, a1, a2, a3, d1, d2, d3, -⟩ := hK5.cells
    have ne1 := hK5.ne 1 5 rfl rfl (by decide)
    have ne2 := ne1.symm
    go_wp2_with fail
    refine bodyPost.kn ((((((((((((hK5.sw1.st 0 (.int .i64 t.a.base)).st 1 (.slice E1 ds.length g1)).front 5 rfl).st 0 (.int .i64 t.a.base)).st 1 (.slice E1 ds.length g1)).st 2 (.int .i64 t.b.base)).st 3 (.slice B2 t.b.digits.length h2)).st 4 (.int .i64 t.s.base)).st 5 (.slice B3 t.s.digits.length h3)).st 6 (.int .i64 t.carry))).al_ _) ?_; intro w6 hK6
    clear x1 x2 x3 a1 a2 a3 d1 d2 d3
    obtain ⟨a1, a2, a3, -⟩ := hK6.cells
    refine bodyPost_ret (v := .tuple #[.agg #[.int .i64 t.a.base, .slice E1 ds.length g1, .int .i64 t.b.base, .slice B2 t.b.digits.length h2, .int .i64 t.s.base, .slice B3 t.s.digits.length h3, .int .i64 t.carry], .int .i64 0]) (by simp [results, Tryz.results143, go_sem, a1]) rfl (.inl ⟨by rw [HN.out]; exact HV.out, E1, g1, B2, h2, B3, h3, by rw [HST.out], ?_⟩)
    rw [HST.out]
    exact hK6.sel [3, 4, 2] 99 (by decide) (by decide)
end Go.Proofs.YtmmiahgmdllgdaaGreatDoor
