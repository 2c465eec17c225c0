/- Part 2: lemmas and contracts of the claim's functions. -/
import Derived.Test.YtikcifpdnbhpiaaZC1
import Derived.Deep.DeepCutAuto
import Derived.Deep.RegionHeld3
namespace Go.Proofs.Ytikcifpdnbhpiaa
open Go.RowKit Go.Sort
/-! programs, plainly: depths, matches, what a run does -/
def depA (xs : List Ins) (k : Nat) : Int := (progD (xs.take k)).getD 0
theorem vprog_len {xs : List Ins} (h : vprog xs = true) : xs.length ≤ 120 := by
  unfold vprog at h; simp only [Bool.and_eq_true, decide_eq_true_eq] at h; exact h.2
theorem vprog_some {xs : List Ins} (h : vprog xs = true) (k : Nat) : progD (xs.take k) = some (depA xs k) := by
  unfold vprog at h; simp only [Bool.and_eq_true, decide_eq_true_eq] at h
  unfold depA
  cases hp : progD (xs.take k) with
  | none => rw [progD_none hp] at h; cases h.1
  | some d => rfl
theorem depA_zero (xs : List Ins) : depA xs 0 = 0 := rfl
theorem depA_end {xs : List Ins} (h : vprog xs = true) {k : Nat} (hk : xs.length ≤ k) : depA xs k = 0 := by
  unfold vprog at h; simp only [Bool.and_eq_true, decide_eq_true_eq] at h
  unfold depA; rw [List.take_of_length_le hk, h.1]; rfl
theorem dep_step {xs : List Ins} (h : vprog xs = true) {k : Nat} (hk : k < xs.length) : instrOk xs[k].op xs[k].arg = true ∧ depthStep xs[k].op (depA xs k) = some (depA xs (k + 1)) := by
  have h1 := vprog_some h (k + 1)
  rw [progD_succ hk, vprog_some h k] at h1
  simp only [stepI, Option.bind_some] at h1
  split at h1
  · rename_i hi; exact ⟨hi, h1⟩
  · cases h1
theorem dep_bd {xs : List Ins} (h : vprog xs = true) : ∀ k : Nat, 0 ≤ depA xs k ∧ depA xs k ≤ 4
  | 0 => by rw [depA_zero]; omega
  | k + 1 => by
    by_cases hk : k < xs.length
    · exact depthStep_bd (dep_step h hk).2 (dep_bd h k).1 (dep_bd h k).2
    · rw [depA_end h (by omega)]; omega
theorem dep_open {xs : List Ins} (h : vprog xs = true) {k : Nat} (hk : k < xs.length) (ho : opens xs[k].op = true) : depA xs (k + 1) = depA xs k + 1 := by
  have h1 := (dep_step h hk).2
  have h10 : ¬ xs[k].op = 10 := by intro h; rw [h] at ho; simp [opens] at ho
  unfold depthStep at h1
  rw [if_neg h10, ho] at h1
  simp only [if_true] at h1
  split at h1
  · cases h1
  · injection h1 with h1; omega
theorem dep_close {xs : List Ins} (h : vprog xs = true) {k : Nat} (hk : k < xs.length) (ho : xs[k].op = 10) : depA xs (k + 1) = depA xs k - 1 := by
  have h1 := (dep_step h hk).2
  unfold depthStep at h1
  rw [if_pos ho] at h1
  split at h1
  · cases h1
  · injection h1 with h1; omega
theorem dep_same {xs : List Ins} (h : vprog xs = true) {k : Nat} (hk : k < xs.length) (ho : opens xs[k].op = false) (h10 : ¬ xs[k].op = 10) : depA xs (k + 1) = depA xs k := by
  have h1 := (dep_step h hk).2
  unfold depthStep at h1
  rw [if_neg h10, ho] at h1
  simp only [Bool.false_eq_true, if_false] at h1
  injection h1 with h1; omega
theorem dep_near {xs : List Ins} (h : vprog xs = true) (k : Nat) : depA xs k - 1 ≤ depA xs (k + 1) ∧ depA xs (k + 1) ≤ depA xs k + 1 := by
  by_cases hk : k < xs.length
  · rcases ho : opens xs[k].op with _ | _
    · by_cases h10 : xs[k].op = 10
      · rw [dep_close h hk h10]; omega
      · rw [dep_same h hk ho h10]; omega
    · rw [dep_open h hk ho]; omega
  · rw [depA_end h (show xs.length ≤ k by omega), depA_end h (show xs.length ≤ k + 1 by omega)]; omega
/-- e is the end of the loop that begins at i -/
def IsMatch (xs : List Ins) (i e : Nat) : Prop := i ≤ e ∧ e < xs.length ∧ depA xs (e + 1) = depA xs i ∧ ∀ j, i < j → j ≤ e → depA xs i < depA xs j
theorem IsMatch.one {xs : List Ins} {i e f : Nat} (h1 : IsMatch xs i e) (h2 : IsMatch xs i f) : e = f := by
  obtain ⟨a1, a2, a3, a4⟩ := h1
  obtain ⟨b1, b2, b3, b4⟩ := h2
  rcases Nat.lt_trichotomy e f with h | h | h
  · have := b4 (e + 1) (by omega) (by omega); omega
  · exact h
  · have := a4 (f + 1) (by omega) (by omega); omega
/-- a part of a program in which all loops are whole -/
structure Seg (xs : List Ins) (i tt : Nat) : Prop where
  le : i ≤ tt
  len : tt ≤ xs.length
  dep : depA xs tt = depA xs i
  above : ∀ j, i ≤ j → j ≤ tt → depA xs i ≤ depA xs j
theorem Seg.all {xs : List Ins} (h : vprog xs = true) : Seg xs 0 xs.length :=
  ⟨Nat.zero_le _, Nat.le_refl _, by rw [depA_end h (Nat.le_refl _), depA_zero], fun j _ _ => by rw [depA_zero]; exact (dep_bd h j).1⟩
theorem Seg.lt {xs : List Ins} {i tt : Nat} (hs : Seg xs i tt) (hi : i < tt) : i < xs.length := Nat.lt_of_lt_of_le hi hs.len
theorem Seg.noEnd {xs : List Ins} (h : vprog xs = true) {i tt : Nat} (hs : Seg xs i tt) (hi : i < tt) : ¬ (xs[i]'(hs.lt hi)).op = 10 := by
  intro h10
  have h1 := dep_close h (hs.lt hi) h10
  have h2 := hs.above (i + 1) (by omega) (by omega)
  omega
theorem Seg.next {xs : List Ins} (h : vprog xs = true) {i tt : Nat} (hs : Seg xs i tt) (hi : i < tt) (ho : opens (xs[i]'(hs.lt hi)).op = false) : Seg xs (i + 1) tt := by
  have h1 := dep_same h (hs.lt hi) ho (hs.noEnd h hi)
  exact ⟨by omega, hs.len, by rw [h1]; exact hs.dep, fun j h2 h3 => by rw [h1]; exact hs.above j (by omega) h3⟩
theorem Seg.loop {xs : List Ins} (h : vprog xs = true) {i tt e : Nat} (hs : Seg xs i tt) (hi : i < tt) (ho : opens (xs[i]'(hs.lt hi)).op = true) (hm : IsMatch xs i e) :
    i < e ∧ e < tt ∧ Seg xs (i + 1) e ∧ Seg xs (e + 1) tt := by
  obtain ⟨m1, m2, m3, m4⟩ := hm
  have h1 := dep_open h (hs.lt hi) ho
  have he : i < e := by
    rcases Nat.lt_or_ge i e with h2 | h2
    · exact h2
    · obtain rfl : e = i := by omega
      omega
  have ht : e < tt := by
    rcases Nat.lt_or_ge e tt with h2 | h2
    · exact h2
    · have := m4 tt hi h2; have := hs.dep; omega
  have h3 := m4 e he (Nat.le_refl _)
  have h4 := dep_near h e
  refine ⟨he, ht, ⟨by omega, by omega, by omega, fun j h5 h6 => ?_⟩, ⟨by omega, hs.len, by rw [m3]; exact hs.dep, fun j h5 h6 => by rw [m3]; exact hs.above j (by omega) h6⟩⟩
  have := m4 j (by omega) h6
  omega
theorem Seg.noOpen {xs : List Ins} {i tt : Nat} (hs : Seg xs i tt) : xs.length = tt ∨ tt < xs.length := by have := hs.len; omega
/-- what a runner holds -/
structure RS where
  m : Tri
  tr : List Int
  done : Nat
  code : Int
def RS.tick (s : RS) : RS := ⟨s.m, s.tr, s.done + 1, if s.done = 3000 then 5 else 0⟩
theorem RS.tick_full {s : RS} (h : s.done = 3000) : s.tick = ⟨s.m, s.tr, s.done + 1, 5⟩ := by simp [RS.tick, h]
theorem RS.tick_ok {s : RS} (h : ¬ s.done = 3000) : s.tick = ⟨s.m, s.tr, s.done + 1, 0⟩ := by simp [RS.tick, h]
/-- the setting set tt a value that fits -/
def setT (t : Tri) (v : Int) : Tri := { t with a := ⟨t.a.base, digD t.a.base t.a.digits.length v⟩ }
def setFits (t : Tri) (v : Int) : Bool := restD t.a.base t.a.digits.length v == 0
inductive Task where
  | run (i tt : Nat)
  | loop (op arg : Int) (i e : Nat) (k : Nat)
  | str (kind : Int) (n : Nat)
/-- what is done by a part of a program; the last is whether the bell has rung -/
inductive Ev (L : List Ins) : Task → RS → RS → Bool → Prop where
  | s0 {kind s} : Ev L (.str kind 0) s s false
  | sFull {kind n s} (h : s.done = 3000) : Ev L (.str kind (n + 1)) s s.tick false
  | sStep {kind n s s' b} (h : ¬ s.done = 3000) (he : Ev L (.str kind n) ⟨(strokeT kind s.m).1, s.tr ++ [kind], s.done + 1, 0⟩ s' b) : Ev L (.str kind (n + 1)) s s' ((strokeT kind s.m).2 || b)
  | rEnd {i tt s} (h : tt ≤ i) : Ev L (.run i tt) s s false
  | rCode {i tt s} (hi : i < tt) (h : ¬ s.code = 0) : Ev L (.run i tt) s s false
  | rSetFull {i tt s} (hi : i < tt) (hl : i < L.length) (hc : s.code = 0) (ho : L[i].op = 1) (h : s.done = 3000) : Ev L (.run i tt) s s.tick false
  | rSetBad {i tt s} (hi : i < tt) (hl : i < L.length) (hc : s.code = 0) (ho : L[i].op = 1) (h : ¬ s.done = 3000) (hf : setFits s.m L[i].arg = false) : Ev L (.run i tt) s ⟨s.m, s.tr, s.done + 1, 10⟩ false
  | rSet {i tt s s' b} (hi : i < tt) (hl : i < L.length) (hc : s.code = 0) (ho : L[i].op = 1) (h : ¬ s.done = 3000) (hf : setFits s.m L[i].arg = true) (he : Ev L (.run (i + 1) tt) ⟨setT s.m L[i].arg, s.tr, s.done + 1, 0⟩ s' b) : Ev L (.run i tt) s s' b
  | rLoop {i tt e s s1 s' b b1} (hi : i < tt) (hl : i < L.length) (hc : s.code = 0) (ho : opens L[i].op = true) (hm : IsMatch L i e) (h1 : Ev L (.loop L[i].op L[i].arg (i + 1) e 0) s s1 b1) (he : Ev L (.run (e + 1) tt) s1 s' b) : Ev L (.run i tt) s s' b
  | rStr {i tt s s1 s' b b1} (hi : i < tt) (hl : i < L.length) (hc : s.code = 0) (ho : opens L[i].op = false) (h1' : ¬ L[i].op = 1) (h1 : Ev L (.str (L[i].op - 1) (max 1 L[i].arg).toNat) s s1 b1) (he : Ev L (.run (i + 1) tt) s1 s' b) : Ev L (.run i tt) s s' (b1 || b)
  | lEnd {op arg : Int} {i e k : Nat} {s : RS} (h8 : op = 8) (hk : arg ≤ (k : Int)) : Ev L (.loop op arg i e k) s s false
  | lFull {op arg : Int} {i e k : Nat} {s : RS} (h8 : ¬ (op = 8 ∧ arg ≤ (k : Int))) (h : s.done = 3000) : Ev L (.loop op arg i e k) s s.tick false
  | lOut {op arg : Int} {i e k : Nat} {s s1 : RS} {b : Bool} (h8 : ¬ (op = 8 ∧ arg ≤ (k : Int))) (h : ¬ s.done = 3000) (h1 : Ev L (.run i e) ⟨s.m, s.tr, s.done + 1, 0⟩ s1 b) (ho : ¬ s1.code = 0 ∨ (op = 9 ∧ b = true)) : Ev L (.loop op arg i e k) s s1 false
  | lStep {op arg : Int} {i e k : Nat} {s s1 s' : RS} {b b2 : Bool} (h8 : ¬ (op = 8 ∧ arg ≤ (k : Int))) (h : ¬ s.done = 3000) (h1 : Ev L (.run i e) ⟨s.m, s.tr, s.done + 1, 0⟩ s1 b) (ho : s1.code = 0 ∧ ¬ (op = 9 ∧ b = true)) (he : Ev L (.loop op arg i e (k + 1)) s1 s' b2) : Ev L (.loop op arg i e k) s s' false
theorem Ev.one {L : List Ins} {t : Task} {s s1 : RS} {b1 : Bool} (h : Ev L t s s1 b1) : ∀ {s2 : RS} {b2 : Bool}, Ev L t s s2 b2 → s1 = s2 ∧ b1 = b2 := by
  induction h with
  | s0 => intro s2 b2 h2; cases h2; exact ⟨rfl, rfl⟩
  | sFull h => intro s2 b2 h2; cases h2 with
    | sFull => exact ⟨rfl, rfl⟩
    | sStep h' => exact absurd h h'
  | sStep h he ih => intro s2 b2 h2; cases h2 with
    | sFull h' => exact absurd h' h
    | sStep _ h' => obtain ⟨rfl, rfl⟩ := ih h'; exact ⟨rfl, rfl⟩
  | rEnd h => intro s2 b2 h2; cases h2 <;> first | exact ⟨rfl, rfl⟩ | omega
  | rCode hi h => intro s2 b2 h2; cases h2 <;> first | exact ⟨rfl, rfl⟩ | contradiction
  | @rSetFull i _ _ hi hl hc ho h =>
    have hop : opens (L[i]'hl).op = false := by rw [ho]; rfl
    intro s2 b2 h2; cases h2 <;> first | exact ⟨rfl, rfl⟩ | contradiction | omega | simp_all
  | @rSetBad i _ _ hi hl hc ho h hf =>
    have hop : opens (L[i]'hl).op = false := by rw [ho]; rfl
    intro s2 b2 h2; cases h2 <;> first | exact ⟨rfl, rfl⟩ | contradiction | omega | simp_all
  | @rSet i _ _ _ _ hi hl hc ho h hf he ih =>
    have hop : opens (L[i]'hl).op = false := by rw [ho]; rfl
    intro s2 b2 h2; cases h2 with
    | rSet _ _ _ _ _ _ he' => exact ih he'
    | _ => first | contradiction | omega | simp_all
  | @rLoop i _ _ _ _ _ _ _ hi hl hc ho hm h1 he ih1 ih2 =>
    have hop : ¬ (L[i]'hl).op = 1 := by intro h; rw [h] at ho; simp [opens] at ho
    intro s2 b2 h2; cases h2 with
    | rLoop _ _ _ _ hm' h1' he' =>
      obtain rfl := hm.one hm'
      obtain ⟨rfl, -⟩ := ih1 h1'
      exact ih2 he'
    | _ => first | contradiction | omega | simp_all
  | rStr hi hl hc ho h1' h1 he ih1 ih2 =>
    intro s2 b2 h2; cases h2 with
    | rStr _ _ _ _ _ h1'' he' =>
      obtain ⟨rfl, rfl⟩ := ih1 h1''
      obtain ⟨rfl, rfl⟩ := ih2 he'
      exact ⟨rfl, rfl⟩
    | _ => first | contradiction | omega | simp_all
  | lEnd h8 hk => intro s2 b2 h2; cases h2 <;> first | exact ⟨rfl, rfl⟩ | (exfalso; rename_i h _; exact h ⟨h8, hk⟩) | (exfalso; simp_all)
  | lFull h8 h => intro s2 b2 h2; cases h2 with
    | lEnd a b => exact absurd ⟨a, b⟩ h8
    | lFull => exact ⟨rfl, rfl⟩
    | lOut _ h' => exact absurd h h'
    | lStep _ h' => exact absurd h h'
  | lOut h8 h h1 ho ih => intro s2 b2 h2; cases h2 with
    | lEnd a b => exact absurd ⟨a, b⟩ h8
    | lFull _ h' => exact absurd h' h
    | lOut _ _ h1' => exact ⟨(ih h1').1, rfl⟩
    | lStep _ _ h1' ho' =>
      obtain ⟨rfl, rfl⟩ := ih h1'
      rcases ho with ho | ho
      · exact absurd ho'.1 ho
      · exact absurd ho ho'.2
  | lStep h8 h h1 ho he ih1 ih2 => intro s2 b2 h2; cases h2 with
    | lEnd a b => exact absurd ⟨a, b⟩ h8
    | lFull _ h' => exact absurd h' h
    | lOut _ _ h1' ho' =>
      obtain ⟨rfl, rfl⟩ := ih1 h1'
      rcases ho' with ho' | ho'
      · exact absurd ho.1 ho'
      · exact absurd ho' ho.2
    | lStep _ _ h1' _ he' =>
      obtain ⟨rfl, rfl⟩ := ih1 h1'
      exact ⟨(ih2 he').1, rfl⟩
theorem restD_div (b : Int) (hb : 2 ≤ b) (k : Nat) (v : Int) (h0 : 0 ≤ v) : restD b k v = v / pw b k := by
  induction k with
  | zero => simp [restD, pw]
  | succ k ih =>
    have h1 := pw_pos b hb k
    rw [restD, ih, Int.tdiv_eq_ediv_of_nonneg (Int.ediv_nonneg h0 (by omega)), Int.ediv_ediv_of_nonneg (by omega)]; rfl
theorem restD_zero (b : Int) (hb : 2 ≤ b) (k : Nat) (v : Int) (h0 : 0 ≤ v) : (restD b k v == 0) = decide (v < pw b k) := by
  have h1 := pw_pos b hb k
  rw [restD_div b hb k v h0, Bool.eq_iff_iff, beq_iff_eq, decide_eq_true_iff]
  constructor
  · intro h
    rcases Int.lt_or_le v (pw b k) with h2 | h2
    · exact h2
    · have := Int.ediv_le_ediv (show 0 < pw b k by omega) h2
      rw [Int.ediv_self (by omega)] at this; omega
  · intro h; exact Int.ediv_eq_zero_of_lt h0 h
/-- what holds of a runner all the time -/
structure RS.Good (s : RS) : Prop where
  m : vmach s.m = true
  tr : s.tr.length ≤ s.done
  done : s.code = 0 → s.done ≤ 3000
  top : s.done ≤ 3001
theorem setT_ok {t : Tri} (v : Int) (h : vmach t = true) (h0 : 0 ≤ v) (h1 : v < pw t.a.base t.a.digits.length) : vmach (setT t v) = true := by
  obtain ⟨k1, k2, k3, e1, e2, f1, f2, l1, c0, c1⟩ := vmach_all h
  obtain ⟨⟨b1, b2⟩, ⟨n1, n2⟩, hd, hl⟩ := vreg_iff.1 k1
  have hm := pw_mono t.a.base (by omega) _ _ l1
  rw [e1] at hm
  refine vmach_mk (t := setT t v) (digD_vreg _ b1 b2 _ (by omega) (by omega) v h0 h1 ?_) k2 k3 e1 e2 f1 f2 (by simp only [setT, digD_len]; exact l1) c0 (by simp only [setT, vplaces, digD_len]; exact c1)
  rw [e1] at h1; omega
theorem RS.Good.tick {s : RS} (h : s.Good) (hc : s.code = 0) : s.tick.Good := by
  have h1 := h.done hc
  have h2 := h.tr
  unfold RS.tick
  split
  · exact ⟨h.m, by simp only []; omega, (fun h => by cases h), by simp only []; omega⟩
  · exact ⟨h.m, by simp only []; omega, fun _ => by simp only []; omega, by simp only []; omega⟩
theorem RS.Good.stroke {s : RS} (h : s.Good) (hc : s.code = 0) (hd : ¬ s.done = 3000) (k : Int) : (RS.mk (strokeT k s.m).1 (s.tr ++ [k]) (s.done + 1) 0).Good := by
  have h1 := h.done hc
  have h2 := h.tr
  exact ⟨strokeT_ok k h.m, by simp; omega, fun _ => by simp only []; omega, by simp only []; omega⟩
theorem RS.Good.more {s : RS} (h : s.Good) (hc : s.code = 0) (hd : ¬ s.done = 3000) (t : Tri) (ht : vmach t = true) (c : Int) : (RS.mk t s.tr (s.done + 1) c).Good := by
  have h1 := h.done hc
  have h2 := h.tr
  exact ⟨ht, by simp only []; omega, fun _ => by simp only []; omega, by simp only []; omega⟩
end Go.Proofs.Ytikcifpdnbhpiaa

namespace Go.Proofs.Ytikcifpdnbhpiaa
open Go.RowKit Go.Sort
/-- what is known at index j of the search for the match of i -/
structure Seek (xs : List Ins) (i j : Nat) (d : Int) : Prop where
  le : i ≤ j
  lt : j < xs.length
  dep : d = depA xs j - depA xs i
  above : ∀ q, i < q → q ≤ j → depA xs i < depA xs q
theorem Seek.next {xs : List Ins} (h : vprog xs = true) {i j : Nat} {d : Int} (hs : Seek xs i j d) (ho : opens (xs[i]'(Nat.lt_of_le_of_lt hs.le hs.lt)).op = true) {d' : Int} (hd : d' = depA xs (j + 1) - depA xs i) (h0 : ¬ d' = 0) : Seek xs i (j + 1) d' := by
  have hn := dep_near h j
  have hi : i < xs.length := Nat.lt_of_le_of_lt hs.le hs.lt
  have hb := dep_bd h i
  have hge : depA xs i ≤ depA xs (j + 1) := by
    rcases Nat.lt_or_eq_of_le hs.le with h1 | h1
    · have := hs.above j h1 (Nat.le_refl _); omega
    · subst h1; rw [dep_open h hi ho]; omega
  have hl : j + 1 < xs.length := by
    rcases Nat.lt_or_ge (j + 1) xs.length with h1 | h1
    · exact h1
    · have := depA_end h h1; omega
  refine ⟨by have := hs.le; omega, hl, hd, fun q h1 h2 => ?_⟩
  rcases Nat.lt_or_eq_of_le h2 with h3 | h3
  · exact hs.above q h1 (by omega)
  · subst h3; omega
theorem Seek.found {xs : List Ins} {i j : Nat} {d : Int} (hs : Seek xs i j d) {d' : Int} (hd : d' = depA xs (j + 1) - depA xs i) (h0 : d' = 0) : IsMatch xs i j := ⟨hs.le, hs.lt, by omega, hs.above⟩
theorem Seek.zero {xs : List Ins} {i : Nat} (hi : i < xs.length) : Seek xs i i 0 := ⟨Nat.le_refl _, hi, by omega, fun q h1 h2 => by omega⟩
def MatchRet (xs : List Ins) (i : Nat) (w : World) (e : Ending) (w' : World) : Prop := ∃ f : Nat, e = .returned (.int .i64 f) ∧ IsMatch xs i f ∧ Below w.heap.size w w'
def MatchRet0 (xs : List Ins) (i : Nat) (w : World) (e : Ending) (w' : World) : Prop := ∃ f : Nat, e = .returned (.int .i64 f) ∧ IsMatch xs i f ∧ w = w'
end Go.Proofs.Ytikcifpdnbhpiaa

namespace Go.Proofs.Ytikcifpdnbhpiaa
open Go.RowKit Go.Sort
end Go.Proofs.Ytikcifpdnbhpiaa

namespace Go.Proofs.Ytikcifpdnbhpiaa
open Go.RowKit Go.Sort
theorem RegAt.below {w w' : World} {p : Addr} {b : Int} {A : Option Addr} {n c : Nat} (h : RegAt w p b A n c) (hb : Below w.heap.size w w') : RegAt w' p b A n c := by
  have hp : p.block < w.heap.size := World.block_lt_of_cell? w p h.1
  exact ⟨by rw [hb.cell hp]; exact h.1, by rw [hb.cell (by exact hp)]; exact h.2⟩
theorem l02Own_any (p : Addr) (b : Int) (A : Option Addr) (n c : Nat) (ds : List Int) (w : World) (hp : RegAt w p b A n c) (hr : RI w A n ds) (h0 : 0 < n) (hm : n ≤ 1000000) :
    Calls Try.prog 32 #[.pointer (some p)] w fun e w' => ∃ A' c', e = .returned (.agg #[.int .i64 b, .slice A' ds.length c']) ∧ Kn w [rowI A' c' ds] w' := by
  have KC := Lib.hid (fun W (hW : Below w.heap.size w W) => l00Own_any A n c ds W (hr.below hW) h0 hm)
  have hl := hr.1
  subst hl
  clear hr
  have HP := Lib.hid (fun W (hW : Below w.heap.size w W) => hp.below hW)
  go_enter Try.func32, Try.ntmps32
  go_wp2_with fail
  have hK2 := (Kn.nil w).al [.int .i64 0, .slice none 0 0] 26
  generalize w.alloc (.cells #[.int .i64 0, .slice none 0 0] 26) = w2 at hK2 ⊢
  have HG := Lib.hid (show _ ∧ _ from HP.out _ hK2.drew.below)
  go_region_held3 (fun W => W.cell? p = some (.int .i64 b) ∧ W.cell? ⟨p.block, p.off + 1, none⟩ = some (.slice A ds.length c))
    (first | with_reducible exact HG.out | with_reducible exact HS.out | exact HG.out) (first
    | (go_at_call 53; refine (KC.out _ hK2.drew.below).mono ?_; rintro e w4 ⟨A', c', rfl, hK⟩; have hK4 := hK2.drew.join hK; clear HG; have hq := HP.out _ hK4.below; have HG := Lib.hid (show _ ∧ _ from hq); obtain ⟨g1, f1, l1⟩ := hK4.drop.blkAt; have hK5 := (hK4.sw1.st 0 (.int .i64 b)).st 1 (.slice A' ds.length c'); have HS := Lib.hid (show _ ∧ _ from HP.out _ hK5.below)))
  all_goals
    go_wp2_with fail
    refine bodyPost_ret (v := .agg #[.int .i64 b, .slice A' ds.length c']) (by simp [results, Try.results32, go_sem, g1]) rfl ⟨A', c', rfl, ?_⟩
    exact hK5.drop
end Go.Proofs.Ytikcifpdnbhpiaa

namespace Go.Proofs.Ytikcifpdnbhpiaa
open Go.RowKit Go.Sort
/-- the first k numbers are 0 -/
def zeroUpto (k : Nat) (ds : List Int) : List Int := List.replicate k 0 ++ ds.drop k
theorem zeroUpto_len {k : Nat} {ds : List Int} (h : k ≤ ds.length) : (zeroUpto k ds).length = ds.length := by simp [zeroUpto]; omega
theorem zeroUpto_step {k : Nat} {ds : List Int} (h : k < ds.length) : (zeroUpto k ds).set k 0 = zeroUpto (k + 1) ds := by
  unfold zeroUpto
  rw [List.set_append_right _ _ (by simp), List.drop_eq_getElem_cons h, List.replicate_succ', List.length_replicate, Nat.sub_self, List.set_cons_zero, List.append_assoc]
  rfl
theorem zeroUpto_all (ds : List Int) : zeroUpto ds.length ds = List.replicate ds.length 0 := by simp [zeroUpto]
end Go.Proofs.Ytikcifpdnbhpiaa

namespace Go.Proofs.Ytikcifpdnbhpiaa
open Go.RowKit Go.Sort
end Go.Proofs.Ytikcifpdnbhpiaa

namespace Go.Proofs.Ytikcifpdnbhpiaa
open Go.RowKit Go.Sort
end Go.Proofs.Ytikcifpdnbhpiaa

namespace Go.Proofs.Ytikcifpdnbhpiaa
open Go.RowKit Go.Sort
end Go.Proofs.Ytikcifpdnbhpiaa

namespace Go.Proofs.Ytikcifpdnbhpiaa
open Go.RowKit Go.Sort
/-- the machine in block g, and its numbers -/
def MB (w0 : World) (g : Nat) (rest : List Value) (T : TypeId) (k : Tri) (m : List Ent) (w : World) : Prop := ∃ B1 d1 B2 d2 B3 d3, Kn w0 (.blk g (.int .i64 k.a.base :: .slice B1 k.a.digits.length d1 :: .int .i64 k.b.base :: .slice B2 k.b.digits.length d2 :: .int .i64 k.s.base :: .slice B3 k.s.digits.length d3 :: .int .i64 k.carry :: rest) T :: rowI B3 d3 k.s.digits :: rowI B2 d2 k.b.digits :: rowI B1 d1 k.a.digits :: m) w
end Go.Proofs.Ytikcifpdnbhpiaa

namespace Go.Proofs.Ytikcifpdnbhpiaa
open Go.RowKit Go.Sort
theorem MB.congr {w0 w : World} {g : Nat} {rest : List Value} {T : TypeId} {k k' : Tri} {m : List Ent} (h : MB w0 g rest T k m w) (e : k = k') : MB w0 g rest T k' m w := e ▸ h
end Go.Proofs.Ytikcifpdnbhpiaa

namespace Go.Proofs.Ytikcifpdnbhpiaa
open Go.RowKit Go.Sort
end Go.Proofs.Ytikcifpdnbhpiaa

namespace Go.Proofs.Ytikcifpdnbhpiaa
open Go.RowKit Go.Sort
/-- what SetValue returns for a valid machine -/
def SetRet (t : Tri) (v : Int) (w : World) (e : Ending) (w' : World) : Prop :=
  (v < pw t.a.base t.a.digits.length ∧ ∃ A1 c1 A2 c2 A3 c3, e = .returned (.tuple #[.agg #[.int .i64 t.a.base, .slice A1 (setT t v).a.digits.length c1, .int .i64 t.b.base, .slice A2 t.b.digits.length c2, .int .i64 t.s.base, .slice A3 t.s.digits.length c3, .int .i64 t.carry], .int .i64 0]) ∧
    Kn w [rowI A3 c3 t.s.digits, rowI A2 c2 t.b.digits, rowI A1 c1 (setT t v).a.digits] w') ∨
  (¬ v < pw t.a.base t.a.digits.length ∧ e = .returned (.tuple #[.agg #[.int .i64 0, .slice none 0 0, .int .i64 0, .slice none 0 0, .int .i64 0, .slice none 0 0, .int .i64 0], .int .i64 2]) ∧ Below w.heap.size w w')
end Go.Proofs.Ytikcifpdnbhpiaa

namespace Go.Proofs.Ytikcifpdnbhpiaa
open Go.RowKit Go.Sort
end Go.Proofs.Ytikcifpdnbhpiaa

namespace Go.Proofs.Ytikcifpdnbhpiaa
open Go.RowKit Go.Sort
end Go.Proofs.Ytikcifpdnbhpiaa

namespace Go.Proofs.Ytikcifpdnbhpiaa
open Go.RowKit Go.Sort
theorem instrOk_bd1 {op arg : Int} (h : instrOk op arg = true) : 1 ≤ op ∧ op ≤ 10 ∧ 0 ≤ arg ∧ arg ≤ 1000000000000 := by
  rcases op_cases op with rfl | rfl | rfl | rfl | rfl | rfl | rfl | rfl | rfl | rfl | h1
  rotate_right 1
  · rw [instrOk_else h1] at h; cases h
  all_goals
    simp [instrOk, betB] at h
    omega
theorem Ev.mono {L : List Ins} {t : Task} {s s' : RS} {b : Bool} (h : Ev L t s s' b) : s.done ≤ s'.done := by
  induction h with
  | s0 => exact Nat.le_refl _
  | sFull h => simp [RS.tick]
  | sStep h he ih => simp only [] at ih; omega
  | rEnd h => exact Nat.le_refl _
  | rCode hi h => exact Nat.le_refl _
  | rSetFull hi hl hc ho h => simp [RS.tick]
  | rSetBad hi hl hc ho h hf => simp
  | rSet hi hl hc ho h hf he ih => simp only [] at ih; omega
  | rLoop hi hl hc ho hm h1 he ih1 ih2 => omega
  | rStr hi hl hc ho h1' h1 he ih1 ih2 => omega
  | lEnd h8 hk => exact Nat.le_refl _
  | lFull h8 h => simp [RS.tick]
  | lOut h8 h h1 ho ih => simp only [] at ih; omega
  | lStep h8 h h1 ho he ih1 ih2 => simp only [] at ih1; omega
/-- what holds at the head of a round of a loop -/
def AtRound (L : List Ins) (x : Ins) (i e : Nat) (s : RS) (k : Nat) (s1 : RS) : Prop :=
  (s1.code = 0 ∧ (x.op = 8 → (k : Int) ≤ x.arg) ∧ ∀ s' b', Ev L (.loop x.op x.arg i e k) s1 s' b' → Ev L (.loop x.op x.arg i e 0) s s' false) ∨ (¬ s1.code = 0 ∧ Ev L (.loop x.op x.arg i e 0) s s1 false)
theorem AtRound.next {L : List Ins} {x : Ins} {i e : Nat} {s s1 s3 : RS} {k : Nat} {b3 : Bool} (HE : ∀ s' b', Ev L (.loop x.op x.arg i e k) s1 s' b' → Ev L (.loop x.op x.arg i e 0) s s' false) (hne : ¬ (x.op = 8 ∧ x.arg ≤ (k : Int))) (hd : ¬ s1.done = 3000)
    (he : Ev L (.run i e) ⟨s1.m, s1.tr, s1.done + 1, 0⟩ s3 b3) (h9 : ¬ (x.op = 9 ∧ b3 = true)) (h8 : x.op = 8 → (k : Int) + 1 ≤ x.arg) : AtRound L x i e s (k + 1) s3 := by
  by_cases hc : s3.code = 0
  · exact .inl ⟨hc, fun h => by have := h8 h; omega, fun s' b' h => HE s' false (Ev.lStep hne hd he ⟨hc, h9⟩ h)⟩
  · exact .inr ⟨hc, HE s3 false (Ev.lOut hne hd he (.inl hc))⟩
end Go.Proofs.Ytikcifpdnbhpiaa

namespace Go.Proofs.Ytikcifpdnbhpiaa
open Go.RowKit Go.Sort
theorem Ev.stop {L : List Ins} {j tt : Nat} {s s' : RS} {b : Bool} (h : Ev L (.run j tt) s s' b) (hc : ¬ s.code = 0) : s' = s ∧ b = false := by
  cases h <;> first | exact ⟨rfl, rfl⟩ | contradiction
end Go.Proofs.Ytikcifpdnbhpiaa

namespace Go.Proofs.Ytikcifpdnbhpiaa
open Go.RowKit Go.Sort
end Go.Proofs.Ytikcifpdnbhpiaa

namespace Go.Proofs.Ytikcifpdnbhpiaa
open Go.RowKit Go.Sort
end Go.Proofs.Ytikcifpdnbhpiaa

namespace Go.Proofs.Ytikcifpdnbhpiaa
open Go.RowKit Go.Sort
theorem box8 {w0 w : World} {m : List Ent} {g g' : Nat} {v0 v1 v2 v3 v4 v5 v6 y0 y1 : Value} {l : List Value} {r1 r2 r3 r4 : Ent} {T T' : TypeId} (h : Kn w0 (.blk g (v0 :: v1 :: v2 :: v3 :: v4 :: v5 :: v6 :: l) T :: r1 :: r2 :: r3 :: r4 :: .blk g' [y0, y1] T' :: m) w) :
    w.cell? ⟨g, 0, none⟩ = some v0 ∧ w.cell? ⟨g, 1, none⟩ = some v1 ∧ w.cell? ⟨g, 2, none⟩ = some v2 ∧ w.cell? ⟨g, 3, none⟩ = some v3 ∧ w.cell? ⟨g, 4, none⟩ = some v4 ∧ w.cell? ⟨g, 5, none⟩ = some v5 ∧ w.cell? ⟨g, 6, none⟩ = some v6 ∧ w.cell? ⟨g', 1, none⟩ = some y1 :=
  ⟨h.blkAt.1 0, h.blkAt.1 1, h.blkAt.1 2, h.blkAt.1 3, h.blkAt.1 4, h.blkAt.1 5, h.blkAt.1 6, h.drop.drop.drop.drop.drop.blkAt.1 1⟩
end Go.Proofs.Ytikcifpdnbhpiaa

namespace Go.Proofs.Ytikcifpdnbhpiaa
open Go.RowKit Go.Sort
/-- how a run begins -/
def startR (t : Tri) : RS := ⟨t, [], 0, 0⟩
theorem startR_good {t : Tri} (h : vmach t = true) : (startR t).Good := ⟨h, Nat.le_refl _, fun _ => by simp [startR], by simp [startR]⟩
theorem sized_of {t : Tri} (h : vmach t = true) : Sized t := by
  obtain ⟨q1, q2, q3, -⟩ := vmach_all h
  obtain ⟨-, ⟨n1, n2⟩, -⟩ := vreg_iff.1 q1
  obtain ⟨-, ⟨n3, n4⟩, -⟩ := vreg_iff.1 q2
  obtain ⟨-, ⟨n5, n6⟩, -⟩ := vreg_iff.1 q3
  exact ⟨n1, n3, n5, n2, n4, n6⟩
end Go.Proofs.Ytikcifpdnbhpiaa

namespace Go.Proofs.Ytikcifpdnbhpiaa
open Go.RowKit Go.Sort
instance : Inhabited RS := ⟨⟨default, [], 0, 0⟩⟩
/-- where a run ends -/
noncomputable def endR (L : List Ins) (t : Tri) : RS := Classical.epsilon (fun s' => ∃ b', Ev L (.run 0 L.length) (startR t) s' b')
theorem endR_eq {L : List Ins} {t : Tri} {s' : RS} {b' : Bool} (h : Ev L (.run 0 L.length) (startR t) s' b') : endR L t = s' := by
  obtain ⟨b2, h2⟩ := Classical.epsilon_spec (p := fun s' => ∃ b', Ev L (.run 0 L.length) (startR t) s' b') ⟨s', b', h⟩
  exact (h2.one h).1
noncomputable def rpC (L : List Ins) (t : Tri) : Int := if vmach t && vprog L then (endR L t).code else 1
noncomputable def rpM (L : List Ins) (t : Tri) : Tri := if rpC L t = 0 ∧ vmach (endR L t).m = true then (endR L t).m else zTri
noncomputable def rpT (L : List Ins) (t : Tri) : List Int := if rpC L t = 0 ∧ (endR L t).tr.length ≤ 3001 then (endR L t).tr else []
theorem rp_bad {L : List Ins} {t : Tri} (h : (vmach t && vprog L) = false) : rpC L t = 1 ∧ rpM L t = zTri ∧ rpT L t = [] := by
  have h1 : rpC L t = 1 := by unfold rpC; rw [h]; rfl
  refine ⟨h1, ?_, ?_⟩
  · unfold rpM; rw [h1, if_neg (fun h => absurd h.1 (by decide))]
  · unfold rpT; rw [h1, if_neg (fun h => absurd h.1 (by decide))]
theorem rp_code {L : List Ins} {t : Tri} (h1 : vmach t = true) (h2 : vprog L = true) {s' : RS} {b' : Bool} (h : Ev L (.run 0 L.length) (startR t) s' b') (hc : ¬ s'.code = 0) : rpC L t = s'.code ∧ rpM L t = zTri ∧ rpT L t = [] := by
  have h3 : rpC L t = s'.code := by unfold rpC; rw [h1, h2, endR_eq h]; rfl
  refine ⟨h3, ?_, ?_⟩
  · unfold rpM; rw [h3, if_neg (fun h => hc h.1)]
  · unfold rpT; rw [h3, if_neg (fun h => hc h.1)]
theorem rp_fine {L : List Ins} {t : Tri} (h1 : vmach t = true) (h2 : vprog L = true) {s' : RS} {b' : Bool} (h : Ev L (.run 0 L.length) (startR t) s' b') (hg : s'.Good) (hc : s'.code = 0) : rpC L t = 0 ∧ rpM L t = s'.m ∧ rpT L t = s'.tr := by
  have h3 : rpC L t = 0 := by unfold rpC; rw [h1, h2, endR_eq h]; exact hc
  refine ⟨h3, ?_, ?_⟩
  · unfold rpM; rw [h3, endR_eq h, if_pos ⟨rfl, hg.m⟩]
  · unfold rpT; rw [h3, endR_eq h, if_pos ⟨rfl, by have := hg.tr; have := hg.top; omega⟩]
theorem rpM_len (L : List Ins) (t : Tri) : (rpM L t).a.digits.length ≤ 16 ∧ (rpM L t).b.digits.length ≤ 16 ∧ (rpM L t).s.digits.length ≤ 16 := by
  unfold rpM
  split
  · rename_i h
    have := sized_of h.2
    exact ⟨this.a, this.b, this.s⟩
  · simp [zTri]
theorem rpT_len (L : List Ins) (t : Tri) : (rpT L t).length ≤ 3001 := by
  unfold rpT
  split
  · rename_i h; exact h.2
  · simp
/-- what RunProgram returns -/
def RPRet (L : List Ins) (t : Tri) (w : World) (e : Ending) (w' : World) : Prop := ∃ A1 c1 A2 c2 A3 c3, e = .returned (.tuple #[.agg #[.int .i64 (rpM L t).a.base, .slice A1 (rpM L t).a.digits.length c1, .int .i64 (rpM L t).b.base, .slice A2 (rpM L t).b.digits.length c2, .int .i64 (rpM L t).s.base, .slice A3 (rpM L t).s.digits.length c3, .int .i64 (rpM L t).carry], .int .i64 ((rpT L t).length : Int), .int .i64 (rpC L t)]) ∧
  Kn w [rowI A3 c3 (rpM L t).s.digits, rowI A2 c2 (rpM L t).b.digits, rowI A1 c1 (rpM L t).a.digits] w'
/-- what TraceProgram returns -/
def TPRet (L : List Ins) (t : Tri) (w : World) (e : Ending) (w' : World) : Prop := ∃ A c, e = .returned (.tuple #[.slice A (rpT L t).length c, .int .i64 (rpC L t)]) ∧ Kn w [rowI A c (rpT L t)] w'
end Go.Proofs.Ytikcifpdnbhpiaa

/- rows of instructions -/
namespace Go.Proofs.Ytikcifpdnbhpiaa
open Go.RowKit Go.Sort
def cellsIns (xs : List Ins) : List Value := xs.flatMap fun x => [.int .i64 x.op, .int .i64 x.arg]
theorem cellsIns_len (xs : List Ins) : (cellsIns xs).length = xs.length * 2 := by
  induction xs with
  | nil => rfl
  | cons x xs ih => unfold cellsIns at *; rw [List.flatMap_cons, List.length_append, ih]; simp; omega
theorem cellsIns_snoc (xs : List Ins) (x : Ins) : cellsIns (xs ++ [x]) = cellsIns xs ++ [.int .i64 x.op, .int .i64 x.arg] := by simp [cellsIns]
theorem cellsIns_get : ∀ (xs : List Ins) (k : Nat) (h : k < xs.length), (cellsIns xs)[k * 2]? = some (.int .i64 xs[k].op) ∧ (cellsIns xs)[k * 2 + 1]? = some (.int .i64 xs[k].arg)
  | [], k, h => by simp at h
  | x :: xs, 0, h => by simp [cellsIns]
  | x :: xs, k + 1, h => by
    have h1 := cellsIns_get xs k (by simpa using h)
    have h2 : cellsIns (x :: xs) = .int .i64 x.op :: .int .i64 x.arg :: cellsIns xs := by simp [cellsIns]
    rw [h2, show (k + 1) * 2 = k * 2 + 1 + 1 by omega]
    simp only [List.getElem?_cons_succ, List.getElem_cons_succ]
    exact h1
theorem cellsIns_one (xs : List Ins) : ∀ u ∈ cellsIns xs, u.oneCell' = true := by
  intro u hu
  obtain ⟨x, -, h⟩ := List.mem_flatMap.1 hu
  simp at h
  rcases h with rfl | rfl <;> rfl
end Go.Proofs.Ytikcifpdnbhpiaa

namespace Go.Proofs.Ytikcifpdnbhpiaa
open Go.RowKit Go.Sort
theorem cellsIns_app (xs ys : List Ins) : cellsIns (xs ++ ys) = cellsIns xs ++ cellsIns ys := by simp [cellsIns]
/-- the program that divides -/
def divHead (p : Nat) : List Ins := if 1 < p then [⟨4, (p : Int) - 1⟩] else []
def divPart (p j : Nat) : List Ins := [⟨9, 0⟩, ⟨3, 1⟩, ⟨10, 0⟩, ⟨2, 1⟩] ++ (if j + 1 < p then [⟨5, 1⟩] else [])
def divUpto (p : Nat) : Nat → List Ins
  | 0 => divHead p
  | j + 1 => divUpto p j ++ divPart p j
def divProg (p : Nat) : List Ins := divUpto p p
theorem divUpto_len (p j : Nat) : (divUpto p j).length ≤ 1 + 5 * j := by
  induction j with
  | zero => simp only [divUpto, divHead]; split <;> simp
  | succ j ih => simp only [divUpto, divPart, List.length_append]; split <;> simp <;> omega
theorem divProg_ok {p : Nat} (h1 : 1 ≤ p) (h2 : p ≤ 16) : vprog (divProg p) = true := by
  have H : ∀ p : Fin 17, 1 ≤ p.val → vprog (divProg p.val) = true := by decide +kernel
  exact H ⟨p, by omega⟩ h1
end Go.Proofs.Ytikcifpdnbhpiaa

namespace Go.Proofs.Ytikcifpdnbhpiaa
open Go.RowKit Go.Sort
/-- a fresh machine of a base and widths -/
def newT (b : Int) (n1 n2 n3 : Nat) : Tri := ⟨⟨b, digD b n1 0⟩, ⟨b, digD b n2 0⟩, ⟨b, digD b n3 0⟩, 0⟩
end Go.Proofs.Ytikcifpdnbhpiaa

namespace Go.Proofs.Ytikcifpdnbhpiaa
open Go.RowKit Go.Sort
/-- a base and widths are those of machines -/
def nmOk (b n1 n2 n3 : Int) : Bool := (betB b 2 16 && betB n1 1 16 && betB n2 1 16 && betB n3 1 16) && vmach (newT b n1.toNat n2.toNat n3.toNat)
theorem regWidth_any (n : Int) (w : World) : Calls Try.prog 61 #[.int .i64 n] w fun e w' => e = .returned (.bool (betB n 1 16)) ∧ w = w' := by
  go_enter Try.func61, Try.ntmps61
  go_wp2_with (go_at_call 27; refine (between_any _ _ _ _).mono ?_; rintro e w' ⟨rfl, rfl⟩)
  go_ret
  exact ⟨rfl, rfl⟩
/-- what NewMachine returns for widths in range -/
def NMRet (b : Int) (n1 n2 n3 : Nat) (v : Bool) (w : World) (e : Ending) (w' : World) : Prop :=
  (v = true ∧ ∃ E1 g1 E2 g2 E3 g3, e = .returned (.tuple #[.agg #[.int .i64 b, .slice E1 (digD b n1 0).length g1, .int .i64 b, .slice E2 (digD b n2 0).length g2, .int .i64 b, .slice E3 (digD b n3 0).length g3, .int .i64 0], .int .i64 0]) ∧ Kn w [rowI E3 g3 (digD b n3 0), rowI E2 g2 (digD b n2 0), rowI E1 g1 (digD b n1 0)] w') ∨
  (v = false ∧ e = .returned (.tuple #[.agg #[.int .i64 0, .slice none 0 0, .int .i64 0, .slice none 0 0, .int .i64 0, .slice none 0 0, .int .i64 0], .int .i64 2]) ∧ Below w.heap.size w w')
end Go.Proofs.Ytikcifpdnbhpiaa

namespace Go.Proofs.Ytikcifpdnbhpiaa
open Go.RowKit Go.Sort
/-- accumulators: which registers they are, and what they show -/
def aOk (b : Int) (ds : List Int) : Bool := vreg b ds && decide (pw b ds.length ≤ 1000000000001)
def aSize (b : Int) (ds : List Int) : Int := if aOk b ds = true then pw b ds.length else 0
def isNm (n x : Int) : Bool := betB x (-(n.tdiv 2)) (n - 1 - n.tdiv 2)
def aNum (b : Int) (ds : List Int) : Int := if valL b ds ≤ pw b ds.length - 1 - (pw b ds.length).tdiv 2 then valL b ds else valL b ds - pw b ds.length
def aNorm (n x : Int) : Int := (x.tmod n + n).tmod n
def aSet (b : Int) (k : Nat) (x : Int) : List Int := digD b k (aNorm (pw b k) x)
theorem aOk_iff {b : Int} {ds : List Int} : aOk b ds = true ↔ vreg b ds = true ∧ pw b ds.length ≤ 1000000000001 := by
  unfold aOk; rw [Bool.and_eq_true, decide_eq_true_eq]
theorem aNorm_bd {n x : Int} (hn : 1 ≤ n) : 0 ≤ aNorm n x ∧ aNorm n x < n := by
  unfold aNorm
  have h1 : -n < x.tmod n ∧ x.tmod n < n := by
    rcases Int.le_total 0 x with h | h
    · rw [Int.tmod_eq_emod_of_nonneg h]
      have := Int.emod_nonneg x (show n ≠ 0 by omega)
      have := Int.emod_lt_of_pos x (show 0 < n by omega)
      omega
    · have h2 := Int.neg_tmod (-x) n
      rw [Int.neg_neg] at h2
      rw [h2, Int.tmod_eq_emod_of_nonneg (by omega)]
      have := Int.emod_nonneg (-x) (show n ≠ 0 by omega)
      have := Int.emod_lt_of_pos (-x) (show 0 < n by omega)
      omega
  rw [Int.tmod_eq_emod_of_nonneg (by omega)]
  exact ⟨Int.emod_nonneg _ (by omega), Int.emod_lt_of_pos _ (by omega)⟩
theorem half_bd {n : Int} (hn : 0 ≤ n) : 0 ≤ n.tdiv 2 ∧ 2 * n.tdiv 2 ≤ n ∧ n ≤ 2 * n.tdiv 2 + 1 := by
  rw [Int.tdiv_eq_ediv_of_nonneg hn]; omega
theorem valL_in {b : Int} {ds : List Int} (h : aOk b ds = true) : 0 ≤ valL b ds ∧ valL b ds < pw b ds.length ∧ 1 ≤ pw b ds.length ∧ pw b ds.length ≤ 1000000000001 := by
  obtain ⟨h1, h2⟩ := aOk_iff.1 h
  obtain ⟨⟨b1, b2⟩, -, hd, -⟩ := vreg_iff.1 h1
  exact ⟨(valL_bd b b1 ds (fun d hd' => (hd d hd').1)).1, valL_lt b b1 ds hd, pw_pos b b1 _, h2⟩
theorem aNum_bd {b : Int} {ds : List Int} (h : aOk b ds = true) : -1000000000001 ≤ aNum b ds ∧ aNum b ds ≤ 1000000000001 := by
  have := valL_in h
  unfold aNum
  split <;> omega
theorem numbersOf_any (b : Int) (k : Nat) (w : World) (hb1 : 2 ≤ b) (hb2 : b ≤ 16) (h1 : 1 ≤ k) (h2 : k ≤ 16) :
    Calls Try.prog 48 #[.int .i64 b, .int .i64 k] w fun e w' => e = .returned (.int .i64 (powC b k)) ∧ w = w' := by
  have KB := Lib.hid (fun W => calls_val (isBase_any b W) (congrArg Value.bool (betB_iff.2 ⟨hb1, hb2⟩)))
  have KW := Lib.hid (fun W => calls_val (regWidth_any k W) (congrArg Value.bool (betB_iff.2 (show (1 : Int) ≤ k ∧ (k : Int) ≤ 16 by omega))))
  have KP := Lib.hid (fun W => power_any b k W hb1 hb2 (by omega))
  go_enter Try.func48, Try.ntmps48
  go_wp2_with (first | (go_at_call 60; refine (KB.out _).mono ?_; rintro e w' ⟨rfl, rfl⟩) | (go_at_call 61; refine (KW.out _).mono ?_; rintro e w' ⟨rfl, rfl⟩) | (go_at_call 66; refine (KP.out _).mono ?_; rintro e w' ⟨rfl, rfl⟩))
  go_ret
  exact ⟨rfl, rfl⟩
set_option maxRecDepth 100000 in
theorem size_any (b : Int) (A : Option Addr) (c : Nat) (ds : List Int) (w : World) (hr : RI w A ds.length ds) (hm : ds.length ≤ 9223372036854775807) :
    Calls Try.prog 26 #[.agg #[.int .i64 b, .slice A ds.length c]] w fun e w' => e = .returned (.int .i64 (aSize b ds)) ∧ Below w.heap.size w w' := by
  have KV := (fun W (hW : Below w.heap.size w W) => ValidRegister_any b A ds.length c ds W (hr.below hW) hm)
  rcases hv : vreg b ds with _ | _
  · rw [hv] at KV
    have HS := Lib.hid (show aSize b ds = 0 by unfold aSize aOk; rw [hv]; rfl)
    have KV := Lib.hid KV
    clear hv hr
    go_enter Try.func26, Try.ntmps26
    go_wp2_with fail
    refine Calls.kn ((Kn.nil w).al [.int .i64 b, .slice A ds.length c] 26) ?_; intro w1 hK1
    refine (KV.out _ hK1.below).mono ?_; rintro e w2 ⟨rfl, hw⟩
    have hK2 := hK1.keep hw
    go_wp2_with fail
    go_ret
    exact ⟨ret_int HS.out.symm, hK2.below⟩
  rw [hv] at KV
  obtain ⟨⟨b1, b2⟩, ⟨n1, n2⟩, -⟩ := vreg_iff.1 hv
  have HS := Lib.hid (show aSize b ds = powC b ds.length by
    unfold aSize aOk powC
    rw [hv]
    by_cases h : pw b ds.length ≤ 1000000000001
    · rw [if_pos h, if_pos (by simpa using h)]
    · rw [if_neg h, if_neg (by simpa using h)])
  have KV := Lib.hid KV
  have KW := Lib.hid (fun W => width_any b A ds.length c W)
  have KN := Lib.hid (fun W => numbersOf_any b ds.length W b1 b2 n1 n2)
  clear hv hr
  go_enter Try.func26, Try.ntmps26
  go_wp2_with fail
  refine Calls.kn ((Kn.nil w).al [.int .i64 b, .slice A ds.length c] 26) ?_; intro w1 hK1
  refine (KV.out _ hK1.below).mono ?_; rintro e w2 ⟨rfl, hw⟩
  have hK2 := hK1.keep hw
  clear hK1 hw
  go_wp2_with fail
  have HG := Lib.hid (box2 hK2.drew)
  go_region_held3 (fun W => W.cell? ⟨w.heap.size, 0, none⟩ = some (.int .i64 b) ∧ W.cell? ⟨w.heap.size, 1, none⟩ = some (.slice A ds.length c)) (first | with_reducible exact HG.out | exact HG.out) (first
    | (go_at_call 37; (with_reducible refine (KW.out _).mono ?_); rintro e w3 ⟨rfl, hw⟩; have hK3 := hK2.drew.keep hw; clear HG; have HG := Lib.hid (box2 hK3))
    | (go_at_call 48; (with_reducible refine (KN.out _).mono ?_); rintro e w4 ⟨rfl, rfl⟩))
  all_goals
    go_wp2_with fail
    go_ret
    exact ⟨ret_int HS.out.symm, hK3.below⟩
theorem isNumber_any (n x : Int) (w : World) (h0 : 0 ≤ n) (h1 : n ≤ 1000000000001) :
    Calls Try.prog 50 #[.int .i64 n, .int .i64 x] w fun e w' => e = .returned (.bool (isNm n x)) ∧ w = w' := by
  have hh := half_bd h0
  have HN := Lib.hid (show isNm n x = betB x (-(n.tdiv 2)) (n - 1 - n.tdiv 2) from rfl)
  obtain ⟨q, hq⟩ : ∃ q, n.tdiv 2 = q := ⟨_, rfl⟩
  rw [hq] at hh HN
  have w1 : IntKind.i64.wrap q = q := wrapI64 (by omega)
  have w2 : IntKind.i64.wrap (-q) = -q := wrapI64 (by omega)
  have w3 : IntKind.i64.wrap (n - 1) = n - 1 := wrapI64 (by omega)
  have w4 : IntKind.i64.wrap (n - 1 - q) = n - 1 - q := wrapI64 (by omega)
  have w5 : IntKind.i64.wrap (n.tdiv 2) = q := by rw [hq]; exact w1
  go_enter Try.func50, Try.ntmps50
  go_wp2_with (go_at_call 27; refine (between_any _ _ _ _).mono ?_; rintro e w' ⟨rfl, rfl⟩)
  go_ret
  exact ⟨ret_bool HN.out.symm, rfl⟩
set_option maxRecDepth 100000 in
theorem accumulator_any (b : Int) (k : Nat) (n x : Int) (w : World) (hb1 : 2 ≤ b) (hb2 : b ≤ 16) (hk : k ≤ 16) (hn : pw b k = n) (hn2 : n ≤ 1000000000001) (hx : -9000000000000000000 ≤ x ∧ x ≤ 9000000000000000000) :
    Calls Try.prog 49 #[.int .i64 b, .int .i64 k, .int .i64 n, .int .i64 x] w fun e w' => ∃ A c, e = .returned (.agg #[.int .i64 b, .slice A (aSet b k x).length c]) ∧ Kn w [rowI A c (aSet b k x)] w' := by
  have hn1 := pw_pos b hb1 k
  rw [hn] at hn1
  have hbd := aNorm_bd (x := x) hn1
  have KR := (fun W => registerOf_any b k (aNorm n x) W hb1 hb2 (by omega) hbd.1 (by omega))
  have hs : aSet b k x = digD b k (aNorm n x) := by unfold aSet; rw [hn]
  rw [hs]
  obtain ⟨ds, hds⟩ : ∃ ds, digD b k (aNorm n x) = ds := ⟨_, rfl⟩
  obtain ⟨ok, hok⟩ : ∃ ok, (restD b k (aNorm n x) == 0) = ok := ⟨_, rfl⟩
  rw [hds, hok] at KR
  rw [hds]
  have ht : -n < x.tmod n ∧ x.tmod n < n := by
    rcases Int.le_total 0 x with h | h
    · rw [Int.tmod_eq_emod_of_nonneg h]
      have := Int.emod_nonneg x (show n ≠ 0 by omega)
      have := Int.emod_lt_of_pos x (show 0 < n by omega)
      omega
    · have h2 := Int.neg_tmod (-x) n
      rw [Int.neg_neg] at h2
      rw [h2, Int.tmod_eq_emod_of_nonneg (by omega)]
      have := Int.emod_nonneg (-x) (show n ≠ 0 by omega)
      have := Int.emod_lt_of_pos (-x) (show 0 < n by omega)
      omega
  have ha : aNorm n x = (x.tmod n + n).tmod n := rfl
  obtain ⟨y, hy⟩ : ∃ y, aNorm n x = y := ⟨_, rfl⟩
  rw [hy] at KR hbd ha
  obtain ⟨z, hz⟩ : ∃ z, x.tmod n = z := ⟨_, rfl⟩
  rw [hz] at ht ha
  have nz1 : n ≠ 0 := by omega
  have nz2 : (n == 0) = false := by simp; omega
  have w1 : IntKind.i64.wrap z = z := wrapI64 (by omega)
  have w2 : IntKind.i64.wrap (z + n) = z + n := wrapI64 (by omega)
  have w3 : IntKind.i64.wrap ((z + n).tmod n) = y := by rw [← ha]; exact wrapI64 (by omega)
  have w4 : IntKind.i64.wrap (x.tmod n) = z := by rw [hz]; exact w1
  have ha2 : (z + n).tmod n = y := ha.symm
  have w5 : IntKind.i64.wrap y = y := wrapI64 (by omega)
  have KR := Lib.hid KR
  clear hs hds hok hn hy ha
  go_enter Try.func49, Try.ntmps49
  go_wp2_with fail
  refine Calls.kn ((Kn.nil w).al [.int .i64 0, .slice none 0 0] 26) ?_; intro w1 hK1
  (with_reducible refine (KR.out _).mono ?_); rintro e w2 ⟨E, g, rfl, hKn⟩
  have hK2 := hK1.join hKn
  clear hK1 hKn
  obtain ⟨a1, a2, a3, -⟩ := hK2.cells
  go_wp2_with fail
  refine bodyPost.kn ((((hK2.front 1 rfl).st 0 (.int .i64 b)).st 1 (.slice E ds.length g)).al_ (.cells #[.int .i64 b, .slice E ds.length g] 26)) ?_; intro w9 hK9
  clear a1 a2 a3
  obtain ⟨a1, a2, a3, -⟩ := hK9.cells
  exact bodyPost_ret (v := .agg #[.int .i64 b, .slice E ds.length g]) (by simp [results, Try.results49, go_sem, a1]) rfl ⟨E, g, rfl, hK9.sel [1] 99 (by decide) (by decide)⟩
end Go.Proofs.Ytikcifpdnbhpiaa

namespace Go.Proofs.Ytikcifpdnbhpiaa
open Go.RowKit Go.Sort
set_option maxRecDepth 100000 in
theorem number_any (b : Int) (A : Option Addr) (c : Nat) (ds : List Int) (w : World) (hr : RI w A ds.length ds) (ho : aOk b ds = true) :
    Calls Try.prog 38 #[.agg #[.int .i64 b, .slice A ds.length c]] w fun e w' => e = .returned (.int .i64 (aNum b ds)) ∧ Below w.heap.size w w' := by
  obtain ⟨h1, h2⟩ := aOk_iff.1 ho
  obtain ⟨⟨b1, b2⟩, ⟨n1, n2⟩, hd, -⟩ := vreg_iff.1 h1
  have hv := valL_in ho
  have hh := half_bd (n := pw b ds.length) (by omega)
  have KS := (fun W (hW : Below w.heap.size w W) => size_any b A c ds W (hr.below hW) (by omega))
  have hs : aSize b ds = pw b ds.length := by unfold aSize; rw [if_pos ho]
  rw [hs] at KS
  have KV := (fun W (hW : Below w.heap.size w W) => value_any b A ds.length c ds W b1 b2 hd (hr.below hW) n2)
  have HN := (show aNum b ds = if valL b ds ≤ pw b ds.length - 1 - (pw b ds.length).tdiv 2 then valL b ds else valL b ds - pw b ds.length from rfl)
  obtain ⟨n, hn⟩ : ∃ n, pw b ds.length = n := ⟨_, rfl⟩
  obtain ⟨v, hvv⟩ : ∃ v, valL b ds = v := ⟨_, rfl⟩
  rw [hn] at KS HN hh hv
  rw [hvv] at KV HN hv
  obtain ⟨q, hq⟩ : ∃ q, n.tdiv 2 = q := ⟨_, rfl⟩
  rw [hq] at hh HN
  have w1 : IntKind.i64.wrap q = q := wrapI64 (by omega)
  have w3 : IntKind.i64.wrap (n - 1) = n - 1 := wrapI64 (by omega)
  have w4 : IntKind.i64.wrap (n - 1 - q) = n - 1 - q := wrapI64 (by omega)
  have w5 : IntKind.i64.wrap (n.tdiv 2) = q := by rw [hq]; exact w1
  have w6 : IntKind.i64.wrap (v - n) = v - n := wrapI64 (by omega)
  replace HN := Lib.hid HN
  have KS := Lib.hid KS
  have KV := Lib.hid KV
  clear hr ho h1 h2 hd hn hvv hs n1 n2 b1 b2
  go_enter Try.func38, Try.ntmps38
  go_wp2_with fail
  have hK1 := (Kn.nil w).al [.int .i64 b, .slice A ds.length c] 26
  generalize w.alloc (.cells #[.int .i64 b, .slice A ds.length c] 26) = wa at hK1 ⊢
  have HG := Lib.hid (box2 hK1.drew)
  go_cut [3, 4] (fun pp oo wx => pp = .int .i64 n ∧ oo = .int .i64 v ∧ Kn w [] wx)
  case first =>
    go_region_held3 (fun W => W.cell? ⟨w.heap.size, 0, none⟩ = some (.int .i64 b) ∧ W.cell? ⟨w.heap.size, 1, none⟩ = some (.slice A ds.length c)) (first | with_reducible exact HG.out | exact HG.out) (first
      | (go_at_call 26; (with_reducible refine (KS.out _ hK1.drew.below).mono ?_); rintro e w3 ⟨rfl, hw⟩; have hK3 := hK1.drew.keep hw; clear HG; have HG := Lib.hid (box2 hK3))
      | (go_at_call 56; (with_reducible refine (KV.out _ hK3.below).mono ?_); rintro e w4 ⟨rfl, hw⟩; have hK4 := hK3.keep hw; clear HG; have HG := Lib.hid (box2 hK4)))
    all_goals
      go_wp2_with fail
      go_meet
      exact ⟨rfl, rfl, hK4.bare⟩
  case rest =>
    obtain ⟨rfl, rfl, hK5⟩ := hcut
    clear HG hK1
    by_cases hc : v ≤ n - 1 - q
    · have HE := Lib.hid (show aNum b ds = v by rw [HN.out, if_pos hc])
      go_wp2_with fail
      go_ret
      exact ⟨ret_int HE.out.symm, hK5.below⟩
    · have HE := Lib.hid (show aNum b ds = v - n by rw [HN.out, if_neg hc])
      go_wp2_with fail
      go_ret
      exact ⟨ret_int HE.out.symm, hK5.below⟩
set_option maxRecDepth 100000 in
set_option maxHeartbeats 1600000 in
theorem accumulated_any (b : Int) (A : Option Addr) (c : Nat) (ds : List Int) (x : Int) (w : World) (hr : RI w A ds.length ds) (ho : aOk b ds = true) (hx : -4000000000000 ≤ x ∧ x ≤ 4000000000000) :
    Calls Try.prog 29 #[.agg #[.int .i64 b, .slice A ds.length c], .int .i64 x] w fun e w' => ∃ E g, e = .returned (.tuple #[.agg #[.int .i64 b, .slice E (aSet b ds.length (aNum b ds + x)).length g], .bool (!isNm (pw b ds.length) (aNum b ds + x))]) ∧ Kn w [rowI E g (aSet b ds.length (aNum b ds + x))] w' := by
  obtain ⟨h1, h2⟩ := aOk_iff.1 ho
  obtain ⟨⟨b1, b2⟩, ⟨n1, n2⟩, hd, -⟩ := vreg_iff.1 h1
  have hv := valL_in ho
  have hnb := aNum_bd ho
  have KS := (fun W (hW : Below w.heap.size w W) => size_any b A c ds W (hr.below hW) (by omega))
  have hs : aSize b ds = pw b ds.length := by unfold aSize; rw [if_pos ho]
  rw [hs] at KS
  have KN := (fun W (hW : Below w.heap.size w W) => number_any b A c ds W (hr.below hW) ho)
  have KA := (fun W => accumulator_any b ds.length (pw b ds.length) (aNum b ds + x) W b1 b2 n2 rfl hv.2.2.2 (by omega))
  have KI := (fun W => isNumber_any (pw b ds.length) (aNum b ds + x) W (by omega) hv.2.2.2)
  have KW := Lib.hid (fun W => width_any b A ds.length c W)
  obtain ⟨n, hn⟩ : ∃ n, pw b ds.length = n := ⟨_, rfl⟩
  obtain ⟨u, hu⟩ : ∃ u, aNum b ds = u := ⟨_, rfl⟩
  obtain ⟨y, hy⟩ : ∃ y, u + x = y := ⟨_, rfl⟩
  rw [hn] at KS KA KI hv
  rw [hu] at KN KA KI hnb
  rw [hn, hu]
  rw [hy] at KA KI ⊢
  obtain ⟨es, hes⟩ : ∃ l, aSet b ds.length y = l := ⟨_, rfl⟩
  obtain ⟨r, hr'⟩ : ∃ r, isNm n y = r := ⟨_, rfl⟩
  rw [hes] at KA ⊢
  rw [hr'] at KI ⊢
  have w1 : IntKind.i64.wrap (u + x) = y := by rw [← hy]; exact wrapI64 (by omega)
  have w2 : IntKind.i64.wrap y = y := wrapI64 (by omega)
  have KS := Lib.hid KS
  have KN := Lib.hid KN
  have KA := Lib.hid KA
  have KI := Lib.hid KI
  clear hr ho h1 h2 hd hn hu hs n1 n2 b1 b2 hes hr'
  go_enter Try.func29, Try.ntmps29
  go_wp2_with fail
  have hK1 := ((Kn.nil w).al [.int .i64 b, .slice A ds.length c] 26).al [.int .i64 0, .slice none 0 0] 26
  simp only [World.size_alloc] at hK1
  generalize (w.alloc (.cells #[.int .i64 b, .slice A ds.length c] 26)).alloc (.cells #[.int .i64 0, .slice none 0 0] 26) = wa at hK1 ⊢
  have HG := Lib.hid (box2 hK1.drew.drop)
  go_cut [6, 7] (fun pp oo wx => pp = .int .i64 n ∧ oo = .int .i64 y ∧ Kn w [.blk (w.heap.size + 1) [.int .i64 0, .slice none 0 0] 26, .blk w.heap.size [.int .i64 b, .slice A ds.length c] 26] wx)
  case first =>
    go_region_held3 (fun W => W.cell? ⟨w.heap.size, 0, none⟩ = some (.int .i64 b) ∧ W.cell? ⟨w.heap.size, 1, none⟩ = some (.slice A ds.length c)) (first | with_reducible exact HG.out | exact HG.out) (first
      | (go_at_call 26; (with_reducible refine (KS.out _ hK1.drew.below).mono ?_); rintro e w3 ⟨rfl, hw⟩; have hK3 := hK1.drew.keep hw; clear HG; have HG := Lib.hid (box2 hK3.drop))
      | (go_at_call 38; (with_reducible refine (KN.out _ hK3.below).mono ?_); rintro e w4 ⟨rfl, hw⟩; have hK4 := hK3.keep hw; clear HG; have HG := Lib.hid (box2 hK4.drop)))
    all_goals
      go_wp2_with fail
      go_meet
      exact ⟨rfl, rfl, hK4⟩
  case rest =>
    obtain ⟨rfl, rfl, hK5⟩ := hcut
    clear HG hK1
    obtain ⟨a1, a2, a3, d1, d2, d3, -⟩ := hK5.cells
    go_wp2_with fail
    have HG := Lib.hid (box2 hK5.drew.drop)
    have HT := HG
    go_region_held3 (fun W => W.cell? ⟨w.heap.size, 0, none⟩ = some (.int .i64 b) ∧ W.cell? ⟨w.heap.size, 1, none⟩ = some (.slice A ds.length c)) (first | with_reducible exact HG.out | with_reducible exact HT.out | exact HG.out | exact HT.out) (first
      | (go_at_call 37; (with_reducible refine (KW.out _).mono ?_); rintro e w6 ⟨rfl, hw⟩; have hK6 := hK5.drew.keep hw; clear HG; have HG := Lib.hid (box2 hK6.drop))
      | (go_at_call 49; (with_reducible refine (KA.out _).mono ?_); rintro e w7 ⟨E, g, rfl, hKn⟩; have hK7 := hK6.join hKn; clear HG; have HG := Lib.hid (box2 hK7.drop.drop); obtain ⟨x1, x2, x3⟩ := (hK7.front 1 rfl).blkAt; have hK8 := ((hK7.front 1 rfl).st 0 (.int .i64 b)).st 1 (.slice E es.length g); clear HT; have HT := Lib.hid (box2 (hK8.drop.drop)))
      | (go_at_call 50; (with_reducible refine (KI.out _).mono ?_); rintro e w8 ⟨rfl, rfl⟩))
    all_goals
      go_wp2_with fail
      refine bodyPost.kn hK8 ?_; intro w9 hK9
      clear a1 a2 a3 x1 x2 x3
      obtain ⟨a1, a2, a3, -⟩ := hK9.cells
      exact bodyPost_ret (v := .tuple #[.agg #[.int .i64 b, .slice E es.length g], .bool (!r)]) (by simp [results, Try.results29, go_sem, a1]) rfl ⟨E, g, rfl, hK9.sel [1] 99 (by decide) (by decide)⟩
theorem NumberOf_any (b : Int) (A : Option Addr) (c : Nat) (ds : List Int) (w : World) (hr : RI w A ds.length ds) (hm : ds.length ≤ 9223372036854775807) :
    Calls Try.prog 18 #[.agg #[.int .i64 b, .slice A ds.length c]] w fun e w' => e = .returned (.tuple #[.int .i64 (if aOk b ds then aNum b ds else 0), .int .i64 (if aOk b ds then 0 else 1)]) ∧ Below w.heap.size w w' := by
  have KS := (fun W (hW : Below w.heap.size w W) => size_any b A c ds W (hr.below hW) hm)
  rcases ho : aOk b ds with _ | _
  · have hs : aSize b ds = 0 := by unfold aSize; rw [ho]; rfl
    rw [hs] at KS
    replace KS := Lib.hid KS
    clear hs hr ho
    go_enter Try.func18, Try.ntmps18
    go_wp2_with fail
    refine Calls.kn ((Kn.nil w).al [.int .i64 b, .slice A ds.length c] 26) ?_; intro w1 hK1
    (with_reducible refine (KS.out _ hK1.below).mono ?_); rintro e w2 ⟨rfl, hw⟩
    have hK2 := hK1.keep hw
    go_wp2_with fail
    go_ret2
    exact ⟨rfl, hK2.below⟩
  · have hs : aSize b ds = pw b ds.length := by unfold aSize; rw [if_pos ho]
    rw [hs] at KS
    have KN := (fun W (hW : Below w.heap.size w W) => number_any b A c ds W (hr.below hW) ho)
    have hv := valL_in ho
    obtain ⟨n, hn⟩ : ∃ n, pw b ds.length = n := ⟨_, rfl⟩
    rw [hn] at KS hv
    have nz : (n == 0) = false := by simp; omega
    replace KS := Lib.hid KS
    replace KN := Lib.hid KN
    clear hs hr ho hn
    go_enter Try.func18, Try.ntmps18
    go_wp2_with fail
    refine Calls.kn ((Kn.nil w).al [.int .i64 b, .slice A ds.length c] 26) ?_; intro w1 hK1
    (with_reducible refine (KS.out _ hK1.below).mono ?_); rintro e w2 ⟨rfl, hw⟩
    have hK2 := hK1.keep hw
    clear hK1 hw
    obtain ⟨a1, a2, a3, -⟩ := hK2.cells
    go_wp2_with fail
    (with_reducible refine (KN.out _ hK2.below).mono ?_); rintro e w3 ⟨rfl, hw⟩
    have hK3 := hK2.keep hw
    go_wp2_with fail
    go_ret2
    exact ⟨rfl, hK3.below⟩
/-- what a function that adds a number returns -/
def anC (b : Int) (ds : List Int) (x : Int) : Int := if aOk b ds = false then 1 else if betB x (-1000000000000) 1000000000000 = false then 2 else 0
def ANRet (b : Int) (ds : List Int) (x : Int) (w : World) (e : Ending) (w' : World) : Prop :=
  (anC b ds x ≠ 0 ∧ e = .returned (.tuple #[.agg #[.int .i64 0, .slice none 0 0], .bool false, .int .i64 (anC b ds x)]) ∧ Below w.heap.size w w') ∨
  (anC b ds x = 0 ∧ ∃ E g, e = .returned (.tuple #[.agg #[.int .i64 b, .slice E (aSet b ds.length (aNum b ds + x)).length g], .bool (!isNm (pw b ds.length) (aNum b ds + x)), .int .i64 0]) ∧ Kn w [rowI E g (aSet b ds.length (aNum b ds + x))] w')
set_option maxRecDepth 100000 in
theorem AccumulateNumber_any (b : Int) (A : Option Addr) (c : Nat) (ds : List Int) (x : Int) (w : World) (hr : RI w A ds.length ds) (hm : ds.length ≤ 9223372036854775807) :
    Calls Try.prog 9 #[.agg #[.int .i64 b, .slice A ds.length c], .int .i64 x] w (ANRet b ds x w) := by
  unfold ANRet
  have KS := (fun W (hW : Below w.heap.size w W) => size_any b A c ds W (hr.below hW) hm)
  rcases ho : aOk b ds with _ | _
  · have hs : aSize b ds = 0 := by unfold aSize; rw [ho]; rfl
    have HC := Lib.hid (show anC b ds x = 1 by unfold anC; rw [if_pos ho])
    rw [hs] at KS
    replace KS := Lib.hid KS
    clear hs hr ho
    go_enter Try.func9, Try.ntmps9
    go_wp2_with fail
    refine Calls.kn (((Kn.nil w).al [.int .i64 b, .slice A ds.length c] 26).al [.int .i64 0, .slice none 0 0] 26) ?_; intro w1 hK1
    simp only [World.size_alloc] at hK1
    (with_reducible refine (KS.out _ hK1.below).mono ?_); rintro e w2 ⟨rfl, hw⟩
    have hK2 := hK1.keep hw
    obtain ⟨x1, x2, x3, -⟩ := hK2.cells
    go_wp2_with fail
    refine bodyPost.kn ((hK2.st 0 (.int .i64 0)).st 1 (.slice none 0 0)) ?_; intro w9 hK9
    obtain ⟨a1, a2, a3, -⟩ := hK9.cells
    exact bodyPost_ret (v := .tuple #[.agg #[.int .i64 0, .slice none 0 0], .bool false, .int .i64 1]) (by simp [results, Try.results9, go_sem, a1]) rfl (.inl ⟨by rw [HC.out]; decide, by rw [HC.out], hK9.below⟩)
  have hs : aSize b ds = pw b ds.length := by unfold aSize; rw [if_pos ho]
  rw [hs] at KS
  have hv := valL_in ho
  obtain ⟨n, hn⟩ : ∃ n, pw b ds.length = n := ⟨_, rfl⟩
  rw [hn] at KS hv
  have nz : (n == 0) = false := by simp; omega
  replace KS := Lib.hid KS
  have KB := (fun W => between_B x (-1000000000000) 1000000000000 W)
  rcases hx : betB x (-1000000000000) 1000000000000 with _ | _
  · have HC := Lib.hid (show anC b ds x = 2 by unfold anC; rw [if_neg (by rw [ho]; decide), if_pos hx])
    rw [hx] at KB
    replace KB := Lib.hid KB
    clear hs hr ho hx hn
    go_enter Try.func9, Try.ntmps9
    go_wp2_with fail
    refine Calls.kn (((Kn.nil w).al [.int .i64 b, .slice A ds.length c] 26).al [.int .i64 0, .slice none 0 0] 26) ?_; intro w1 hK1
    simp only [World.size_alloc] at hK1
    (with_reducible refine (KS.out _ hK1.below).mono ?_); rintro e w2 ⟨rfl, hw⟩
    have hK2 := hK1.keep hw
    clear hK1 hw
    go_wp2_with fail
    (with_reducible refine (KB.out _).mono ?_); rintro e w3 ⟨rfl, hw⟩
    have hK3 := hK2.keep hw
    obtain ⟨x1, x2, x3, -⟩ := hK3.cells
    go_wp2_with fail
    refine bodyPost.kn ((hK3.st 0 (.int .i64 0)).st 1 (.slice none 0 0)) ?_; intro w9 hK9
    obtain ⟨a1, a2, a3, -⟩ := hK9.cells
    exact bodyPost_ret (v := .tuple #[.agg #[.int .i64 0, .slice none 0 0], .bool false, .int .i64 2]) (by simp [results, Try.results9, go_sem, a1]) rfl (.inl ⟨by rw [HC.out]; decide, by rw [HC.out], hK9.below⟩)
  · have HC := Lib.hid (show anC b ds x = 0 by unfold anC; rw [if_neg (by rw [ho]; decide), if_neg (by rw [hx]; decide)])
    rw [hx] at KB
    replace KB := Lib.hid KB
    have hx' := betB_iff.1 hx
    have KA := (fun W (hW : Below w.heap.size w W) => accumulated_any b A c ds x W (hr.below hW) ho (by omega))
    obtain ⟨es, hes⟩ : ∃ l, aSet b ds.length (aNum b ds + x) = l := ⟨_, rfl⟩
    obtain ⟨r, hr'⟩ : ∃ r, isNm (pw b ds.length) (aNum b ds + x) = r := ⟨_, rfl⟩
    rw [hes, hr'] at KA
    rw [hes, hr']
    replace KA := Lib.hid KA
    clear hs hr ho hx hx' hn hes hr'
    go_enter Try.func9, Try.ntmps9
    go_wp2_with fail
    refine Calls.kn (((Kn.nil w).al [.int .i64 b, .slice A ds.length c] 26).al [.int .i64 0, .slice none 0 0] 26) ?_; intro w1 hK1
    simp only [World.size_alloc] at hK1
    (with_reducible refine (KS.out _ hK1.below).mono ?_); rintro e w2 ⟨rfl, hw⟩
    have hK2 := hK1.keep hw
    clear hK1 hw
    go_wp2_with fail
    (with_reducible refine (KB.out _).mono ?_); rintro e w3 ⟨rfl, hw⟩
    have hK3 := hK2.keep hw
    clear hK2 hw
    obtain ⟨x1, x2, x3, y1, y2, y3, -⟩ := hK3.cells
    go_wp2_with fail
    (with_reducible refine (KA.out _ hK3.below).mono ?_); rintro e w4 ⟨E, g, rfl, hKn⟩
    have hK4 := hK3.join hKn
    clear hK3 hKn x1 x2 x3 y1 y2 y3
    obtain ⟨x1, x2, x3, -⟩ := hK4.cells
    go_wp2_with fail
    refine bodyPost.kn ((((hK4.front 1 rfl).st 0 (.int .i64 b)).st 1 (.slice E es.length g)).al_ (.cells #[.int .i64 b, .slice E es.length g] 26)) ?_; intro w9 hK9
    clear x1 x2 x3
    obtain ⟨a1, a2, a3, -⟩ := hK9.cells
    exact bodyPost_ret (v := .tuple #[.agg #[.int .i64 b, .slice E es.length g], .bool (!r), .int .i64 0]) (by simp [results, Try.results9, go_sem, a1]) rfl (.inr ⟨HC.out, E, g, rfl, hK9.sel [1] 99 (by decide) (by decide)⟩)
end Go.Proofs.Ytikcifpdnbhpiaa

namespace Go.Proofs.Ytikcifpdnbhpiaa
open Go.RowKit Go.Sort
/-- a register in a block -/
def RegB (w : World) (g : Nat) (b : Int) (A : Option Addr) (c : Nat) (ds : List Int) : Prop := (w.cell? ⟨g, 0, none⟩ = some (.int .i64 b) ∧ w.cell? ⟨g, 1, none⟩ = some (.slice A ds.length c)) ∧ RI w A ds.length ds
theorem RegB.below {w w' : World} {g : Nat} {b : Int} {A : Option Addr} {c : Nat} {ds : List Int} (h : RegB w g b A c ds) (hb : Below w.heap.size w w') : RegB w' g b A c ds := by
  have hlt : g < w.heap.size := World.block_lt_of_cell? w _ h.1.1
  exact ⟨⟨(hb.cell (p := ⟨g, 0, none⟩) hlt).trans h.1.1, (hb.cell (p := ⟨g, 1, none⟩) hlt).trans h.1.2⟩, h.2.below hb⟩
set_option maxRecDepth 100000 in
set_option maxHeartbeats 1600000 in
theorem l09Ok_any (g : Nat) (b : Int) (A : Option Addr) (c : Nat) (ds : List Int) (w : World) (hB : RegB w g b A c ds) (hm : ds.length ≤ 9223372036854775807) :
    Calls Try.prog 30 #[.pointer (some ⟨g, 0, none⟩)] w fun e w' => e = .returned (.bool (aOk b ds)) ∧ Below w.heap.size w w' := by
  have hK0 := Kn.nil w
  have HB := Lib.hid (fun W (hW : Below w.heap.size w W) => hB.below hW)
  have KO := (fun W (hW : Below w.heap.size w W) => l02Ok_any ⟨g, 0, none⟩ b A ds.length c ds W (hB.below hW).1 (hB.below hW).2 hm)
  have HG := Lib.hid (hB.below (hK0.drew).below).1
  rcases hv : vreg b ds with _ | _
  · have HF := Lib.hid (show aOk b ds = false by unfold aOk; rw [hv]; rfl)
    rw [hv] at KO
    replace KO := Lib.hid KO
    clear hv hB
    go_enter Try.func30, Try.ntmps30
    go_wp2_with fail
    refine wp_region_held_drew (S := (fun W => W.cell? ⟨g, 0, none⟩ = some (.int .i64 b) ∧ W.cell? ⟨g, 1, none⟩ = some (.slice A ds.length c))) (by kernel_rfl) ?_ (fun hHeld => ?_)
    · exact HG.out
    try dsimp only
    refine wpAnyH_take (i := 0) (v := ?_) rfl (by kernel_rfl) (by kernel_rfl) (by kernel_rfl) (fun _ _ _ h => h) (Or.inl ⟨by rfl, ?_⟩) hHeld ?_
    rotate_left
    · (intro w hSw; (try dsimp only at hSw); go_simp; try with_reducible rfl)
    try simp only [Act.put, List.setIfInBounds_toArray, List.set_cons_zero, List.set_cons_succ, List.getElem_toArray, List.getElem_cons_succ, List.getElem_cons_zero]
    refine wpAnyH_ready (rs := [1]) (by kernel_rfl) (by decide) (AllReadyH.cons (o := _) rfl (fun K hK => ?_) AllReadyH.nil)
    go_simp
    go_at_call 43
    (refine (KO.out _ hK0.drew.below).mono ?_); rintro e w2 ⟨rfl, q2, rfl⟩
    have hK1 := hK0.drew.drewN q2
    generalize w.drew.drewN q2 = w2 at hK1 ⊢
    have HG := Lib.hid (HB.out _ hK1.below).1
    refine hK.out _ _ HG.out (fun hHeld2 => ?_)
    clear hK K hHeld
    have hHeld := hHeld2
    clear hHeld2
    try simp only [Act.put, List.setIfInBounds_toArray]
    refine wpAnyH_take (i := 2) (v := ?_) rfl (by kernel_rfl) (by kernel_rfl) (by kernel_rfl) (fun _ _ _ h => h) (Or.inl ⟨by rfl, ?_⟩) hHeld ?_
    rotate_left
    · (intro w hSw; (try dsimp only at hSw); go_simp; try with_reducible rfl)
    try simp only [Act.put, List.setIfInBounds_toArray, List.set_cons_zero, List.set_cons_succ, List.getElem_toArray, List.getElem_cons_succ, List.getElem_cons_zero]
    refine wpAnyH_take (i := 3) (v := undef) rfl (by kernel_rfl) (by kernel_rfl) (by kernel_rfl) (fun _ _ _ h => h) (Or.inr ⟨by rfl, rfl⟩) hHeld ?_
    try simp only [Act.put, List.setIfInBounds_toArray, List.set_cons_zero, List.set_cons_succ, List.getElem_toArray, List.getElem_cons_succ, List.getElem_cons_zero]
    refine wpAnyH_take (i := 4) (v := undef) rfl (by kernel_rfl) (by kernel_rfl) (by kernel_rfl) (fun _ _ _ h => h) (Or.inr ⟨by rfl, rfl⟩) hHeld ?_
    try simp only [Act.put, List.setIfInBounds_toArray, List.set_cons_zero, List.set_cons_succ, List.getElem_toArray, List.getElem_cons_succ, List.getElem_cons_zero]
    refine wpAnyH_take (i := 5) (v := undef) rfl (by kernel_rfl) (by kernel_rfl) (by kernel_rfl) (fun _ _ _ h => h) (Or.inr ⟨by rfl, rfl⟩) hHeld ?_
    try simp only [Act.put, List.setIfInBounds_toArray, List.set_cons_zero, List.set_cons_succ, List.getElem_toArray, List.getElem_cons_succ, List.getElem_cons_zero]
    refine wpAnyH_take (i := 6) (v := undef) rfl (by kernel_rfl) (by kernel_rfl) (by kernel_rfl) (fun _ _ _ h => h) (Or.inr ⟨by rfl, rfl⟩) hHeld ?_
    try simp only [Act.put, List.setIfInBounds_toArray, List.set_cons_zero, List.set_cons_succ, List.getElem_toArray, List.getElem_cons_succ, List.getElem_cons_zero]
    refine wpAnyH_take (i := 7) (v := undef) rfl (by kernel_rfl) (by kernel_rfl) (by kernel_rfl) (fun _ _ _ h => h) (Or.inr ⟨by rfl, rfl⟩) hHeld ?_
    try simp only [Act.put, List.setIfInBounds_toArray, List.set_cons_zero, List.set_cons_succ, List.getElem_toArray, List.getElem_cons_succ, List.getElem_cons_zero]
    refine wpAnyH_take (i := 8) (v := undef) rfl (by kernel_rfl) (by kernel_rfl) (by kernel_rfl) (fun _ _ _ h => h) (Or.inr ⟨by rfl, rfl⟩) hHeld ?_
    try simp only [Act.put, List.setIfInBounds_toArray, List.set_cons_zero, List.set_cons_succ, List.getElem_toArray, List.getElem_cons_succ, List.getElem_cons_zero]
    refine wpAnyH_take (i := 9) (v := undef) rfl (by kernel_rfl) (by kernel_rfl) (by kernel_rfl) (fun _ _ _ h => h) (Or.inr ⟨by rfl, rfl⟩) hHeld ?_
    try simp only [Act.put, List.setIfInBounds_toArray, List.set_cons_zero, List.set_cons_succ, List.getElem_toArray, List.getElem_cons_succ, List.getElem_cons_zero]
    refine wpAnyH_take (i := 10) (v := undef) rfl (by kernel_rfl) (by kernel_rfl) (by kernel_rfl) (fun _ _ _ h => h) (Or.inr ⟨by rfl, rfl⟩) hHeld ?_
    try simp only [Act.put, List.setIfInBounds_toArray, List.set_cons_zero, List.set_cons_succ, List.getElem_toArray, List.getElem_cons_succ, List.getElem_cons_zero]
    refine wpAnyH_take (i := 11) (v := undef) rfl (by kernel_rfl) (by kernel_rfl) (by kernel_rfl) (fun _ _ _ h => h) (Or.inr ⟨by rfl, rfl⟩) hHeld ?_
    try simp only [Act.put, List.setIfInBounds_toArray, List.set_cons_zero, List.set_cons_succ, List.getElem_toArray, List.getElem_cons_succ, List.getElem_cons_zero]
    refine wpAnyH_take (i := 12) (v := undef) rfl (by kernel_rfl) (by kernel_rfl) (by kernel_rfl) (fun _ _ _ h => h) (Or.inr ⟨by rfl, rfl⟩) hHeld ?_
    try simp only [Act.put, List.setIfInBounds_toArray, List.set_cons_zero, List.set_cons_succ, List.getElem_toArray, List.getElem_cons_succ, List.getElem_cons_zero]
    refine wpAnyH_take (i := 13) (v := ?_) rfl (by kernel_rfl) (by kernel_rfl) (by kernel_rfl) (fun _ _ _ h => h) (Or.inl ⟨by rfl, ?_⟩) hHeld ?_
    rotate_left
    · (intro w hSw; (try dsimp only at hSw); go_simp; try with_reducible rfl)
    try simp only [Act.put, List.setIfInBounds_toArray, List.set_cons_zero, List.set_cons_succ, List.getElem_toArray, List.getElem_cons_succ, List.getElem_cons_zero]
    refine wpAnyH_take (i := 14) (v := ?_) rfl (by kernel_rfl) (by kernel_rfl) (by kernel_rfl) (fun _ _ _ h => h) (Or.inl ⟨by rfl, ?_⟩) hHeld ?_
    rotate_left
    · (intro w hSw; (try dsimp only at hSw); go_simp; try with_reducible rfl)
    try simp only [Act.put, List.setIfInBounds_toArray, List.set_cons_zero, List.set_cons_succ, List.getElem_toArray, List.getElem_cons_succ, List.getElem_cons_zero]
    refine wpAnyH_done (by kernel_rfl) ?_ _
    go_wp2_with fail
    go_ret
    exact ⟨ret_bool HF.out.symm, hK1.below⟩
  · obtain ⟨⟨b1, b2⟩, ⟨n1, n2⟩, hd, -⟩ := vreg_iff.1 hv
    have HF := Lib.hid (show aOk b ds = decide (pw b ds.length ≤ 1000000000001) by unfold aOk; rw [hv]; rfl)
    have KF := (fun W => l10Full_any b ds.length W b1 b2 (by omega))
    obtain ⟨r, hr⟩ : ∃ r, decide (pw b ds.length ≤ 1000000000001) = r := ⟨_, rfl⟩
    rw [hr] at KF
    have HF := HF.out
    rw [hr] at HF
    replace HF := Lib.hid HF
    replace KF := Lib.hid KF
    rw [hv] at KO
    replace KO := Lib.hid KO
    clear hv hB hr hd
    go_enter Try.func30, Try.ntmps30
    go_wp2_with fail
    refine wp_region_held_drew (S := (fun W => W.cell? ⟨g, 0, none⟩ = some (.int .i64 b) ∧ W.cell? ⟨g, 1, none⟩ = some (.slice A ds.length c))) (by kernel_rfl) ?_ (fun hHeld => ?_)
    · exact HG.out
    try dsimp only
    refine wpAnyH_take (i := 0) (v := ?_) rfl (by kernel_rfl) (by kernel_rfl) (by kernel_rfl) (fun _ _ _ h => h) (Or.inl ⟨by rfl, ?_⟩) hHeld ?_
    rotate_left
    · (intro w hSw; (try dsimp only at hSw); go_simp; try with_reducible rfl)
    try simp only [Act.put, List.setIfInBounds_toArray, List.set_cons_zero, List.set_cons_succ, List.getElem_toArray, List.getElem_cons_succ, List.getElem_cons_zero]
    refine wpAnyH_ready (rs := [1]) (by kernel_rfl) (by decide) (AllReadyH.cons (o := _) rfl (fun K hK => ?_) AllReadyH.nil)
    go_simp
    go_at_call 43
    (refine (KO.out _ hK0.drew.below).mono ?_); rintro e w2 ⟨rfl, q2, rfl⟩
    have hK1 := hK0.drew.drewN q2
    generalize w.drew.drewN q2 = w2 at hK1 ⊢
    have HG := Lib.hid (HB.out _ hK1.below).1
    refine hK.out _ _ HG.out (fun hHeld2 => ?_)
    clear hK K hHeld
    have hHeld := hHeld2
    clear hHeld2
    try simp only [Act.put, List.setIfInBounds_toArray]
    refine wpAnyH_take (i := 2) (v := ?_) rfl (by kernel_rfl) (by kernel_rfl) (by kernel_rfl) (fun _ _ _ h => h) (Or.inl ⟨by rfl, ?_⟩) hHeld ?_
    rotate_left
    · (intro w hSw; (try dsimp only at hSw); go_simp; try with_reducible rfl)
    try simp only [Act.put, List.setIfInBounds_toArray, List.set_cons_zero, List.set_cons_succ, List.getElem_toArray, List.getElem_cons_succ, List.getElem_cons_zero]
    refine wpAnyH_take (i := 3) (v := ?_) rfl (by kernel_rfl) (by kernel_rfl) (by kernel_rfl) (fun _ _ _ h => h) (Or.inl ⟨by rfl, ?_⟩) hHeld ?_
    rotate_left
    · (intro w hSw; (try dsimp only at hSw); go_simp; try with_reducible rfl)
    try simp only [Act.put, List.setIfInBounds_toArray, List.set_cons_zero, List.set_cons_succ, List.getElem_toArray, List.getElem_cons_succ, List.getElem_cons_zero]
    refine wpAnyH_take (i := 4) (v := ?_) rfl (by kernel_rfl) (by kernel_rfl) (by kernel_rfl) (fun _ _ _ h => h) (Or.inl ⟨by rfl, ?_⟩) hHeld ?_
    rotate_left
    · (intro w hSw; (try dsimp only at hSw); go_simp; try with_reducible rfl)
    try simp only [Act.put, List.setIfInBounds_toArray, List.set_cons_zero, List.set_cons_succ, List.getElem_toArray, List.getElem_cons_succ, List.getElem_cons_zero]
    refine wpAnyH_take (i := 5) (v := ?_) rfl (by kernel_rfl) (by kernel_rfl) (by kernel_rfl) (fun _ _ _ h => h) (Or.inl ⟨by rfl, ?_⟩) hHeld ?_
    rotate_left
    · (intro w hSw; (try dsimp only at hSw); go_simp; try with_reducible rfl)
    try simp only [Act.put, List.setIfInBounds_toArray, List.set_cons_zero, List.set_cons_succ, List.getElem_toArray, List.getElem_cons_succ, List.getElem_cons_zero]
    refine wpAnyH_take (i := 6) (v := ?_) rfl (by kernel_rfl) (by kernel_rfl) (by kernel_rfl) (fun _ _ _ h => h) (Or.inl ⟨by rfl, ?_⟩) hHeld ?_
    rotate_left
    · (intro w hSw; (try dsimp only at hSw); go_simp; try with_reducible rfl)
    try simp only [Act.put, List.setIfInBounds_toArray, List.set_cons_zero, List.set_cons_succ, List.getElem_toArray, List.getElem_cons_succ, List.getElem_cons_zero]
    refine wpAnyH_take (i := 7) (v := ?_) rfl (by kernel_rfl) (by kernel_rfl) (by kernel_rfl) (fun _ _ _ h => h) (Or.inl ⟨by rfl, ?_⟩) hHeld ?_
    rotate_left
    · (intro w hSw; (try dsimp only at hSw); go_simp; try with_reducible rfl)
    try simp only [Act.put, List.setIfInBounds_toArray, List.set_cons_zero, List.set_cons_succ, List.getElem_toArray, List.getElem_cons_succ, List.getElem_cons_zero]
    refine wpAnyH_take (i := 8) (v := ?_) rfl (by kernel_rfl) (by kernel_rfl) (by kernel_rfl) (fun _ _ _ h => h) (Or.inl ⟨by rfl, ?_⟩) hHeld ?_
    rotate_left
    · (intro w hSw; (try dsimp only at hSw); go_simp; try with_reducible rfl)
    try simp only [Act.put, List.setIfInBounds_toArray, List.set_cons_zero, List.set_cons_succ, List.getElem_toArray, List.getElem_cons_succ, List.getElem_cons_zero]
    refine wpAnyH_take (i := 9) (v := ?_) rfl (by kernel_rfl) (by kernel_rfl) (by kernel_rfl) (fun _ _ _ h => h) (Or.inl ⟨by rfl, ?_⟩) hHeld ?_
    rotate_left
    · (intro w hSw; (try dsimp only at hSw); go_simp; try with_reducible rfl)
    try simp only [Act.put, List.setIfInBounds_toArray, List.set_cons_zero, List.set_cons_succ, List.getElem_toArray, List.getElem_cons_succ, List.getElem_cons_zero]
    refine wpAnyH_take (i := 10) (v := ?_) rfl (by kernel_rfl) (by kernel_rfl) (by kernel_rfl) (fun _ _ _ h => h) (Or.inl ⟨by rfl, ?_⟩) hHeld ?_
    rotate_left
    · (intro w hSw; (try dsimp only at hSw); go_simp; try with_reducible rfl)
    try simp only [Act.put, List.setIfInBounds_toArray, List.set_cons_zero, List.set_cons_succ, List.getElem_toArray, List.getElem_cons_succ, List.getElem_cons_zero]
    refine wpAnyH_take (i := 11) (v := ?_) rfl (by kernel_rfl) (by kernel_rfl) (by kernel_rfl) (fun _ _ _ h => h) (Or.inl ⟨by rfl, ?_⟩) hHeld ?_
    rotate_left
    · (intro w hSw; (try dsimp only at hSw); go_simp; try with_reducible rfl)
    try simp only [Act.put, List.setIfInBounds_toArray, List.set_cons_zero, List.set_cons_succ, List.getElem_toArray, List.getElem_cons_succ, List.getElem_cons_zero]
    refine wpAnyH_ready (rs := [12]) (by kernel_rfl) (by decide) (AllReadyH.cons (o := _) rfl (fun K hK => ?_) AllReadyH.nil)
    go_simp
    go_at_call 51
    (refine (KF.out _).mono ?_); rintro e w3 ⟨rfl, rfl⟩
    refine hK.out _ _ HG.out (fun hHeld2 => ?_)
    clear hK K hHeld
    have hHeld := hHeld2
    clear hHeld2
    try simp only [Act.put, List.setIfInBounds_toArray]
    refine wpAnyH_take (i := 13) (v := ?_) rfl (by kernel_rfl) (by kernel_rfl) (by kernel_rfl) (fun _ _ _ h => h) (Or.inl ⟨by rfl, ?_⟩) hHeld ?_
    rotate_left
    · (intro w hSw; (try dsimp only at hSw); go_simp; try with_reducible rfl)
    try simp only [Act.put, List.setIfInBounds_toArray, List.set_cons_zero, List.set_cons_succ, List.getElem_toArray, List.getElem_cons_succ, List.getElem_cons_zero]
    refine wpAnyH_take (i := 14) (v := ?_) rfl (by kernel_rfl) (by kernel_rfl) (by kernel_rfl) (fun _ _ _ h => h) (Or.inl ⟨by rfl, ?_⟩) hHeld ?_
    rotate_left
    · (intro w hSw; (try dsimp only at hSw); go_simp; try with_reducible rfl)
    try simp only [Act.put, List.setIfInBounds_toArray, List.set_cons_zero, List.set_cons_succ, List.getElem_toArray, List.getElem_cons_succ, List.getElem_cons_zero]
    refine wpAnyH_done (by kernel_rfl) ?_ _
    go_wp2_with fail
    go_ret
    exact ⟨ret_bool HF.out.symm, hK1.below⟩
theorem l09Low_any (b : Int) (k : Nat) (n : Int) (w : World) (hb1 : 2 ≤ b) (hb2 : b ≤ 16) (hk : k ≤ 16) (hn : pw b k = n) (hn2 : n ≤ 1000000000001) :
    Calls Try.prog 65 #[.int .i64 b, .int .i64 k] w fun e w' => e = .returned (.int .i64 (n.tdiv 2)) ∧ w = w' := by
  have hp := pw_pos b hb1 k
  have KP := (fun W => l10Power_any b k W hb1 hb2 (by omega))
  rw [show powS b k = n by unfold powS; omega] at KP
  replace KP := Lib.hid KP
  have hh := half_bd (n := n) (by omega)
  obtain ⟨q, hq⟩ : ∃ q, n.tdiv 2 = q := ⟨_, rfl⟩
  rw [hq] at hh ⊢
  have w1 : IntKind.i64.wrap q = q := wrapI64 (by omega)
  have w5 : IntKind.i64.wrap (n.tdiv 2) = q := by rw [hq]; exact w1
  clear hn
  go_enter Try.func65, Try.ntmps65
  go_wp2_with (go_at_call 58; refine (KP.out _).mono ?_; rintro e w' ⟨rfl, rfl⟩)
  go_ret
  exact ⟨rfl, rfl⟩
theorem l09In_any (b : Int) (k : Nat) (n x : Int) (w : World) (hb1 : 2 ≤ b) (hb2 : b ≤ 16) (hk : k ≤ 16) (hn : pw b k = n) (hn2 : n ≤ 1000000000001) :
    Calls Try.prog 55 #[.int .i64 b, .int .i64 k, .int .i64 x] w fun e w' => e = .returned (.bool (isNm n x)) ∧ w = w' := by
  have hp := pw_pos b hb1 k
  have KP := (fun W => l10Power_any b k W hb1 hb2 (by omega))
  rw [show powS b k = n by unfold powS; omega] at KP
  replace KP := Lib.hid KP
  have KL := (fun W => l09Low_any b k n W hb1 hb2 hk hn hn2)
  have hh := half_bd (n := n) (by omega)
  have HN := (show isNm n x = betB x (-(n.tdiv 2)) (n - 1 - n.tdiv 2) from rfl)
  obtain ⟨q, hq⟩ : ∃ q, n.tdiv 2 = q := ⟨_, rfl⟩
  rw [hq] at hh HN KL
  replace HN := Lib.hid HN
  replace KL := Lib.hid KL
  have w1 : IntKind.i64.wrap q = q := wrapI64 (by omega)
  have w2 : IntKind.i64.wrap (-q) = -q := wrapI64 (by omega)
  have w3 : IntKind.i64.wrap (n - 1) = n - 1 := wrapI64 (by omega)
  have w4 : IntKind.i64.wrap (n - 1 - q) = n - 1 - q := wrapI64 (by omega)
  clear hn hq
  go_enter Try.func55, Try.ntmps55
  go_wp2_with (first | (go_at_call 58; refine (KP.out _).mono ?_; rintro e w' ⟨rfl, rfl⟩) | (go_at_call 65; refine (KL.out _).mono ?_; rintro e w' ⟨rfl, rfl⟩) | (go_at_call 52; refine (l00In_any _ _ _ _).mono ?_; rintro e w' ⟨rfl, rfl⟩))
  go_ret
  exact ⟨ret_bool HN.out.symm, rfl⟩
theorem tmod_bd {n x : Int} (hn : 1 ≤ n) : -n < x.tmod n ∧ x.tmod n < n := by
  rcases Int.le_total 0 x with h | h
  · rw [Int.tmod_eq_emod_of_nonneg h]
    have := Int.emod_nonneg x (show n ≠ 0 by omega)
    have := Int.emod_lt_of_pos x (show 0 < n by omega)
    omega
  · have h2 := Int.neg_tmod (-x) n
    rw [Int.neg_neg] at h2
    rw [h2, Int.tmod_eq_emod_of_nonneg (by omega)]
    have := Int.emod_nonneg (-x) (show n ≠ 0 by omega)
    have := Int.emod_lt_of_pos (-x) (show 0 < n by omega)
    omega
set_option maxRecDepth 100000 in
theorem l09Set_any (b : Int) (k : Nat) (n x : Int) (w : World) (hb1 : 2 ≤ b) (hb2 : b ≤ 16) (hk : k ≤ 16) (hn : pw b k = n) (hn2 : n ≤ 1000000000001) (hx : -9000000000000000000 ≤ x ∧ x ≤ 9000000000000000000) :
    Calls Try.prog 54 #[.int .i64 b, .int .i64 k, .int .i64 x] w fun e w' => ∃ A c, e = .returned (.agg #[.int .i64 b, .slice A (aSet b k x).length c]) ∧ Kn w [rowI A c (aSet b k x)] w' := by
  have hn1 := pw_pos b hb1 k
  have KP := (fun W => l10Power_any b k W hb1 hb2 (by omega))
  rw [show powS b k = n by unfold powS; omega] at KP
  replace KP := Lib.hid KP
  rw [hn] at hn1
  have hbd := aNorm_bd (x := x) hn1
  have KR := (fun W => l02NewV_any b k (aNorm n x) W hb1 hb2 (by omega) hbd.1 (by omega))
  have hs : aSet b k x = digD b k (aNorm n x) := by unfold aSet; rw [hn]
  rw [hs]
  obtain ⟨ds, hds⟩ : ∃ ds, digD b k (aNorm n x) = ds := ⟨_, rfl⟩
  obtain ⟨ok, hok⟩ : ∃ ok, restD b k (aNorm n x) = ok := ⟨_, rfl⟩
  rw [hds, hok] at KR
  rw [hds]
  have ht := tmod_bd (x := x) hn1
  have ha : aNorm n x = (x.tmod n + n).tmod n := rfl
  obtain ⟨y, hy⟩ : ∃ y, aNorm n x = y := ⟨_, rfl⟩
  rw [hy] at KR hbd ha
  obtain ⟨z, hz⟩ : ∃ z, x.tmod n = z := ⟨_, rfl⟩
  rw [hz] at ht ha
  have nz1 : n ≠ 0 := by omega
  have nz2 : (n == 0) = false := by simp; omega
  have w1 : IntKind.i64.wrap z = z := wrapI64 (by omega)
  have w2 : IntKind.i64.wrap (z + n) = z + n := wrapI64 (by omega)
  have w3 : IntKind.i64.wrap ((z + n).tmod n) = y := by rw [← ha]; exact wrapI64 (by omega)
  have w4 : IntKind.i64.wrap (x.tmod n) = z := by rw [hz]; exact w1
  have ha2 : (z + n).tmod n = y := ha.symm
  have w5 : IntKind.i64.wrap y = y := wrapI64 (by omega)
  replace KR := Lib.hid KR
  clear hs hds hok hn hy ha
  go_enter Try.func54, Try.ntmps54
  go_wp2_with (go_at_call 58; refine (KP.out _).mono ?_; rintro e w' ⟨rfl, rfl⟩)
  refine Calls.kn ((Kn.nil w).al [.int .i64 0, .slice none 0 0] 26) ?_; intro w1 hK1
  (with_reducible refine (KR.out _).mono ?_); rintro e w2 ⟨E, g, rfl, hKn⟩
  have hK2 := hK1.join hKn
  clear hK1 hKn
  obtain ⟨a1, a2, a3, -⟩ := hK2.cells
  go_wp2_with fail
  refine bodyPost.kn ((((hK2.front 1 rfl).st 0 (.int .i64 b)).st 1 (.slice E ds.length g)).al_ (.cells #[.int .i64 b, .slice E ds.length g] 26)) ?_; intro w9 hK9
  clear a1 a2 a3
  obtain ⟨a1, a2, a3, -⟩ := hK9.cells
  exact bodyPost_ret (v := .agg #[.int .i64 b, .slice E ds.length g]) (by simp [results, Try.results54, go_sem, a1]) rfl ⟨E, g, rfl, hK9.sel [1] 99 (by decide) (by decide)⟩
end Go.Proofs.Ytikcifpdnbhpiaa

namespace Go.Proofs.Ytikcifpdnbhpiaa
open Go.RowKit Go.Sort
theorem isNm_val {n v : Int} (hn : 1 ≤ n) (h0 : 0 ≤ v) : isNm n v = decide (v ≤ n - 1 - n.tdiv 2) := by
  have hh := half_bd (n := n) (by omega)
  unfold isNm
  rw [Bool.eq_iff_iff, betB_iff, decide_eq_true_eq]
  omega
theorem l09Most_any (x : Int) (w : World) : Calls Try.prog 31 #[.int .i64 x] w fun e w' => e = .returned (.bool (betB x (-1000000000000) 1000000000000)) ∧ w = w' := by
  go_enter Try.func31, Try.ntmps31
  go_wp2_with (go_at_call 52; refine (l00In_any _ _ _ _).mono ?_; rintro e w' ⟨rfl, rfl⟩)
  go_ret
  exact ⟨rfl, rfl⟩
set_option maxRecDepth 100000 in
set_option maxHeartbeats 1600000 in
theorem l09Number_any (g : Nat) (b : Int) (A : Option Addr) (c : Nat) (ds : List Int) (w : World) (hB : RegB w g b A c ds) (ho : aOk b ds = true) :
    Calls Try.prog 40 #[.pointer (some ⟨g, 0, none⟩)] w fun e w' => e = .returned (.int .i64 (aNum b ds)) ∧ Below w.heap.size w w' := by
  obtain ⟨h1, h2⟩ := aOk_iff.1 ho
  obtain ⟨⟨b1, b2⟩, ⟨n1, n2⟩, hd, -⟩ := vreg_iff.1 h1
  have hv := valL_in ho
  have hh := half_bd (n := pw b ds.length) (by omega)
  have HBW := Lib.hid (fun W (hW : Below w.heap.size w W) => (hB.below hW).1)
  have KV := (fun W (hW : Below w.heap.size w W) => l02Value_any b A ds.length c ds W b1 b2 hd (hB.below hW).2 n2)
  have KI := (fun W => l09In_any b ds.length (pw b ds.length) (valL b ds) W b1 b2 n2 rfl h2)
  have KP := (fun W => l10Power_any b ds.length W b1 b2 (by omega))
  rw [show powS b ds.length = pw b ds.length by unfold powS; omega] at KP
  have HN := (show aNum b ds = if valL b ds ≤ pw b ds.length - 1 - (pw b ds.length).tdiv 2 then valL b ds else valL b ds - pw b ds.length from rfl)
  rw [isNm_val hv.2.2.1 hv.1] at KI
  obtain ⟨n, hn⟩ : ∃ n, pw b ds.length = n := ⟨_, rfl⟩
  obtain ⟨v, hvv⟩ : ∃ v, valL b ds = v := ⟨_, rfl⟩
  rw [hn] at KP HN hh hv KI
  rw [hvv] at KV HN hv KI
  obtain ⟨q, hq⟩ : ∃ q, n - 1 - n.tdiv 2 = q := ⟨_, rfl⟩
  rw [hq] at HN KI
  have w6 : IntKind.i64.wrap (v - n) = v - n := wrapI64 (by omega)
  replace HN := Lib.hid HN
  replace KV := Lib.hid KV
  replace KP := Lib.hid KP
  obtain ⟨q1, q2⟩ := hB.1
  have hlt : g < w.heap.size := World.block_lt_of_cell? w _ q1
  clear ho h1 h2 hd hn hvv hB hq n1 n2 b1 b2
  rcases hc : decide (v ≤ q) with _ | _
  · have HE := Lib.hid (show aNum b ds = v - n by rw [HN.out, if_neg (of_decide_eq_false hc)])
    rw [hc] at KI
    replace KI := Lib.hid KI
    clear hc
    go_enter Try.func40, Try.ntmps40
    go_wp2_with fail
    have hK1 := Kn.nil w
    have HG := Lib.hid (HBW.out _ hK1.drew.below)
    go_region_held3 (fun W => W.cell? ⟨g, 0, none⟩ = some (.int .i64 b) ∧ W.cell? ⟨g, 1, none⟩ = some (.slice A ds.length c)) (first | with_reducible exact HG.out | exact HG.out) (first
      | (go_at_call 57; (with_reducible refine (KV.out _ hK1.drew.below).mono ?_); rintro e w3 ⟨rfl, rfl⟩))
    all_goals
      have hq1 : w.drew.cell? ⟨g, 0, none⟩ = some (.int .i64 b) := HG.out.1
      go_wp2_with (first | (go_at_call 55; refine (KI.out _).mono ?_; rintro e w' ⟨rfl, rfl⟩) | (go_at_call 58; refine (KP.out _).mono ?_; rintro e w' ⟨rfl, rfl⟩))
      go_ret
      exact ⟨ret_int HE.out.symm, hK1.drew.below⟩
  · have HE := Lib.hid (show aNum b ds = v by rw [HN.out, if_pos (of_decide_eq_true hc)])
    rw [hc] at KI
    replace KI := Lib.hid KI
    clear hc
    go_enter Try.func40, Try.ntmps40
    go_wp2_with fail
    have hK1 := Kn.nil w
    have HG := Lib.hid (HBW.out _ hK1.drew.below)
    go_region_held3 (fun W => W.cell? ⟨g, 0, none⟩ = some (.int .i64 b) ∧ W.cell? ⟨g, 1, none⟩ = some (.slice A ds.length c)) (first | with_reducible exact HG.out | exact HG.out) (first
      | (go_at_call 57; (with_reducible refine (KV.out _ hK1.drew.below).mono ?_); rintro e w3 ⟨rfl, rfl⟩))
    all_goals
      have hq1 : w.drew.cell? ⟨g, 0, none⟩ = some (.int .i64 b) := HG.out.1
      go_wp2_with (first | (go_at_call 55; refine (KI.out _).mono ?_; rintro e w' ⟨rfl, rfl⟩))
      go_ret
      exact ⟨ret_int HE.out.symm, hK1.drew.below⟩
set_option maxRecDepth 100000 in
set_option maxHeartbeats 1600000 in
theorem l09Add_any (g : Nat) (b : Int) (A : Option Addr) (c : Nat) (ds : List Int) (x : Int) (w : World) (hB : RegB w g b A c ds) (ho : aOk b ds = true) (hx : -4000000000000 ≤ x ∧ x ≤ 4000000000000) :
    Calls Try.prog 33 #[.pointer (some ⟨g, 0, none⟩), .int .i64 x] w fun e w' => ∃ E k, e = .returned (.tuple #[.agg #[.int .i64 b, .slice E (aSet b ds.length (aNum b ds + x)).length k], .bool (!isNm (pw b ds.length) (aNum b ds + x))]) ∧ Kn w [rowI E k (aSet b ds.length (aNum b ds + x))] w' := by
  obtain ⟨h1, h2⟩ := aOk_iff.1 ho
  obtain ⟨⟨b1, b2⟩, ⟨n1, n2⟩, hd, -⟩ := vreg_iff.1 h1
  have hv := valL_in ho
  have hnb := aNum_bd ho
  have HBW := Lib.hid (fun W (hW : Below w.heap.size w W) => (hB.below hW).1)
  have KN := (fun W (hW : Below w.heap.size w W) => l09Number_any g b A c ds W (hB.below hW) ho)
  have KA := (fun W => l09Set_any b ds.length (pw b ds.length) (aNum b ds + x) W b1 b2 n2 rfl h2 (by omega))
  have KI := (fun W => l09In_any b ds.length (pw b ds.length) (aNum b ds + x) W b1 b2 n2 rfl h2)
  obtain ⟨n, hn⟩ : ∃ n, pw b ds.length = n := ⟨_, rfl⟩
  obtain ⟨u, hu⟩ : ∃ u, aNum b ds = u := ⟨_, rfl⟩
  obtain ⟨y, hy⟩ : ∃ y, u + x = y := ⟨_, rfl⟩
  rw [hn] at KI hv
  rw [hu] at KN KA KI hnb
  rw [hn, hu]
  rw [hy] at KA KI ⊢
  obtain ⟨es, hes⟩ : ∃ l, aSet b ds.length y = l := ⟨_, rfl⟩
  obtain ⟨r, hr'⟩ : ∃ r, isNm n y = r := ⟨_, rfl⟩
  rw [hes] at KA ⊢
  rw [hr'] at KI ⊢
  have w1 : IntKind.i64.wrap (u + x) = y := by rw [← hy]; exact wrapI64 (by omega)
  have w2 : IntKind.i64.wrap y = y := wrapI64 (by omega)
  replace KN := Lib.hid KN
  replace KA := Lib.hid KA
  replace KI := Lib.hid KI
  obtain ⟨q1, q2⟩ := hB.1
  have hlt : g < w.heap.size := World.block_lt_of_cell? w _ q1
  clear ho h1 h2 hd hn hu n1 n2 b1 b2 hes hr' hB
  go_enter Try.func33, Try.ntmps33
  go_wp2_with fail
  refine Calls.kn ((Kn.nil w).al [.int .i64 0, .slice none 0 0] 26) ?_; intro w1 hK1
  (with_reducible refine (KN.out _ hK1.below).mono ?_); rintro e w2 ⟨rfl, hw⟩
  have hK2 := hK1.keep hw
  clear hK1 hw
  go_wp2_with fail
  have HG := Lib.hid (HBW.out _ hK2.drew.below)
  have HT := HG
  obtain ⟨a1, a2, a3, -⟩ := hK2.cells
  go_region_held3 (fun W => W.cell? ⟨g, 0, none⟩ = some (.int .i64 b) ∧ W.cell? ⟨g, 1, none⟩ = some (.slice A ds.length c)) (first | with_reducible exact HG.out | with_reducible exact HT.out | exact HG.out | exact HT.out) (first
    | (go_at_call 54; (with_reducible refine (KA.out _).mono ?_); rintro e w7 ⟨E, k, rfl, hKn⟩; have hK7 := hK2.drew.join hKn; clear HG; have HG := Lib.hid (HBW.out _ hK7.below); obtain ⟨x1, x2, x3⟩ := (hK7.front 1 rfl).blkAt; have hK8 := ((hK7.front 1 rfl).st 0 (.int .i64 b)).st 1 (.slice E es.length k); clear HT; have HT := Lib.hid (HBW.out _ hK8.below))
    | (go_at_call 55; (with_reducible refine (KI.out _).mono ?_); rintro e w8 ⟨rfl, rfl⟩))
  all_goals
    go_wp2_with fail
    refine bodyPost.kn hK8 ?_; intro w9 hK9
    clear a1 a2 a3 x1 x2 x3
    obtain ⟨a1, a2, a3, -⟩ := hK9.cells
    exact bodyPost_ret (v := .tuple #[.agg #[.int .i64 b, .slice E es.length k], .bool (!r)]) (by simp [results, Try.results33, go_sem, a1]) rfl ⟨E, k, rfl, hK9.sel [1] 99 (by decide) (by decide)⟩
theorem specNumberOf_any (b : Int) (A : Option Addr) (c : Nat) (ds : List Int) (w : World) (hr : RI w A ds.length ds) (hm : ds.length ≤ 9223372036854775807) :
    Calls Try.prog 19 #[.agg #[.int .i64 b, .slice A ds.length c]] w fun e w' => e = .returned (.tuple #[.int .i64 (if aOk b ds then aNum b ds else 0), .int .i64 (if aOk b ds then 0 else 1)]) ∧ Below w.heap.size w w' := by
  have HR := (fun W (hW : Kn w [.blk w.heap.size [.int .i64 b, .slice A ds.length c] 26] W) => show RegB W w.heap.size b A c ds from ⟨box2 hW, hr.below hW.below⟩)
  have KO := (fun W (hW : Kn w [.blk w.heap.size [.int .i64 b, .slice A ds.length c] 26] W) => l09Ok_any w.heap.size b A c ds W (HR W hW) hm)
  rcases ho : aOk b ds with _ | _
  · rw [ho] at KO
    replace KO := Lib.hid KO
    clear ho hr HR
    go_enter Try.func19, Try.ntmps19
    go_wp2_with fail
    refine Calls.kn ((Kn.nil w).al [.int .i64 b, .slice A ds.length c] 26) ?_; intro w1 hK1
    (refine (KO.out _ hK1).mono ?_); rintro e w2 ⟨rfl, hw⟩
    have hK2 := hK1.keep hw
    go_wp2_with fail
    go_ret2
    exact ⟨rfl, hK2.below⟩
  · have KN := Lib.hid (fun W (hW : Kn w [.blk w.heap.size [.int .i64 b, .slice A ds.length c] 26] W) => l09Number_any w.heap.size b A c ds W (HR W hW) ho)
    rw [ho] at KO
    replace KO := Lib.hid KO
    clear ho hr HR
    go_enter Try.func19, Try.ntmps19
    go_wp2_with fail
    refine Calls.kn ((Kn.nil w).al [.int .i64 b, .slice A ds.length c] 26) ?_; intro w1 hK1
    (refine (KO.out _ hK1).mono ?_); rintro e w2 ⟨rfl, hw⟩
    have hK2 := hK1.keep hw
    clear hK1 hw
    go_wp2_with fail
    (refine (KN.out _ hK2).mono ?_); rintro e w3 ⟨rfl, hw⟩
    have hK3 := hK2.keep hw
    go_wp2_with fail
    go_ret2
    exact ⟨rfl, hK3.below⟩
set_option maxRecDepth 100000 in
theorem specAccumulateNumber_any (b : Int) (A : Option Addr) (c : Nat) (ds : List Int) (x : Int) (w : World) (hr : RI w A ds.length ds) (hm : ds.length ≤ 9223372036854775807) :
    Calls Try.prog 10 #[.agg #[.int .i64 b, .slice A ds.length c], .int .i64 x] w (ANRet b ds x w) := by
  unfold ANRet
  have HR := (fun W (hW : Kn w [.blk (w.heap.size + 1) [.int .i64 0, .slice none 0 0] 26, .blk w.heap.size [.int .i64 b, .slice A ds.length c] 26] W) => show RegB W w.heap.size b A c ds from ⟨box2 hW.drop, hr.below hW.below⟩)
  have KO := (fun W (hW : Kn w [.blk (w.heap.size + 1) [.int .i64 0, .slice none 0 0] 26, .blk w.heap.size [.int .i64 b, .slice A ds.length c] 26] W) => l09Ok_any w.heap.size b A c ds W (HR W hW) hm)
  rcases ho : aOk b ds with _ | _
  · have HC := Lib.hid (show anC b ds x = 1 by unfold anC; rw [if_pos ho])
    rw [ho] at KO
    replace KO := Lib.hid KO
    clear hr ho HR
    go_enter Try.func10, Try.ntmps10
    go_wp2_with fail
    refine Calls.kn (((Kn.nil w).al [.int .i64 b, .slice A ds.length c] 26).al [.int .i64 0, .slice none 0 0] 26) ?_; intro w1 hK1
    simp only [World.size_alloc] at hK1
    (refine (KO.out _ hK1).mono ?_); rintro e w2 ⟨rfl, hw⟩
    have hK2 := hK1.keep hw
    obtain ⟨x1, x2, x3, -⟩ := hK2.cells
    go_wp2_with fail
    refine bodyPost.kn ((hK2.st 0 (.int .i64 0)).st 1 (.slice none 0 0)) ?_; intro w9 hK9
    obtain ⟨a1, a2, a3, -⟩ := hK9.cells
    exact bodyPost_ret (v := .tuple #[.agg #[.int .i64 0, .slice none 0 0], .bool false, .int .i64 1]) (by simp [results, Try.results10, go_sem, a1]) rfl (.inl ⟨by rw [HC.out]; decide, by rw [HC.out], hK9.below⟩)
  have KB := (fun W => l09Most_any x W)
  rw [ho] at KO
  replace KO := Lib.hid KO
  rcases hx : betB x (-1000000000000) 1000000000000 with _ | _
  · have HC := Lib.hid (show anC b ds x = 2 by unfold anC; rw [if_neg (by rw [ho]; decide), if_pos hx])
    rw [hx] at KB
    replace KB := Lib.hid KB
    clear hr ho hx HR
    go_enter Try.func10, Try.ntmps10
    go_wp2_with fail
    refine Calls.kn (((Kn.nil w).al [.int .i64 b, .slice A ds.length c] 26).al [.int .i64 0, .slice none 0 0] 26) ?_; intro w1 hK1
    simp only [World.size_alloc] at hK1
    (refine (KO.out _ hK1).mono ?_); rintro e w2 ⟨rfl, hw⟩
    have hK3 := hK1.keep hw
    obtain ⟨x1, x2, x3, -⟩ := hK3.cells
    go_wp2_with (go_at_call 31; refine (KB.out _).mono ?_; rintro e w' ⟨rfl, rfl⟩)
    refine bodyPost.kn ((hK3.st 0 (.int .i64 0)).st 1 (.slice none 0 0)) ?_; intro w9 hK9
    obtain ⟨a1, a2, a3, -⟩ := hK9.cells
    exact bodyPost_ret (v := .tuple #[.agg #[.int .i64 0, .slice none 0 0], .bool false, .int .i64 2]) (by simp [results, Try.results10, go_sem, a1]) rfl (.inl ⟨by rw [HC.out]; decide, by rw [HC.out], hK9.below⟩)
  · have HC := Lib.hid (show anC b ds x = 0 by unfold anC; rw [if_neg (by rw [ho]; decide), if_neg (by rw [hx]; decide)])
    rw [hx] at KB
    replace KB := Lib.hid KB
    have hx' := betB_iff.1 hx
    have KA := (fun W (hW : Kn w [.blk (w.heap.size + 1) [.int .i64 0, .slice none 0 0] 26, .blk w.heap.size [.int .i64 b, .slice A ds.length c] 26] W) => l09Add_any w.heap.size b A c ds x W (HR W hW) ho (by omega))
    obtain ⟨es, hes⟩ : ∃ l, aSet b ds.length (aNum b ds + x) = l := ⟨_, rfl⟩
    obtain ⟨r, hr'⟩ : ∃ r, isNm (pw b ds.length) (aNum b ds + x) = r := ⟨_, rfl⟩
    rw [hes, hr'] at KA
    rw [hes, hr']
    replace KA := Lib.hid KA
    clear hr ho hx hx' hes hr' HR
    go_enter Try.func10, Try.ntmps10
    go_wp2_with fail
    refine Calls.kn (((Kn.nil w).al [.int .i64 b, .slice A ds.length c] 26).al [.int .i64 0, .slice none 0 0] 26) ?_; intro w1 hK1
    simp only [World.size_alloc] at hK1
    (refine (KO.out _ hK1).mono ?_); rintro e w2 ⟨rfl, hw⟩
    have hK3 := hK1.keep hw
    clear hK1 hw
    go_wp2_with (go_at_call 31; refine (KB.out _).mono ?_; rintro e w' ⟨rfl, rfl⟩)
    (refine (KA.out _ hK3).mono ?_); rintro e w4 ⟨E, g, rfl, hKn⟩
    have hK4 := hK3.join hKn
    clear hK3 hKn
    obtain ⟨x1, x2, x3, -⟩ := hK4.cells
    go_wp2_with fail
    refine bodyPost.kn ((((hK4.front 1 rfl).st 0 (.int .i64 b)).st 1 (.slice E es.length g)).al_ (.cells #[.int .i64 b, .slice E es.length g] 26)) ?_; intro w9 hK9
    clear x1 x2 x3
    obtain ⟨a1, a2, a3, -⟩ := hK9.cells
    exact bodyPost_ret (v := .tuple #[.agg #[.int .i64 b, .slice E es.length g], .bool (!r), .int .i64 0]) (by simp [results, Try.results10, go_sem, a1]) rfl (.inr ⟨HC.out, E, g, rfl, hK9.sel [1] 99 (by decide) (by decide)⟩)
end Go.Proofs.Ytikcifpdnbhpiaa

namespace Go.Proofs.Ytikcifpdnbhpiaa
open Go.RowKit Go.Sort
/-- how far each wheel is turned to come to 0 -/
def ctL (b : Int) (ds : List Int) : List Int := ds.map (fun d => (b - d).tmod b)
def ctR (b : Int) (ds : List Int) : List Int := if vreg b ds then ctL b ds else []
def CTRet (b : Int) (ds : List Int) (w : World) (e : Ending) (w' : World) : Prop := ∃ E k, e = .returned (.tuple #[.slice E (ctR b ds).length k, .int .i64 (if vreg b ds then 0 else 1)]) ∧ Kn w [rowI E k (ctR b ds)] w'
theorem ctL_take {b : Int} {ds : List Int} {k : Nat} (h : k < ds.length) : ctL b (ds.take (k + 1)) = ctL b (ds.take k) ++ [(b - ds[k]).tmod b] := by
  unfold ctL; rw [List.take_succ_eq_append_getElem h, List.map_append]; rfl
theorem ctL_len (b : Int) (ds : List Int) : (ctL b ds).length = ds.length := by unfold ctL; rw [List.length_map]
set_option maxRecDepth 100000 in
set_option maxHeartbeats 1600000 in
theorem ClearTurns_any (b : Int) (A : Option Addr) (c : Nat) (ds : List Int) (w : World) (hr : RI w A ds.length ds) (hm : ds.length ≤ 9223372036854775807) :
    Calls Try.prog 15 #[.agg #[.int .i64 b, .slice A ds.length c]] w (CTRet b ds w) := by
  unfold CTRet
  have KV := (fun W (hW : Below w.heap.size w W) => ValidRegister_any b A ds.length c ds W (hr.below hW) hm)
  rcases hv : vreg b ds with _ | _
  · have HR := Lib.hid (show ctR b ds = [] by unfold ctR; rw [hv]; rfl)
    rw [hv] at KV
    replace KV := Lib.hid KV
    rw [HR.out]
    clear hv hr
    go_enter Try.func15, Try.ntmps15
    go_wp2_with fail
    refine Calls.kn ((Kn.nil w).al [.int .i64 b, .slice A ds.length c] 26) ?_; intro w1 hK1
    refine (KV.out _ hK1.below).mono ?_; rintro e w2 ⟨rfl, hw⟩
    have hK2 := hK1.keep hw
    go_wp2_with fail
    go_ret2
    exact ⟨none, 0, rfl, hK2.bare.nilRow _ _⟩
  obtain ⟨⟨b1, b2⟩, ⟨n1, n2⟩, hd, -⟩ := vreg_iff.1 hv
  have HR := Lib.hid (show ctR b ds = ctL b ds by unfold ctR; rw [hv]; rfl)
  have HRI := Lib.hid (fun W (hW : Below w.heap.size w W) => hr.below hW)
  rw [hv] at KV
  replace KV := Lib.hid KV
  rw [HR.out]
  have HN := Lib.hid (ctL_len b)
  have HTK := Lib.hid (show ds.take ds.length = ds from List.take_length)
  have hDD := Lib.hid (fun (d : Int) (h : d ∈ ds) => hd d h)
  have nz1 : b ≠ 0 := by omega
  have nz2 : (b == 0) = false := by simp; omega
  clear hv hr hd
  go_enter Try.func15, Try.ntmps15
  go_wp2_with fail
  refine Calls.kn ((Kn.nil w).al [.int .i64 b, .slice A ds.length c] 26) ?_; intro w1 hK1
  refine (KV.out _ hK1.below).mono ?_; rintro e w2 ⟨rfl, hw⟩
  have hK2 := hK1.keep hw
  clear hK1 hw
  obtain ⟨a1, a2, a3, -⟩ := hK2.cells
  go_wp2_with fail
  have hK3 := (hK2.al [] 2).litRow (size := 1) (n := 0) rfl (by decide)
  clear hK2 a1 a2 a3
  go_loopw [4, 14] (fun vv kk wr => ∃ (k : Nat) (E : Option Addr) (m : Nat), k ≤ ds.length ∧ kk = .int .i64 k ∧ vv = .slice E (ctL b (ds.take k)).length m ∧ Kn w [rowI E m (ctL b (ds.take k)), .blk w.heap.size [.int .i64 b, .slice A ds.length c] 26] wr) (fun _ kk _ => ds.length - (intOf kk).toNat)
  case atStart => exact ⟨0, some ⟨w2.heap.size, 0, none⟩, 0, Nat.zero_le _, rfl, rfl, hK3⟩
  case round =>
    obtain ⟨k, E, m, hk, rfl, rfl, hK⟩ := hrel
    clear hK3
    by_cases hkn : k < ds.length
    · have hk1 : (k : Int) < (ds.length : Int) := by omega
      obtain ⟨ad, hA, hlt, hkl, hc⟩ := (HRI.out _ hK.below).at_ hkn
      subst hA
      have HNX := ctL_take (b := b) hkl
      obtain ⟨d, hdd⟩ : ∃ d, ds[k] = d := ⟨_, rfl⟩
      have hdb := hDD.out d (by rw [← hdd]; exact List.getElem_mem _)
      rw [hdd] at hc HNX
      have htm : 0 ≤ (b - d).tmod b ∧ (b - d).tmod b < b := by
        rw [Int.tmod_eq_emod_of_nonneg (by omega)]
        exact ⟨Int.emod_nonneg _ (by omega), Int.emod_lt_of_pos _ (by omega)⟩
      obtain ⟨z, hz⟩ : ∃ z, (b - d).tmod b = z := ⟨_, rfl⟩
      rw [hz] at HNX htm
      have w1 : IntKind.i64.wrap (b - d) = b - d := wrapI64 (by omega)
      have w2 : IntKind.i64.wrap z = z := wrapI64 (by omega)
      have w3 : IntKind.i64.wrap ((b - d).tmod b) = z := by rw [hz]; exact w2
      have hln := HN.out (ds.take k)
      rw [List.length_take] at hln
      obtain ⟨es, hes⟩ : ∃ es, ctL b (ds.take k) = es := ⟨_, rfl⟩
      rw [hes] at HNX hK hln
      rw [hes]
      replace HNX := Lib.hid HNX
      have hle : es.length ≤ 1000000 := by omega
      clear hdd hes hln
      obtain ⟨a1, a2, a3, -⟩ := hK.cells
      go_wp2_with (at_builtin; refine kn_pushI rfl _ _ rfl _ es rfl rfl (hK.al [.int .i64 z] 2) (by omega) ?_; intro v5 w6 hK9; obtain ⟨A5, c5, rfl⟩ := row_form hK9.at0)
      go_roundw
      case rel =>
        refine ⟨k + 1, A5, c5, by omega, by go_num, by rw [HNX.out]; simp, ?_⟩
        rw [HNX.out]
        exact hK9
      case measure => simp [intOf]; omega
    · have hk1 : ¬ (k : Int) < (ds.length : Int) := by omega
      obtain rfl : k = ds.length := by omega
      rw [HTK.out] at hK ⊢
      go_wp2_with fail
      go_ret2
      exact ⟨E, m, rfl, hK.sel [0] 99 (by decide) (by decide)⟩
set_option maxRecDepth 100000 in
set_option maxHeartbeats 1600000 in
theorem specClearTurns_any (b : Int) (A : Option Addr) (c : Nat) (ds : List Int) (w : World) (hr : RI w A ds.length ds) (hm : ds.length ≤ 9223372036854775807) :
    Calls Try.prog 16 #[.agg #[.int .i64 b, .slice A ds.length c]] w (CTRet b ds w) := by
  unfold CTRet
  have KV := (fun W (hW : Kn w [.blk w.heap.size [.int .i64 b, .slice A ds.length c] 26] W) => l02Ok_any ⟨w.heap.size, 0, none⟩ b A ds.length c ds W (box2 hW) (hr.below hW.below) hm)
  rcases hv : vreg b ds with _ | _
  · have HR := Lib.hid (show ctR b ds = [] by unfold ctR; rw [hv]; rfl)
    rw [hv] at KV
    replace KV := Lib.hid KV
    rw [HR.out]
    clear hv hr
    go_enter Try.func16, Try.ntmps16
    go_wp2_with fail
    refine Calls.kn ((Kn.nil w).al [.int .i64 b, .slice A ds.length c] 26) ?_; intro w1 hK1
    refine (KV.out _ hK1).mono ?_; rintro e w2 ⟨rfl, q, rfl⟩
    have hK2 := hK1.drewN q
    generalize w1.drewN q = w2 at hK2 ⊢
    go_wp2_with fail
    go_ret2
    exact ⟨none, 0, rfl, hK2.bare.nilRow _ _⟩
  obtain ⟨⟨b1, b2⟩, ⟨n1, n2⟩, hd, -⟩ := vreg_iff.1 hv
  have HR := Lib.hid (show ctR b ds = ctL b ds by unfold ctR; rw [hv]; rfl)
  have HRI := Lib.hid (fun W (hW : Below w.heap.size w W) => hr.below hW)
  rw [hv] at KV
  replace KV := Lib.hid KV
  rw [HR.out]
  have HN := Lib.hid (ctL_len b)
  have HTK := Lib.hid (show ds.take ds.length = ds from List.take_length)
  have hDD := Lib.hid (fun (d : Int) (h : d ∈ ds) => hd d h)
  have nz1 : b ≠ 0 := by omega
  have nz2 : (b == 0) = false := by simp; omega
  clear hv hr hd
  go_enter Try.func16, Try.ntmps16
  go_wp2_with fail
  refine Calls.kn ((Kn.nil w).al [.int .i64 b, .slice A ds.length c] 26) ?_; intro w1 hK1
  refine (KV.out _ hK1).mono ?_; rintro e w2 ⟨rfl, q, rfl⟩
  have hK2 := hK1.drewN q
  generalize w1.drewN q = w2 at hK2 ⊢
  clear hK1
  go_wp2_with fail
  have hK3 := (hK2.al [] 2).litRow (size := 1) (n := 0) rfl (by decide)
  clear hK2
  go_loopw [4, 5] (fun vv kk wr => ∃ (k : Nat) (E : Option Addr) (m : Nat), k ≤ ds.length ∧ kk = .int .i64 k ∧ vv = .slice E (ctL b (ds.take k)).length m ∧ Kn w [rowI E m (ctL b (ds.take k)), .blk w.heap.size [.int .i64 b, .slice A ds.length c] 26] wr) (fun _ kk _ => ds.length - (intOf kk).toNat)
  case atStart => exact ⟨0, some ⟨w2.heap.size, 0, none⟩, 0, Nat.zero_le _, rfl, rfl, hK3⟩
  case round =>
    obtain ⟨k, E, m, hk, rfl, rfl, hK⟩ := hrel
    clear hK3
    by_cases hkn : k < ds.length
    · have hk1 : (k : Int) < (ds.length : Int) := by omega
      obtain ⟨ad, hA, hlt, hkl, hc⟩ := (HRI.out _ hK.below).at_ hkn
      subst hA
      have HNX := ctL_take (b := b) hkl
      obtain ⟨d, hdd⟩ : ∃ d, ds[k] = d := ⟨_, rfl⟩
      have hdb := hDD.out d (by rw [← hdd]; exact List.getElem_mem _)
      rw [hdd] at hc HNX
      have htm : 0 ≤ (b - d).tmod b ∧ (b - d).tmod b < b := by
        rw [Int.tmod_eq_emod_of_nonneg (by omega)]
        exact ⟨Int.emod_nonneg _ (by omega), Int.emod_lt_of_pos _ (by omega)⟩
      obtain ⟨z, hz⟩ : ∃ z, (b - d).tmod b = z := ⟨_, rfl⟩
      rw [hz] at HNX htm
      have w1 : IntKind.i64.wrap (b - d) = b - d := wrapI64 (by omega)
      have w2 : IntKind.i64.wrap z = z := wrapI64 (by omega)
      have w3 : IntKind.i64.wrap ((b - d).tmod b) = z := by rw [hz]; exact w2
      have hln := HN.out (ds.take k)
      rw [List.length_take] at hln
      obtain ⟨es, hes⟩ : ∃ es, ctL b (ds.take k) = es := ⟨_, rfl⟩
      rw [hes] at HNX hK hln
      rw [hes]
      replace HNX := Lib.hid HNX
      have hle : es.length ≤ 1000000 := by omega
      clear hdd hes hln
      obtain ⟨a1, a2, a3, -⟩ := hK.cells
      go_wp2_with fail
      go_region_law (refine kn_stepI rfl _ _ rfl _ es rfl rfl ((hK.al [.int .i64 z] 2).drew) (by omega) ?_; intro v5 w6 hK9; obtain ⟨A5, c5, rfl⟩ := row_form hK9.at0)
      all_goals
        go_wp2_with fail
        go_roundw
        case rel =>
          refine ⟨k + 1, A5, c5, by omega, by go_num, by rw [HNX.out]; simp, ?_⟩
          rw [HNX.out]
          exact hK9
        case measure => simp [intOf]; omega
    · have hk1 : ¬ (k : Int) < (ds.length : Int) := by omega
      obtain rfl : k = ds.length := by omega
      rw [HTK.out] at hK ⊢
      obtain ⟨a1, a2, a3, -⟩ := hK.cells
      go_wp2_with fail
      go_ret2
      exact ⟨E, m, rfl, hK.sel [0] 99 (by decide) (by decide)⟩
end Go.Proofs.Ytikcifpdnbhpiaa
