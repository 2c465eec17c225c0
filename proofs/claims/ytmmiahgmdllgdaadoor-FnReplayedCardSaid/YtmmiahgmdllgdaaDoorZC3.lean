/- Part 3: lemmas and contracts of the claim's functions. -/
import Derived.Test.YtmmiahgmdllgdaaDoorZC1
import Derived.Test.YtmmiahgmdllgdaaDoorZC2
import Derived.Deep.DrawnRows
import Derived.Deep.LoopGhost
namespace Go.Proofs.YtmmiahgmdllgdaaDoor
open Go.RowKit Go.Sort
/-! programs, plainly: depths, matches, what a run does -/
def depA (xs : List Ins) (k : Nat) : Int := (progD (xs.take k)).getD 0
theorem vprog_len {xs : List Ins} (h : vprog xs = true) : xs.length ≤ 120 := by
  unfold vprog at h; simp only [Bool.and_eq_true, decide_eq_true_eq] at h; exact h.2
theorem vprog_some {xs : List Ins} (h : vprog xs = true) (k : Nat) : progD (xs.take k) = some (depA xs k) := by
  unfold vprog at h; simp only [Bool.and_eq_true, decide_eq_true_eq] at h
  unfold depA
  cases hp : progD (xs.take k) with
  | none => rw [progD_none hp] at h; cases h.1
  | some d => rfl
theorem depA_zero (xs : List Ins) : depA xs 0 = 0 := rfl
theorem depA_end {xs : List Ins} (h : vprog xs = true) {k : Nat} (hk : xs.length ≤ k) : depA xs k = 0 := by
  unfold vprog at h; simp only [Bool.and_eq_true, decide_eq_true_eq] at h
  unfold depA; rw [List.take_of_length_le hk, h.1]; rfl
theorem dep_step {xs : List Ins} (h : vprog xs = true) {k : Nat} (hk : k < xs.length) : instrOk xs[k].op xs[k].arg = true ∧ depthStep xs[k].op (depA xs k) = some (depA xs (k + 1)) := by
  have h1 := vprog_some h (k + 1)
  rw [progD_succ hk, vprog_some h k] at h1
  simp only [stepI, Option.bind_some] at h1
  split at h1
  · rename_i hi; exact ⟨hi, h1⟩
  · cases h1
theorem dep_bd {xs : List Ins} (h : vprog xs = true) : ∀ k : Nat, 0 ≤ depA xs k ∧ depA xs k ≤ 4
  | 0 => by rw [depA_zero]; omega
  | k + 1 => by
    by_cases hk : k < xs.length
    · exact depthStep_bd (dep_step h hk).2 (dep_bd h k).1 (dep_bd h k).2
    · rw [depA_end h (by omega)]; omega
theorem dep_open {xs : List Ins} (h : vprog xs = true) {k : Nat} (hk : k < xs.length) (ho : opens xs[k].op = true) : depA xs (k + 1) = depA xs k + 1 := by
  have h1 := (dep_step h hk).2
  have h10 : ¬ xs[k].op = 10 := by intro h; rw [h] at ho; simp [opens] at ho
  unfold depthStep at h1
  rw [if_neg h10, ho] at h1
  simp only [if_true] at h1
  split at h1
  · cases h1
  · injection h1 with h1; omega
theorem dep_close {xs : List Ins} (h : vprog xs = true) {k : Nat} (hk : k < xs.length) (ho : xs[k].op = 10) : depA xs (k + 1) = depA xs k - 1 := by
  have h1 := (dep_step h hk).2
  unfold depthStep at h1
  rw [if_pos ho] at h1
  split at h1
  · cases h1
  · injection h1 with h1; omega
theorem dep_same {xs : List Ins} (h : vprog xs = true) {k : Nat} (hk : k < xs.length) (ho : opens xs[k].op = false) (h10 : ¬ xs[k].op = 10) : depA xs (k + 1) = depA xs k := by
  have h1 := (dep_step h hk).2
  unfold depthStep at h1
  rw [if_neg h10, ho] at h1
  simp only [Bool.false_eq_true, if_false] at h1
  injection h1 with h1; omega
theorem dep_near {xs : List Ins} (h : vprog xs = true) (k : Nat) : depA xs k - 1 ≤ depA xs (k + 1) ∧ depA xs (k + 1) ≤ depA xs k + 1 := by
  by_cases hk : k < xs.length
  · rcases ho : opens xs[k].op with _ | _
    · by_cases h10 : xs[k].op = 10
      · rw [dep_close h hk h10]; omega
      · rw [dep_same h hk ho h10]; omega
    · rw [dep_open h hk ho]; omega
  · rw [depA_end h (show xs.length ≤ k by omega), depA_end h (show xs.length ≤ k + 1 by omega)]; omega
/-- e is the end of the loop that begins at i -/
def IsMatch (xs : List Ins) (i e : Nat) : Prop := i ≤ e ∧ e < xs.length ∧ depA xs (e + 1) = depA xs i ∧ ∀ j, i < j → j ≤ e → depA xs i < depA xs j
theorem IsMatch.one {xs : List Ins} {i e f : Nat} (h1 : IsMatch xs i e) (h2 : IsMatch xs i f) : e = f := by
  obtain ⟨a1, a2, a3, a4⟩ := h1
  obtain ⟨b1, b2, b3, b4⟩ := h2
  rcases Nat.lt_trichotomy e f with h | h | h
  · have := b4 (e + 1) (by omega) (by omega); omega
  · exact h
  · have := a4 (f + 1) (by omega) (by omega); omega
/-- a part of a program in which all loops are whole -/
structure Seg (xs : List Ins) (i tt : Nat) : Prop where
  le : i ≤ tt
  len : tt ≤ xs.length
  dep : depA xs tt = depA xs i
  above : ∀ j, i ≤ j → j ≤ tt → depA xs i ≤ depA xs j
theorem Seg.all {xs : List Ins} (h : vprog xs = true) : Seg xs 0 xs.length :=
  ⟨Nat.zero_le _, Nat.le_refl _, by rw [depA_end h (Nat.le_refl _), depA_zero], fun j _ _ => by rw [depA_zero]; exact (dep_bd h j).1⟩
theorem Seg.lt {xs : List Ins} {i tt : Nat} (hs : Seg xs i tt) (hi : i < tt) : i < xs.length := Nat.lt_of_lt_of_le hi hs.len
theorem Seg.noEnd {xs : List Ins} (h : vprog xs = true) {i tt : Nat} (hs : Seg xs i tt) (hi : i < tt) : ¬ (xs[i]'(hs.lt hi)).op = 10 := by
  intro h10
  have h1 := dep_close h (hs.lt hi) h10
  have h2 := hs.above (i + 1) (by omega) (by omega)
  omega
theorem Seg.next {xs : List Ins} (h : vprog xs = true) {i tt : Nat} (hs : Seg xs i tt) (hi : i < tt) (ho : opens (xs[i]'(hs.lt hi)).op = false) : Seg xs (i + 1) tt := by
  have h1 := dep_same h (hs.lt hi) ho (hs.noEnd h hi)
  exact ⟨by omega, hs.len, by rw [h1]; exact hs.dep, fun j h2 h3 => by rw [h1]; exact hs.above j (by omega) h3⟩
theorem Seg.loop {xs : List Ins} (h : vprog xs = true) {i tt e : Nat} (hs : Seg xs i tt) (hi : i < tt) (ho : opens (xs[i]'(hs.lt hi)).op = true) (hm : IsMatch xs i e) :
    i < e ∧ e < tt ∧ Seg xs (i + 1) e ∧ Seg xs (e + 1) tt := by
  obtain ⟨m1, m2, m3, m4⟩ := hm
  have h1 := dep_open h (hs.lt hi) ho
  have he : i < e := by
    rcases Nat.lt_or_ge i e with h2 | h2
    · exact h2
    · obtain rfl : e = i := by omega
      omega
  have ht : e < tt := by
    rcases Nat.lt_or_ge e tt with h2 | h2
    · exact h2
    · have := m4 tt hi h2; have := hs.dep; omega
  have h3 := m4 e he (Nat.le_refl _)
  have h4 := dep_near h e
  refine ⟨he, ht, ⟨by omega, by omega, by omega, fun j h5 h6 => ?_⟩, ⟨by omega, hs.len, by rw [m3]; exact hs.dep, fun j h5 h6 => by rw [m3]; exact hs.above j (by omega) h6⟩⟩
  have := m4 j (by omega) h6
  omega
theorem Seg.noOpen {xs : List Ins} {i tt : Nat} (hs : Seg xs i tt) : xs.length = tt ∨ tt < xs.length := by have := hs.len; omega
/-- what a runner holds -/
structure RS where
  m : Tri
  tr : List Int
  done : Nat
  code : Int
def RS.tick (s : RS) : RS := ⟨s.m, s.tr, s.done + 1, if s.done = 3000 then 5 else 0⟩
theorem RS.tick_full {s : RS} (h : s.done = 3000) : s.tick = ⟨s.m, s.tr, s.done + 1, 5⟩ := by simp [RS.tick, h]
theorem RS.tick_ok {s : RS} (h : ¬ s.done = 3000) : s.tick = ⟨s.m, s.tr, s.done + 1, 0⟩ := by simp [RS.tick, h]
/-- the setting set tt a value that fits -/
def setT (t : Tri) (v : Int) : Tri := { t with a := ⟨t.a.base, digD t.a.base t.a.digits.length v⟩ }
def setFits (t : Tri) (v : Int) : Bool := restD t.a.base t.a.digits.length v == 0
inductive Task where
  | run (i tt : Nat)
  | loop (op arg : Int) (i e : Nat) (k : Nat)
  | str (kind : Int) (n : Nat)
/-- what is done by a part of a program; the last is whether the bell has rung -/
inductive Ev (L : List Ins) : Task → RS → RS → Bool → Prop where
  | s0 {kind s} : Ev L (.str kind 0) s s false
  | sFull {kind n s} (h : s.done = 3000) : Ev L (.str kind (n + 1)) s s.tick false
  | sStep {kind n s s' b} (h : ¬ s.done = 3000) (he : Ev L (.str kind n) ⟨(strokeT kind s.m).1, s.tr ++ [kind], s.done + 1, 0⟩ s' b) : Ev L (.str kind (n + 1)) s s' ((strokeT kind s.m).2 || b)
  | rEnd {i tt s} (h : tt ≤ i) : Ev L (.run i tt) s s false
  | rCode {i tt s} (hi : i < tt) (h : ¬ s.code = 0) : Ev L (.run i tt) s s false
  | rSetFull {i tt s} (hi : i < tt) (hl : i < L.length) (hc : s.code = 0) (ho : L[i].op = 1) (h : s.done = 3000) : Ev L (.run i tt) s s.tick false
  | rSetBad {i tt s} (hi : i < tt) (hl : i < L.length) (hc : s.code = 0) (ho : L[i].op = 1) (h : ¬ s.done = 3000) (hf : setFits s.m L[i].arg = false) : Ev L (.run i tt) s ⟨s.m, s.tr, s.done + 1, 10⟩ false
  | rSet {i tt s s' b} (hi : i < tt) (hl : i < L.length) (hc : s.code = 0) (ho : L[i].op = 1) (h : ¬ s.done = 3000) (hf : setFits s.m L[i].arg = true) (he : Ev L (.run (i + 1) tt) ⟨setT s.m L[i].arg, s.tr, s.done + 1, 0⟩ s' b) : Ev L (.run i tt) s s' b
  | rLoop {i tt e s s1 s' b b1} (hi : i < tt) (hl : i < L.length) (hc : s.code = 0) (ho : opens L[i].op = true) (hm : IsMatch L i e) (h1 : Ev L (.loop L[i].op L[i].arg (i + 1) e 0) s s1 b1) (he : Ev L (.run (e + 1) tt) s1 s' b) : Ev L (.run i tt) s s' b
  | rStr {i tt s s1 s' b b1} (hi : i < tt) (hl : i < L.length) (hc : s.code = 0) (ho : opens L[i].op = false) (h1' : ¬ L[i].op = 1) (h1 : Ev L (.str (L[i].op - 1) (max 1 L[i].arg).toNat) s s1 b1) (he : Ev L (.run (i + 1) tt) s1 s' b) : Ev L (.run i tt) s s' (b1 || b)
  | lEnd {op arg : Int} {i e k : Nat} {s : RS} (h8 : op = 8) (hk : arg ≤ (k : Int)) : Ev L (.loop op arg i e k) s s false
  | lFull {op arg : Int} {i e k : Nat} {s : RS} (h8 : ¬ (op = 8 ∧ arg ≤ (k : Int))) (h : s.done = 3000) : Ev L (.loop op arg i e k) s s.tick false
  | lOut {op arg : Int} {i e k : Nat} {s s1 : RS} {b : Bool} (h8 : ¬ (op = 8 ∧ arg ≤ (k : Int))) (h : ¬ s.done = 3000) (h1 : Ev L (.run i e) ⟨s.m, s.tr, s.done + 1, 0⟩ s1 b) (ho : ¬ s1.code = 0 ∨ (op = 9 ∧ b = true)) : Ev L (.loop op arg i e k) s s1 false
  | lStep {op arg : Int} {i e k : Nat} {s s1 s' : RS} {b b2 : Bool} (h8 : ¬ (op = 8 ∧ arg ≤ (k : Int))) (h : ¬ s.done = 3000) (h1 : Ev L (.run i e) ⟨s.m, s.tr, s.done + 1, 0⟩ s1 b) (ho : s1.code = 0 ∧ ¬ (op = 9 ∧ b = true)) (he : Ev L (.loop op arg i e (k + 1)) s1 s' b2) : Ev L (.loop op arg i e k) s s' false
theorem Ev.one {L : List Ins} {t : Task} {s s1 : RS} {b1 : Bool} (h : Ev L t s s1 b1) : ∀ {s2 : RS} {b2 : Bool}, Ev L t s s2 b2 → s1 = s2 ∧ b1 = b2 := by
  induction h with
  | s0 => intro s2 b2 h2; cases h2; exact ⟨rfl, rfl⟩
  | sFull h => intro s2 b2 h2; cases h2 with
    | sFull => exact ⟨rfl, rfl⟩
    | sStep h' => exact absurd h h'
  | sStep h he ih => intro s2 b2 h2; cases h2 with
    | sFull h' => exact absurd h' h
    | sStep _ h' => obtain ⟨rfl, rfl⟩ := ih h'; exact ⟨rfl, rfl⟩
  | rEnd h => intro s2 b2 h2; cases h2 <;> first | exact ⟨rfl, rfl⟩ | omega
  | rCode hi h => intro s2 b2 h2; cases h2 <;> first | exact ⟨rfl, rfl⟩ | contradiction
  | @rSetFull i _ _ hi hl hc ho h =>
    have hop : opens (L[i]'hl).op = false := by rw [ho]; rfl
    intro s2 b2 h2; cases h2 <;> first | exact ⟨rfl, rfl⟩ | contradiction | omega | simp_all
  | @rSetBad i _ _ hi hl hc ho h hf =>
    have hop : opens (L[i]'hl).op = false := by rw [ho]; rfl
    intro s2 b2 h2; cases h2 <;> first | exact ⟨rfl, rfl⟩ | contradiction | omega | simp_all
  | @rSet i _ _ _ _ hi hl hc ho h hf he ih =>
    have hop : opens (L[i]'hl).op = false := by rw [ho]; rfl
    intro s2 b2 h2; cases h2 with
    | rSet _ _ _ _ _ _ he' => exact ih he'
    | _ => first | contradiction | omega | simp_all
  | @rLoop i _ _ _ _ _ _ _ hi hl hc ho hm h1 he ih1 ih2 =>
    have hop : ¬ (L[i]'hl).op = 1 := by intro h; rw [h] at ho; simp [opens] at ho
    intro s2 b2 h2; cases h2 with
    | rLoop _ _ _ _ hm' h1' he' =>
      obtain rfl := hm.one hm'
      obtain ⟨rfl, -⟩ := ih1 h1'
      exact ih2 he'
    | _ => first | contradiction | omega | simp_all
  | rStr hi hl hc ho h1' h1 he ih1 ih2 =>
    intro s2 b2 h2; cases h2 with
    | rStr _ _ _ _ _ h1'' he' =>
      obtain ⟨rfl, rfl⟩ := ih1 h1''
      obtain ⟨rfl, rfl⟩ := ih2 he'
      exact ⟨rfl, rfl⟩
    | _ => first | contradiction | omega | simp_all
  | lEnd h8 hk => intro s2 b2 h2; cases h2 <;> first | exact ⟨rfl, rfl⟩ | (exfalso; rename_i h _; exact h ⟨h8, hk⟩) | (exfalso; simp_all)
  | lFull h8 h => intro s2 b2 h2; cases h2 with
    | lEnd a b => exact absurd ⟨a, b⟩ h8
    | lFull => exact ⟨rfl, rfl⟩
    | lOut _ h' => exact absurd h h'
    | lStep _ h' => exact absurd h h'
  | lOut h8 h h1 ho ih => intro s2 b2 h2; cases h2 with
    | lEnd a b => exact absurd ⟨a, b⟩ h8
    | lFull _ h' => exact absurd h' h
    | lOut _ _ h1' => exact ⟨(ih h1').1, rfl⟩
    | lStep _ _ h1' ho' =>
      obtain ⟨rfl, rfl⟩ := ih h1'
      rcases ho with ho | ho
      · exact absurd ho'.1 ho
      · exact absurd ho ho'.2
  | lStep h8 h h1 ho he ih1 ih2 => intro s2 b2 h2; cases h2 with
    | lEnd a b => exact absurd ⟨a, b⟩ h8
    | lFull _ h' => exact absurd h' h
    | lOut _ _ h1' ho' =>
      obtain ⟨rfl, rfl⟩ := ih1 h1'
      rcases ho' with ho' | ho'
      · exact absurd ho.1 ho'
      · exact absurd ho' ho.2
    | lStep _ _ h1' _ he' =>
      obtain ⟨rfl, rfl⟩ := ih1 h1'
      exact ⟨(ih2 he').1, rfl⟩
theorem restD_div (b : Int) (hb : 2 ≤ b) (k : Nat) (v : Int) (h0 : 0 ≤ v) : restD b k v = v / pw b k := by
  induction k with
  | zero => simp [restD, pw]
  | succ k ih =>
    have h1 := pw_pos b hb k
    rw [restD, ih, Int.tdiv_eq_ediv_of_nonneg (Int.ediv_nonneg h0 (by omega)), Int.ediv_ediv_of_nonneg (by omega)]; rfl
theorem restD_zero (b : Int) (hb : 2 ≤ b) (k : Nat) (v : Int) (h0 : 0 ≤ v) : (restD b k v == 0) = decide (v < pw b k) := by
  have h1 := pw_pos b hb k
  rw [restD_div b hb k v h0, Bool.eq_iff_iff, beq_iff_eq, decide_eq_true_iff]
  constructor
  · intro h
    rcases Int.lt_or_le v (pw b k) with h2 | h2
    · exact h2
    · have := Int.ediv_le_ediv (show 0 < pw b k by omega) h2
      rw [Int.ediv_self (by omega)] at this; omega
  · intro h; exact Int.ediv_eq_zero_of_lt h0 h
/-- what holds of a runner all the time -/
structure RS.Good (s : RS) : Prop where
  m : vmach s.m = true
  tr : s.tr.length ≤ s.done
  done : s.code = 0 → s.done ≤ 3000
  top : s.done ≤ 3001
theorem setT_ok {t : Tri} (v : Int) (h : vmach t = true) (h0 : 0 ≤ v) (h1 : v < pw t.a.base t.a.digits.length) : vmach (setT t v) = true := by
  obtain ⟨k1, k2, k3, e1, e2, f1, f2, l1, c0, c1⟩ := vmach_all h
  obtain ⟨⟨b1, b2⟩, ⟨n1, n2⟩, hd, hl⟩ := vreg_iff.1 k1
  have hm := pw_mono t.a.base (by omega) _ _ l1
  rw [e1] at hm
  refine vmach_mk (t := setT t v) (digD_vreg _ b1 b2 _ (by omega) (by omega) v h0 h1 ?_) k2 k3 e1 e2 f1 f2 (by simp only [setT, digD_len]; exact l1) c0 (by simp only [setT, vplaces, digD_len]; exact c1)
  rw [e1] at h1; omega
theorem RS.Good.tick {s : RS} (h : s.Good) (hc : s.code = 0) : s.tick.Good := by
  have h1 := h.done hc
  have h2 := h.tr
  unfold RS.tick
  split
  · exact ⟨h.m, by simp only []; omega, (fun h => by cases h), by simp only []; omega⟩
  · exact ⟨h.m, by simp only []; omega, fun _ => by simp only []; omega, by simp only []; omega⟩
theorem RS.Good.stroke {s : RS} (h : s.Good) (hc : s.code = 0) (hd : ¬ s.done = 3000) (k : Int) : (RS.mk (strokeT k s.m).1 (s.tr ++ [k]) (s.done + 1) 0).Good := by
  have h1 := h.done hc
  have h2 := h.tr
  exact ⟨strokeT_ok k h.m, by simp; omega, fun _ => by simp only []; omega, by simp only []; omega⟩
theorem RS.Good.more {s : RS} (h : s.Good) (hc : s.code = 0) (hd : ¬ s.done = 3000) (t : Tri) (ht : vmach t = true) (c : Int) : (RS.mk t s.tr (s.done + 1) c).Good := by
  have h1 := h.done hc
  have h2 := h.tr
  exact ⟨ht, by simp only []; omega, fun _ => by simp only []; omega, by simp only []; omega⟩
end Go.Proofs.YtmmiahgmdllgdaaDoor

namespace Go.Proofs.YtmmiahgmdllgdaaDoor
open Go.RowKit Go.Sort
/-! sessions, plainly -/
/-- the name of a stroke -/
def sname (k : Int) : ByteArray :=
  if k = 1 then ⟨#[97, 100, 100]⟩ else if k = 2 then ⟨#[115, 117, 98]⟩ else if k = 3 then ⟨#[114, 105, 103, 104, 116]⟩ else if k = 4 then ⟨#[108, 101, 102, 116]⟩ else if k = 5 then ⟨#[99, 108, 101, 97, 114]⟩ else if k = 6 then ⟨#[122, 101, 114, 111]⟩ else ⟨#[]⟩
def kindOf (bs : List UInt8) : Int :=
  if bs = strB (sname 1) then 1 else if bs = strB (sname 2) then 2 else if bs = strB (sname 3) then 3 else if bs = strB (sname 4) then 4 else if bs = strB (sname 5) then 5 else if bs = strB (sname 6) then 6 else 0
theorem kindOf_sname {k : Int} (h : 1 ≤ k ∧ k ≤ 6) : kindOf (strB (sname k)) = k := by
  have h' : k = 1 ∨ k = 2 ∨ k = 3 ∨ k = 4 ∨ k = 5 ∨ k = 6 := by omega
  rcases h' with rfl | rfl | rfl | rfl | rfl | rfl <;> decide
theorem kindOf_none {bs : List UInt8} (h : ∀ k : Int, 1 ≤ k → k ≤ 6 → strB (sname k) ≠ bs) : kindOf bs = 0 := by
  unfold kindOf
  rw [if_neg (fun e => h 1 (by omega) (by omega) e.symm), if_neg (fun e => h 2 (by omega) (by omega) e.symm), if_neg (fun e => h 3 (by omega) (by omega) e.symm), if_neg (fun e => h 4 (by omega) (by omega) e.symm), if_neg (fun e => h 5 (by omega) (by omega) e.symm), if_neg (fun e => h 6 (by omega) (by omega) e.symm)]
theorem kindOf_bd (bs : List UInt8) : 0 ≤ kindOf bs ∧ kindOf bs ≤ 6 := by
  unfold kindOf
  repeat (split; omega)
  omega
theorem sname_len (k : Int) : (sname k).size ≤ 5 := by
  unfold sname
  repeat (split; decide)
  decide
theorem kindOf_name {bs : List UInt8} (h : kindOf bs ≠ 0) : strB (sname (kindOf bs)) = bs := by
  unfold kindOf at h ⊢
  repeat' split
  all_goals first | (rename_i e; exact e.symm) | (exfalso; revert h; simp_all)
def setB : List UInt8 := [115, 101, 116, 32]
def showB : List UInt8 := [115, 104, 111, 119, 32]
def endB : List UInt8 := [101, 110, 100]
def startB : List UInt8 := [115, 116, 97, 114, 116, 32]
/-- does a line begin so, with more behind? -/
def begins (p bs : List UInt8) : Bool := decide (p.length < bs.length) && decide (bs.take p.length = p)
/-- what a session has done -/
structure SS where
  start : Tri
  m : Tri
  str : List Int
  bel : List Int
  ended : Bool
def lineS (s : SS) (i : Int) (bs : List UInt8) : SS × Int :=
  if s.ended then (s, 5)
  else if kindOf bs ≠ 0 then (⟨s.start, (strokeT (kindOf bs) s.m).1, s.str ++ [kindOf bs], if (strokeT (kindOf bs) s.m).2 then s.bel ++ [i] else s.bel, false⟩, 0)
  else if bs = endB then ({ s with ended := true }, 0)
  else if begins setB bs then
    (if (rdDec (bs.drop 4)).isSome && decide (0 ≤ rdN (bs.drop 4) ∧ rdN (bs.drop 4) < pw s.m.a.base s.m.a.digits.length) then ({ s with m := setT s.m (rdN (bs.drop 4)) }, 0) else (s, 3))
  else if begins showB bs then (if bs.drop 5 = strB (mtextL s.m) then (s, 0) else (s, 4))
  else (s, 2)
def goS (s : SS) (i : Int) : List (List UInt8) → SS × Int × Int
  | [] => if s.ended then (s, -1, 0) else (s, i, 5)
  | b :: t => if (lineS s i b).2 ≠ 0 then ((lineS s i b).1, i, (lineS s i b).2) else goS (lineS s i b).1 (i + 1) t
def zSS : SS := ⟨zTri, zTri, [], [], false⟩
def runS : List (List UInt8) → SS × Int × Int
  | [] => (zSS, 0, 1)
  | b :: t => if begins startB b && (rdM (b.drop 6)).isSome then goS ⟨rdMach (b.drop 6), rdMach (b.drop 6), [], [], false⟩ 1 t else (zSS, 0, 1)
structure SS.Good (s : SS) (k : Nat) : Prop where
  start : vmach s.start = true
  m : vmach s.m = true
  str : s.str.length ≤ k
  bel : s.bel.length ≤ k
theorem SS.Good.mono {s : SS} {k k' : Nat} (h : s.Good k) (hk : k ≤ k') : s.Good k' := ⟨h.start, h.m, Nat.le_trans h.str hk, Nat.le_trans h.bel hk⟩
theorem lineS_good {s : SS} {k : Nat} {i : Int} {bs : List UInt8} (h : s.Good k) : (lineS s i bs).1.Good (k + 1) := by
  unfold lineS
  split
  · exact h.mono (by omega)
  split
  · refine ⟨h.start, strokeT_ok _ h.m, by simp only [List.length_append, List.length_cons, List.length_nil]; have := h.str; omega, ?_⟩
    show (if _ then _ else _ : List Int).length ≤ _
    have := h.bel
    split
    · simp only [List.length_append, List.length_cons, List.length_nil]; omega
    · omega
  split
  · exact ⟨h.start, h.m, by have := h.str; show s.str.length ≤ _; omega, by have := h.bel; show s.bel.length ≤ _; omega⟩
  split
  · split
    · rename_i hc
      rw [Bool.and_eq_true, decide_eq_true_eq] at hc
      exact ⟨h.start, setT_ok _ h.m hc.2.1 hc.2.2, by have := h.str; show s.str.length ≤ _; omega, by have := h.bel; show s.bel.length ≤ _; omega⟩
    · exact h.mono (by omega)
  split
  · split <;> exact h.mono (by omega)
  · exact h.mono (by omega)
theorem goS_good : ∀ {l : List (List UInt8)} {s : SS} {k : Nat} {i : Int}, s.Good k → (goS s i l).1.Good (k + l.length)
  | [], s, k, i, h => by
    unfold goS
    split <;> exact h
  | b :: t, s, k, i, h => by
    unfold goS
    have h1 := lineS_good (i := i) (bs := b) h
    split
    · exact h1.mono (by simp only [List.length_cons]; omega)
    · have := goS_good (l := t) (i := i + 1) h1
      rw [List.length_cons, show k + (t.length + 1) = k + 1 + t.length by omega]
      exact this
theorem rdm_good {bs : List UInt8} (h : (rdM bs).isSome = true) : vmach (rdMach bs) = true := by
  obtain ⟨t, ht⟩ := Option.isSome_iff_exists.1 h
  rw [(rdm_some ht).1]
  exact (rdM_sound ht).1
theorem runS_good {l : List (List UInt8)} (h : (runS l).2.2 = 0) : (runS l).1.Good l.length := by
  match l, h with
  | [], h => simp [runS] at h
  | b :: t, h =>
    rcases hc : (begins startB b && (rdM (b.drop 6)).isSome) with _ | _
    · simp [runS, hc] at h
    · have hc' := hc
      rw [Bool.and_eq_true] at hc'
      have hg := rdm_good hc'.2
      have := goS_good (l := t) (s := ⟨rdMach (b.drop 6), rdMach (b.drop 6), [], [], false⟩) (k := 0) (i := 1) ⟨hg, hg, Nat.le_refl _, Nat.le_refl _⟩
      simp only [runS, hc, if_true]
      exact this.mono (by simp)
/-- what a whole session gives: its end, and a code -/
def wholeC (l : List (List UInt8)) : Int := if l.length > 100 then 5 else if (runS l).2.2 = 0 then 0 else 8
theorem wholeC_ok {l : List (List UInt8)} (h : wholeC l = 0) : l.length ≤ 100 ∧ (runS l).2.2 = 0 := by
  unfold wholeC at h
  split at h
  · cases h
  · split at h
    · exact ⟨by omega, by assumption⟩
    · cases h
end Go.Proofs.YtmmiahgmdllgdaaDoor

namespace Go.Proofs.YtmmiahgmdllgdaaDoor
open Go.RowKit Go.Sort
theorem isStrokeV (k : Int) (w : World) (h : 1 ≤ k ∧ k ≤ 6) : Calls Tryd.prog 27 #[.int .i64 k] w fun e w' => e = .returned (.bool true) ∧ w = w' := by
  have KB := Lib.hid (fun W => calls_val (between_any k 1 6 W) (congrArg Value.bool (betB_iff.2 h)))
  go_enter Tryd.func27, Tryd.ntmps27
  go_wp2_with (go_at_call 45; refine (KB.out _).mono ?_; rintro e w' ⟨rfl, rfl⟩)
  go_ret
  exact ⟨rfl, rfl⟩
theorem l10KindV (k : Int) (w : World) (h : 1 ≤ k ∧ k ≤ 6) : Calls Tryd.prog 31 #[.int .i64 k] w fun e w' => e = .returned (.bool true) ∧ w = w' := by
  have KB := Lib.hid (fun W => calls_val (l00In_any k 1 6 W) (congrArg Value.bool (betB_iff.2 h)))
  go_enter Tryd.func31, Tryd.ntmps31
  go_wp2_with (go_at_call 59; refine (KB.out _).mono ?_; rintro e w' ⟨rfl, rfl⟩)
  go_ret
  exact ⟨rfl, rfl⟩
set_option maxHeartbeats 800000 in
theorem StrokeName_any (k : Int) (w : World) (h : 1 ≤ k ∧ k ≤ 6) : Calls Tryd.prog 29 #[.int .i64 k] w fun e w' => e = .returned (.string (sname k)) ∧ Below w.heap.size w w' := by
  have h' : k = 1 ∨ k = 2 ∨ k = 3 ∨ k = 4 ∨ k = 5 ∨ k = 6 := by omega
  clear h
  rcases h' with rfl | rfl | rfl | rfl | rfl | rfl
  all_goals
    go_enter Tryd.func29, Tryd.ntmps29
    go_wp2_with (go_at_call 27; refine (isStrokeV _ _ (by decide)).mono ?_; rintro e w' ⟨rfl, rfl⟩)
    go_ret
    exact ⟨rfl, by first | exact Below.refl _ _ | exact (Below.refl _ _).alloc (Nat.le_refl _) _⟩
set_option maxHeartbeats 1600000 in
theorem strokeNamed_any (s : ByteArray) (w : World) :
    Calls Tryd.prog 22 #[.string s] w fun e w' => e = .returned (.tuple #[.int .i64 (kindOf (strB s)), .bool (decide (kindOf (strB s) ≠ 0))]) ∧ Below w.heap.size w w' := by
  go_enter Tryd.func22, Tryd.ntmps22
  go_wp2_with fail
  go_loopw [4] (fun kk wr => ∃ k : Nat, 1 ≤ k ∧ k ≤ 7 ∧ kk = .int .i64 k ∧ (∀ j : Int, 1 ≤ j → j < k → strB (sname j) ≠ strB s) ∧ Below w.heap.size w wr) (fun kk _ => 8 - (intOf kk).toNat)
  case atStart => exact ⟨1, by omega, by omega, rfl, fun j h1 h2 => by omega, Below.refl _ _⟩
  case round =>
    obtain ⟨k, k1, k7, rfl, hno, hb⟩ := hrel
    have HNO := Lib.hid hno
    clear hno
    by_cases hk : k ≤ 6
    · have hk2 : (k : Int) ≤ 6 := by omega
      have KN := Lib.hid (StrokeName_any k wr (by omega))
      obtain ⟨N, hN⟩ : ∃ N, sname k = N := ⟨_, rfl⟩
      rw [hN] at KN
      have HN := Lib.hid hN
      clear hN
      rcases hq : (N.toList == s.toList) with _ | _
      · have HQ : Hid (strB N ≠ strB s) := by simp only [Hid]; rw [strB_toList, strB_toList, beq_eq_false_iff_ne] at hq; exact hq
        go_wp2_with (go_at_call 29; refine KN.out.mono ?_; rintro e w' ⟨rfl, hw⟩)
        go_roundw
        case rel => exact ⟨k + 1, by omega, by omega, by go_num, fun j h1 h2 => by
            rcases Int.lt_or_le j k with h3 | h3
            · exact HNO.out j h1 h3
            · obtain rfl : j = k := by omega
              rw [HN.out]; exact HQ.out, hb.trans (hw.mono hb.size)⟩
        case measure => simp [intOf]; omega
      · have HQ : Hid (kindOf (strB s) = k) := by
          simp only [Hid]
          rw [strB_toList, strB_toList, beq_iff_eq] at hq
          rw [← hq, ← HN.out]
          exact kindOf_sname (by omega)
        have hk0 : Hid (decide (kindOf (strB s) ≠ 0) = true) := by simp only [Hid]; rw [HQ.out]; exact decide_eq_true (by omega)
        go_wp2_with (go_at_call 29; refine KN.out.mono ?_; rintro e w' ⟨rfl, hw⟩)
        go_ret2
        exact ⟨by rw [hk0.out, HQ.out]; rfl, hb.trans (hw.mono hb.size)⟩
    · have hk2 : ¬ (k : Int) ≤ 6 := by omega
      have HQ := Lib.hid (kindOf_none (bs := strB s) (fun j h1 h2 => HNO.out j h1 (by omega)))
      go_wp2_with fail
      go_ret2
      exact ⟨by rw [HQ.out]; rfl, hb⟩
theorem begins_iff {p bs : List UInt8} : begins p bs = true ↔ p.length < bs.length ∧ bs.take p.length = p := by
  unfold begins; simp
/-- what stands behind a beginning -/
def restB (p s : ByteArray) : ByteArray := if begins (strB p) (strB s) then s.extract p.size s.size else ⟨#[]⟩
theorem restB_yes {p s : ByteArray} (h : begins (strB p) (strB s) = true) : restB p s = s.extract p.size s.size := if_pos h
theorem restB_no {p s : ByteArray} (h : begins (strB p) (strB s) = false) : restB p s = ⟨#[]⟩ := if_neg (by rw [h]; exact Bool.false_ne_true)
end Go.Proofs.YtmmiahgmdllgdaaDoor

namespace Go.Proofs.YtmmiahgmdllgdaaDoor
open Go.RowKit Go.Sort
/-! notes and their sums -/
def noteB (b : UInt8) : Bool := decide (32 ≤ b.toNat) && decide (b.toNat ≤ 126)
def noteOk (bs : List UInt8) : Bool := bs.all noteB && decide (bs.length ≤ 60)
def nfold (y : Int) (bs : List UInt8) : Int := bs.foldl (fun s b => (31 * s + (b.toNat : Int)).tmod 65521) y
def nsum (before number : Int) (bs : List UInt8) : Int := if betB before 0 65520 && betB number 0 1000000 then nfold ((before + 7 * number).tmod 65521) bs else 0
theorem nmod_bd {a : Int} (h : 0 ≤ a) : 0 ≤ a.tmod 65521 ∧ a.tmod 65521 ≤ 65520 := by
  rw [Int.tmod_eq_emod_of_nonneg h]; omega
theorem nfold_bd {y : Int} (h0 : 0 ≤ y) (h1 : y ≤ 65520) (bs : List UInt8) : 0 ≤ nfold y bs ∧ nfold y bs ≤ 65520 := by
  unfold nfold
  induction bs generalizing y with
  | nil => exact ⟨h0, h1⟩
  | cons b bs ih =>
    rw [List.foldl_cons]
    have := nmod_bd (a := 31 * y + (b.toNat : Int)) (by omega)
    exact ih this.1 this.2
theorem nsum_bd (before number : Int) (bs : List UInt8) : 0 ≤ nsum before number bs ∧ nsum before number bs ≤ 65520 := by
  unfold nsum
  split
  · rename_i h
    rw [Bool.and_eq_true] at h
    have b1 := betB_iff.1 h.1
    have b2 := betB_iff.1 h.2
    have := nmod_bd (a := before + 7 * number) (by omega)
    exact nfold_bd this.1 this.2 bs
  · omega
set_option maxHeartbeats 800000 in
theorem isNote_any (s : ByteArray) (w : World) (hs : s.size ≤ 9223372036854775807) :
    Calls Tryd.prog 56 #[.string s] w fun e w' => e = .returned (.bool (noteOk (strB s))) ∧ w = w' := by
  have HN := Lib.hid (show noteOk (strB s) = ((strB s).all noteB && decide (s.size ≤ 60)) by unfold noteOk; rw [strB_len])
  obtain ⟨R, hR⟩ : ∃ R, noteOk (strB s) = R := ⟨_, rfl⟩
  rw [hR] at HN ⊢
  clear hR
  have HXL := Lib.hid (strB_len s)
  go_enter Tryd.func56, Tryd.ntmps56
  go_wp2_with fail
  go_loopw [6, 3] (fun ii _ wr => ∃ k : Nat, k ≤ s.size ∧ ii = .int .i64 k ∧ ((strB s).take k).all noteB = true ∧ w = wr) (fun ii _ _ => s.size - (intOf ii).toNat)
  case atStart => exact ⟨0, Nat.zero_le _, rfl, rfl, rfl⟩
  case round =>
    obtain ⟨k, hk, rfl, hall, rfl⟩ := hrel
    have HA := Lib.hid hall
    clear hall
    by_cases hkn : k < s.size
    · obtain ⟨q, hq⟩ : ∃ q : UInt8, s[k] = q := ⟨_, rfl⟩
      obtain ⟨z, hz⟩ : ∃ z : Nat, q.toNat = z := ⟨_, rfl⟩
      have hkl : k < (strB s).length := by rw [HXL.out]; exact hkn
      have hg : (strB s)[k] = q := by rw [← hq, strB_get s hkn]
      have HT := Lib.hid (show ((strB s).take (k + 1)).all noteB = (((strB s).take k).all noteB && noteB q) by
        rw [List.take_succ_eq_append_getElem hkl, List.all_append, hg]; simp)
      have HNOT := Lib.hid (fun (h : noteB q = false) => show (strB s).all noteB = false by
        simp only [List.all_eq_false]; exact ⟨q, by rw [← hg]; exact List.getElem_mem hkl, by simp [h]⟩)
      have HB := Lib.hid (show noteB q = (decide (32 ≤ z) && decide (z ≤ 126)) by unfold noteB; rw [hz])
      have i0 : (0 : Int) ≤ (k : Int) := by omega
      have i1 : (k : Int) < (s.size : Int) := by omega
      clear hg hkl
      by_cases h1 : 32 ≤ z
      · by_cases h2 : z ≤ 126
        · have j1 : ¬ (z : Int) < 32 := by omega
          have j2 : ¬ (126 : Int) < (z : Int) := by omega
          have HY := Lib.hid (show noteB q = true by rw [HB.out, decide_eq_true h1, decide_eq_true h2]; rfl)
          go_wp2_with fail
          go_roundw
          case rel => exact ⟨k + 1, by omega, by go_num, by rw [HT.out, HA.out, HY.out]; rfl, by first | rfl | trivial⟩
          case measure => simp [intOf]; omega
        · have j1 : ¬ (z : Int) < 32 := by omega
          have j2 : (126 : Int) < (z : Int) := by omega
          have HQ : Hid (R = false) := by simp only [Hid]; rw [HN.out, HNOT.out (by rw [HB.out, decide_eq_false h2]; simp)]; rfl
          go_wp2_with fail
          go_ret
          exact ⟨ret_bool HQ.out.symm, rfl⟩
      · have j1 : (z : Int) < 32 := by omega
        have HQ : Hid (R = false) := by simp only [Hid]; rw [HN.out, HNOT.out (by rw [HB.out, decide_eq_false h1]; simp)]; rfl
        go_wp2_with fail
        go_ret
        exact ⟨ret_bool HQ.out.symm, rfl⟩
    · have HK : Hid ((strB s).take k = strB s) := List.take_of_length_le (by have := HXL.out; omega)
      have i1 : ¬ (k : Int) < (s.size : Int) := by omega
      have HQ : Hid (R = decide (s.size ≤ 60)) := by
        simp only [Hid]
        have := HA.out
        rw [HK.out] at this
        rw [HN.out, this]; rfl
      by_cases h6 : s.size ≤ 60
      · have j1 : (s.size : Int) ≤ 60 := by omega
        have HQ2 : Hid (R = true) := by simp only [Hid]; rw [HQ.out, decide_eq_true h6]
        go_wp2_with fail
        go_ret
        exact ⟨ret_bool HQ2.out.symm, rfl⟩
      · have j1 : ¬ (s.size : Int) ≤ 60 := by omega
        have HQ2 : Hid (R = false) := by simp only [Hid]; rw [HQ.out, decide_eq_false h6]
        go_wp2_with fail
        go_ret
        exact ⟨ret_bool HQ2.out.symm, rfl⟩
set_option maxHeartbeats 800000 in
theorem l26Note_any (s : ByteArray) (w : World) (hs : s.size ≤ 9223372036854775807) :
    Calls Tryd.prog 16 #[.string s] w fun e w' => e = .returned (.bool (noteOk (strB s))) ∧ w = w' := by
  have HN := Lib.hid (show noteOk (strB s) = ((strB s).all noteB && decide (s.size ≤ 60)) by unfold noteOk; rw [strB_len])
  obtain ⟨R, hR⟩ : ∃ R, noteOk (strB s) = R := ⟨_, rfl⟩
  rw [hR] at HN ⊢
  clear hR
  have HXL := Lib.hid (strB_len s)
  go_enter Tryd.func16, Tryd.ntmps16
  go_wp2_with fail
  go_loopw [3] (fun ii wr => ∃ k : Nat, k ≤ s.size ∧ ii = .int .i64 k ∧ ((strB s).take k).all noteB = true ∧ w = wr) (fun ii  _ => s.size - (intOf ii).toNat)
  case atStart => exact ⟨0, Nat.zero_le _, rfl, rfl, rfl⟩
  case round =>
    obtain ⟨k, hk, rfl, hall, rfl⟩ := hrel
    have HA := Lib.hid hall
    clear hall
    by_cases hkn : k < s.size
    · obtain ⟨q, hq⟩ : ∃ q : UInt8, s[k] = q := ⟨_, rfl⟩
      obtain ⟨z, hz⟩ : ∃ z : Nat, q.toNat = z := ⟨_, rfl⟩
      have hkl : k < (strB s).length := by rw [HXL.out]; exact hkn
      have hg : (strB s)[k] = q := by rw [← hq, strB_get s hkn]
      have HT := Lib.hid (show ((strB s).take (k + 1)).all noteB = (((strB s).take k).all noteB && noteB q) by
        rw [List.take_succ_eq_append_getElem hkl, List.all_append, hg]; simp)
      have HNOT := Lib.hid (fun (h : noteB q = false) => show (strB s).all noteB = false by
        simp only [List.all_eq_false]; exact ⟨q, by rw [← hg]; exact List.getElem_mem hkl, by simp [h]⟩)
      have HB := Lib.hid (show noteB q = (decide (32 ≤ z) && decide (z ≤ 126)) by unfold noteB; rw [hz])
      have i0 : (0 : Int) ≤ (k : Int) := by omega
      have i1 : (k : Int) < (s.size : Int) := by omega
      clear hg hkl
      by_cases h1 : 32 ≤ z
      · by_cases h2 : z ≤ 126
        · have j1 : ¬ (z : Int) < 32 := by omega
          have j2 : ¬ (126 : Int) < (z : Int) := by omega
          have HY := Lib.hid (show noteB q = true by rw [HB.out, decide_eq_true h1, decide_eq_true h2]; rfl)
          go_wp2_with fail
          go_roundw
          case rel => exact ⟨k + 1, by omega, by go_num, by rw [HT.out, HA.out, HY.out]; rfl, by first | rfl | trivial⟩
          case measure => simp [intOf]; omega
        · have j1 : ¬ (z : Int) < 32 := by omega
          have j2 : (126 : Int) < (z : Int) := by omega
          have HQ : Hid (R = false) := by simp only [Hid]; rw [HN.out, HNOT.out (by rw [HB.out, decide_eq_false h2]; simp)]; rfl
          go_wp2_with fail
          go_ret
          exact ⟨ret_bool HQ.out.symm, rfl⟩
      · have j1 : (z : Int) < 32 := by omega
        have HQ : Hid (R = false) := by simp only [Hid]; rw [HN.out, HNOT.out (by rw [HB.out, decide_eq_false h1]; simp)]; rfl
        go_wp2_with fail
        go_ret
        exact ⟨ret_bool HQ.out.symm, rfl⟩
    · have HK : Hid ((strB s).take k = strB s) := List.take_of_length_le (by have := HXL.out; omega)
      have i1 : ¬ (k : Int) < (s.size : Int) := by omega
      have HQ : Hid (R = decide (s.size ≤ 60)) := by
        simp only [Hid]
        have := HA.out
        rw [HK.out] at this
        rw [HN.out, this]; rfl
      by_cases h6 : s.size ≤ 60
      · have j1 : (s.size : Int) ≤ 60 := by omega
        have HQ2 : Hid (R = true) := by simp only [Hid]; rw [HQ.out, decide_eq_true h6]
        go_wp2_with fail
        go_ret
        exact ⟨ret_bool HQ2.out.symm, rfl⟩
      · have j1 : ¬ (s.size : Int) ≤ 60 := by omega
        have HQ2 : Hid (R = false) := by simp only [Hid]; rw [HQ.out, decide_eq_false h6]
        go_wp2_with fail
        go_ret
        exact ⟨ret_bool HQ2.out.symm, rfl⟩
set_option maxHeartbeats 1600000 in
theorem NoteSum_any (before number : Int) (s : ByteArray) (w : World) (hs : s.size ≤ 9223372036854775807) :
    Calls Tryd.prog 74 #[.int .i64 before, .int .i64 number, .string s] w fun e w' => e = .returned (.int .i64 (nsum before number (strB s))) ∧ w = w' := by
  have K1 := (fun W => between_any before 0 65520 W)
  have K2 := (fun W => between_any number 0 1000000 W)
  have HS := Lib.hid (show nsum before number (strB s) = if betB before 0 65520 && betB number 0 1000000 then nfold ((before + 7 * number).tmod 65521) (strB s) else 0 from rfl)
  obtain ⟨R, hR⟩ : ∃ R, nsum before number (strB s) = R := ⟨_, rfl⟩
  rw [hR] at HS ⊢
  clear hR
  rcases h1 : betB before 0 65520 with _ | _
  · have HQ : Hid (R = 0) := by simp only [Hid]; rw [HS.out, h1]; rfl
    rw [h1] at K1
    replace K1 := Lib.hid K1
    clear K2 h1
    go_enter Tryd.func74, Tryd.ntmps74
    go_wp2_with (go_at_call 45; refine (K1.out _).mono ?_; rintro e w' ⟨rfl, rfl⟩)
    go_ret
    exact ⟨ret_int HQ.out.symm, rfl⟩
  rcases h2 : betB number 0 1000000 with _ | _
  · have HQ : Hid (R = 0) := by simp only [Hid]; rw [HS.out, h2]; simp
    rw [h1] at K1
    rw [h2] at K2
    replace K1 := Lib.hid K1
    replace K2 := Lib.hid K2
    clear h1 h2
    go_enter Tryd.func74, Tryd.ntmps74
    go_wp2_with (go_at_call 45; first | ((with_reducible refine (K1.out _).mono ?_); rintro e w' ⟨rfl, rfl⟩) | ((with_reducible refine (K2.out _).mono ?_); rintro e w' ⟨rfl, rfl⟩))
    go_ret
    exact ⟨ret_int HQ.out.symm, rfl⟩
  have HQ : Hid (R = nfold ((before + 7 * number).tmod 65521) (strB s)) := by simp only [Hid]; rw [HS.out, h1, h2]; rfl
  rw [h1] at K1
  rw [h2] at K2
  replace K1 := Lib.hid K1
  replace K2 := Lib.hid K2
  have b1 := betB_iff.1 h1
  have b2 := betB_iff.1 h2
  have w1 : IntKind.i64.wrap (7 * number) = 7 * number := wrapI64 (by omega)
  have w2 : IntKind.i64.wrap (before + 7 * number) = before + 7 * number := wrapI64 (by omega)
  have hm := nmod_bd (a := before + 7 * number) (by omega)
  obtain ⟨y0, hy0⟩ : ∃ y, (before + 7 * number).tmod 65521 = y := ⟨_, rfl⟩
  have w3 : IntKind.i64.wrap ((before + 7 * number).tmod 65521) = y0 := by rw [hy0]; exact wrapI64 (by rw [hy0] at hm; omega)
  rw [hy0] at hm
  have HY0 := Lib.hid hy0
  have HXL := Lib.hid (strB_len s)
  clear h1 h2
  go_enter Tryd.func74, Tryd.ntmps74
  go_wp2_with (go_at_call 45; first | ((with_reducible refine (K1.out _).mono ?_); rintro e w' ⟨rfl, rfl⟩) | ((with_reducible refine (K2.out _).mono ?_); rintro e w' ⟨rfl, rfl⟩))
  clear hy0 w1 w2 w3
  go_loopw [24, 7, 8] (fun ii vv _ wr => ∃ k : Nat, k ≤ s.size ∧ ii = .int .i64 k ∧ vv = .int .i64 (nfold y0 ((strB s).take k)) ∧ w = wr) (fun ii _ _ _ => s.size - (intOf ii).toNat)
  case atStart => exact ⟨0, Nat.zero_le _, rfl, rfl, rfl⟩
  case round =>
    obtain ⟨k, hk, rfl, rfl, rfl⟩ := hrel
    have hfb := nfold_bd (y := y0) hm.1 hm.2 ((strB s).take k)
    by_cases hkn : k < s.size
    · obtain ⟨q, hq⟩ : ∃ q : UInt8, s[k] = q := ⟨_, rfl⟩
      obtain ⟨z, hz⟩ : ∃ z : Nat, q.toNat = z := ⟨_, rfl⟩
      have hz2 : z < 256 := by rw [← hz]; exact q.toNat_lt
      have hkl : k < (strB s).length := by rw [HXL.out]; exact hkn
      have hg : (strB s)[k] = q := by rw [← hq, strB_get s hkn]
      have hst : nfold y0 ((strB s).take (k + 1)) = (31 * nfold y0 ((strB s).take k) + (z : Int)).tmod 65521 := by
        rw [List.take_succ_eq_append_getElem hkl, hg]
        unfold nfold
        rw [List.foldl_append]
        simp [hz]
      obtain ⟨v, hv⟩ : ∃ v, nfold y0 ((strB s).take k) = v := ⟨_, rfl⟩
      rw [hv] at hfb hst ⊢
      have hm2 := nmod_bd (a := 31 * v + (z : Int)) (by omega)
      obtain ⟨y, hy⟩ : ∃ y, (31 * v + (z : Int)).tmod 65521 = y := ⟨_, rfl⟩
      rw [hy] at hm2 hst
      have HST := Lib.hid hst
      have u1 : IntKind.i64.wrap (31 * v) = 31 * v := wrapI64 (by omega)
      have u2 : IntKind.i64.wrap (31 * v + (z : Int)) = 31 * v + z := wrapI64 (by omega)
      have u3 : IntKind.i64.wrap ((31 * v + (z : Int)).tmod 65521) = y := by rw [hy]; exact wrapI64 (by omega)
      have u4 : IntKind.i64.wrap (z : Int) = z := wrapI64 (by omega)
      have u5 : IntKind.i64.wrap y = y := wrapI64 (by omega)
      have i0 : (0 : Int) ≤ (k : Int) := by omega
      have i1 : (k : Int) < (s.size : Int) := by omega
      clear hg hkl hst hv
      go_wp2_with fail
      go_roundw
      case rel => exact ⟨k + 1, by omega, by go_num, by rw [HST.out], by first | rfl | trivial⟩
      case measure => simp [intOf]; omega
    · have HK : Hid ((strB s).take k = strB s) := List.take_of_length_le (by have := HXL.out; omega)
      have i1 : ¬ (k : Int) < (s.size : Int) := by omega
      rw [HK.out] at hfb ⊢
      have HF := Lib.hid (show R = nfold y0 (strB s) by rw [HQ.out, HY0.out])
      obtain ⟨v, hv⟩ : ∃ v, nfold y0 (strB s) = v := ⟨_, rfl⟩
      rw [hv] at HF hfb ⊢
      clear hv
      go_wp2_with fail
      go_ret
      exact ⟨ret_int HF.out.symm, rfl⟩
set_option maxHeartbeats 1600000 in
theorem specNoteSum_any (before number : Int) (s : ByteArray) (w : World) (hs : s.size ≤ 9223372036854775807) :
    Calls Tryd.prog 67 #[.int .i64 before, .int .i64 number, .string s] w fun e w' => e = .returned (.int .i64 (nsum before number (strB s))) ∧ w = w' := by
  have K1 := (fun W => l00In_any before 0 65520 W)
  have K2 := (fun W => l00In_any number 0 1000000 W)
  have HS := Lib.hid (show nsum before number (strB s) = if betB before 0 65520 && betB number 0 1000000 then nfold ((before + 7 * number).tmod 65521) (strB s) else 0 from rfl)
  obtain ⟨R, hR⟩ : ∃ R, nsum before number (strB s) = R := ⟨_, rfl⟩
  rw [hR] at HS ⊢
  clear hR
  rcases h1 : betB before 0 65520 with _ | _
  · have HQ : Hid (R = 0) := by simp only [Hid]; rw [HS.out, h1]; rfl
    rw [h1] at K1
    replace K1 := Lib.hid K1
    clear K2 h1
    go_enter Tryd.func67, Tryd.ntmps67
    go_wp2_with (go_at_call 59; refine (K1.out _).mono ?_; rintro e w' ⟨rfl, rfl⟩)
    go_ret
    exact ⟨ret_int HQ.out.symm, rfl⟩
  rcases h2 : betB number 0 1000000 with _ | _
  · have HQ : Hid (R = 0) := by simp only [Hid]; rw [HS.out, h2]; simp
    rw [h1] at K1
    rw [h2] at K2
    replace K1 := Lib.hid K1
    replace K2 := Lib.hid K2
    clear h1 h2
    go_enter Tryd.func67, Tryd.ntmps67
    go_wp2_with (go_at_call 59; first | ((with_reducible refine (K1.out _).mono ?_); rintro e w' ⟨rfl, rfl⟩) | ((with_reducible refine (K2.out _).mono ?_); rintro e w' ⟨rfl, rfl⟩))
    go_ret
    exact ⟨ret_int HQ.out.symm, rfl⟩
  have HQ : Hid (R = nfold ((before + 7 * number).tmod 65521) (strB s)) := by simp only [Hid]; rw [HS.out, h1, h2]; rfl
  rw [h1] at K1
  rw [h2] at K2
  replace K1 := Lib.hid K1
  replace K2 := Lib.hid K2
  have b1 := betB_iff.1 h1
  have b2 := betB_iff.1 h2
  have w1 : IntKind.i64.wrap (7 * number) = 7 * number := wrapI64 (by omega)
  have w2 : IntKind.i64.wrap (before + 7 * number) = before + 7 * number := wrapI64 (by omega)
  have hm := nmod_bd (a := before + 7 * number) (by omega)
  obtain ⟨y0, hy0⟩ : ∃ y, (before + 7 * number).tmod 65521 = y := ⟨_, rfl⟩
  have w3 : IntKind.i64.wrap ((before + 7 * number).tmod 65521) = y0 := by rw [hy0]; exact wrapI64 (by rw [hy0] at hm; omega)
  rw [hy0] at hm
  have HY0 := Lib.hid hy0
  have HXL := Lib.hid (strB_len s)
  clear h1 h2
  go_enter Tryd.func67, Tryd.ntmps67
  go_wp2_with (go_at_call 59; first | ((with_reducible refine (K1.out _).mono ?_); rintro e w' ⟨rfl, rfl⟩) | ((with_reducible refine (K2.out _).mono ?_); rintro e w' ⟨rfl, rfl⟩))
  clear hy0 w1 w2 w3
  go_loopw [8, 7] (fun ii vv wr => ∃ k : Nat, k ≤ s.size ∧ ii = .int .i64 k ∧ vv = .int .i64 (nfold y0 ((strB s).take k)) ∧ w = wr) (fun ii _  _ => s.size - (intOf ii).toNat)
  case atStart => exact ⟨0, Nat.zero_le _, rfl, rfl, rfl⟩
  case round =>
    obtain ⟨k, hk, rfl, rfl, rfl⟩ := hrel
    have hfb := nfold_bd (y := y0) hm.1 hm.2 ((strB s).take k)
    by_cases hkn : k < s.size
    · obtain ⟨q, hq⟩ : ∃ q : UInt8, s[k] = q := ⟨_, rfl⟩
      obtain ⟨z, hz⟩ : ∃ z : Nat, q.toNat = z := ⟨_, rfl⟩
      have hz2 : z < 256 := by rw [← hz]; exact q.toNat_lt
      have hkl : k < (strB s).length := by rw [HXL.out]; exact hkn
      have hg : (strB s)[k] = q := by rw [← hq, strB_get s hkn]
      have hst : nfold y0 ((strB s).take (k + 1)) = (31 * nfold y0 ((strB s).take k) + (z : Int)).tmod 65521 := by
        rw [List.take_succ_eq_append_getElem hkl, hg]
        unfold nfold
        rw [List.foldl_append]
        simp [hz]
      obtain ⟨v, hv⟩ : ∃ v, nfold y0 ((strB s).take k) = v := ⟨_, rfl⟩
      rw [hv] at hfb hst ⊢
      have hm2 := nmod_bd (a := 31 * v + (z : Int)) (by omega)
      obtain ⟨y, hy⟩ : ∃ y, (31 * v + (z : Int)).tmod 65521 = y := ⟨_, rfl⟩
      rw [hy] at hm2 hst
      have HST := Lib.hid hst
      have u1 : IntKind.i64.wrap (31 * v) = 31 * v := wrapI64 (by omega)
      have u2 : IntKind.i64.wrap (31 * v + (z : Int)) = 31 * v + z := wrapI64 (by omega)
      have u3 : IntKind.i64.wrap ((31 * v + (z : Int)).tmod 65521) = y := by rw [hy]; exact wrapI64 (by omega)
      have u4 : IntKind.i64.wrap (z : Int) = z := wrapI64 (by omega)
      have u5 : IntKind.i64.wrap y = y := wrapI64 (by omega)
      have i0 : (0 : Int) ≤ (k : Int) := by omega
      have i1 : (k : Int) < (s.size : Int) := by omega
      clear hg hkl hst hv
      go_wp2_with fail
      go_roundw
      case rel => exact ⟨k + 1, by omega, by go_num, by rw [HST.out], by first | rfl | trivial⟩
      case measure => simp [intOf]; omega
    · have HK : Hid ((strB s).take k = strB s) := List.take_of_length_le (by have := HXL.out; omega)
      have i1 : ¬ (k : Int) < (s.size : Int) := by omega
      rw [HK.out] at hfb ⊢
      have HF := Lib.hid (show R = nfold y0 (strB s) by rw [HQ.out, HY0.out])
      obtain ⟨v, hv⟩ : ∃ v, nfold y0 (strB s) = v := ⟨_, rfl⟩
      rw [hv] at HF hfb ⊢
      clear hv
      go_wp2_with fail
      go_ret
      exact ⟨ret_int HF.out.symm, rfl⟩
end Go.Proofs.YtmmiahgmdllgdaaDoor

namespace Go.Proofs.YtmmiahgmdllgdaaDoor
open Go.RowKit Go.Sort
/-! journals, plainly -/
/-- a line of a journal -/
def jline (sum : Int) (n : Nat) (note : List UInt8) : List UInt8 := dec ((n : Int) + 1) ++ [32] ++ dec (nsum sum ((n : Int) + 1) note) ++ [32] ++ note ++ [10]
def jlineB (sum : Int) (n : Nat) (note : ByteArray) : ByteArray := (((((⟨(dec ((n : Int) + 1)).toArray⟩ : ByteArray) ++ (⟨#[32]⟩ : ByteArray)) ++ (⟨(dec (nsum sum ((n : Int) + 1) (strB note))).toArray⟩ : ByteArray)) ++ (⟨#[32]⟩ : ByteArray)) ++ note) ++ (⟨#[10]⟩ : ByteArray)
theorem strB_jlineB (sum : Int) (n : Nat) (note : ByteArray) : strB (jlineB sum n note) = jline sum n (strB note) := by
  simp [jlineB, jline, strB]
theorem jlineB_size (sum : Int) (n : Nat) (note : ByteArray) : (jlineB sum n note).size = (jline sum n (strB note)).length := by
  rw [← strB_jlineB, strB_len]
theorem jline_len (sum : Int) (n : Nat) (hn : n ≤ 1000000) (note : List UInt8) : note.length + 3 ≤ (jline sum n note).length ∧ (jline sum n note).length ≤ note.length + 45 := by
  have h1 := dec_len ((n : Int) + 1) (by omega) (by omega)
  have h2 := nsum_bd sum ((n : Int) + 1) note
  have h3 := dec_len (nsum sum ((n : Int) + 1) note) (by omega) (by omega)
  simp only [jline, List.length_append, List.length_cons, List.length_nil]
  omega
/-- the note of the next line of what is left of a journal -/
def jstep (sum : Int) (n : Nat) (rest : List UInt8) : Option (List UInt8) :=
  (cutB [10] rest).bind fun q => (cutB [32] q.1).bind fun r => (cutB [32] r.2).bind fun t => if noteOk t.2 && (jline sum n t.2 == q.1 ++ [10]) then some t.2 else none
theorem cutB_len (p : List UInt8) : ∀ (l : List UInt8) (q), cutB p l = some q → q.1.length + p.length + q.2.length = l.length
  | [], q, h => by simp [cutB] at h
  | b :: tl, q, h => by
    simp only [cutB] at h
    split at h
    · rename_i hp
      obtain rfl := (Option.some.inj h).symm
      have := (List.isPrefixOf_iff_prefix.1 hp).length_le
      simp at this ⊢; omega
    · cases h1 : cutB p tl with
      | none => rw [h1] at h; simp at h
      | some r =>
        rw [h1] at h
        obtain rfl := (Option.some.inj h).symm
        have := cutB_len p tl r h1
        simp; omega
theorem jstep_some {sum : Int} {n : Nat} {rest note : List UInt8} (h : jstep sum n rest = some note) : noteOk note = true ∧ 3 + note.length ≤ (jline sum n note).length ∧ (jline sum n note).length ≤ rest.length := by
  unfold jstep at h
  cases h1 : cutB [10] rest with
  | none => rw [h1] at h; simp at h
  | some q =>
    rw [h1, Option.bind_some] at h
    cases h2 : cutB [32] q.1 with
    | none => rw [h2] at h; simp at h
    | some r =>
      rw [h2, Option.bind_some] at h
      cases h3 : cutB [32] r.2 with
      | none => rw [h3] at h; simp at h
      | some t =>
        rw [h3, Option.bind_some] at h
        split at h
        · rename_i h4
          obtain rfl := Option.some.inj h
          rw [Bool.and_eq_true, beq_iff_eq] at h4
          have l1 := cutB_len _ _ _ h1
          have l5 := congrArg List.length h4.2
          refine ⟨h4.1, ?_, ?_⟩
          · simp only [jline, List.length_append, List.length_cons, List.length_nil]; omega
          · rw [l5]; simp at l1 ⊢; omega
        · simp at h
/-- what is read of a journal: the notes, the last sum, the bytes -/
structure JS where
  notes : List (List UInt8)
  sum : Int
  size : Nat
def jread (rest : List UInt8) (j : JS) : JS :=
  match _h : jstep j.sum j.notes.length rest with
  | none => j
  | some note => jread (rest.drop (jline j.sum j.notes.length note).length) ⟨j.notes ++ [note], nsum j.sum ((j.notes.length : Int) + 1) note, j.size + (jline j.sum j.notes.length note).length⟩
termination_by rest.length
decreasing_by
  have := jstep_some _h
  rw [List.length_drop]; omega
theorem jread_none {rest : List UInt8} {j : JS} (h : jstep j.sum j.notes.length rest = none) : jread rest j = j := by
  rw [jread]; split
  · rfl
  · rename_i h1; rw [h] at h1; cases h1
theorem jread_some {rest : List UInt8} {j : JS} {note : List UInt8} (h : jstep j.sum j.notes.length rest = some note) :
    jread rest j = jread (rest.drop (jline j.sum j.notes.length note).length) ⟨j.notes ++ [note], nsum j.sum ((j.notes.length : Int) + 1) note, j.size + (jline j.sum j.notes.length note).length⟩ := by
  rw [jread]; split
  · rename_i h1; rw [h] at h1; cases h1
  · rename_i n1 h1; rw [h] at h1; obtain rfl := Option.some.inj h1; rfl
/-- the whole reading -/
def jall (bs : List UInt8) : JS := jread bs ⟨[], 0, 0⟩
/-- the code of a text that must be a journal -/
def jcode (bs : List UInt8) : Int := if bs.length > 4000 then 5 else if (jall bs).size = bs.length then 0 else 8
/-- behind the first blanks: how many, and what is left -/
def aft : Nat → List UInt8 → Nat × List UInt8
  | b, [] => (b, [])
  | b, x :: tl => if 2 ≤ b then (b, x :: tl) else aft (if x.toNat = 32 then b + 1 else b) tl
theorem aft_two (l : List UInt8) : aft 2 l = (2, l) := by cases l <;> simp [aft]
theorem aft_step (b : Nat) (hb : b < 2) (l : List UInt8) : aft b l = match cutB [32] l with | none => (b, []) | some q => aft (b + 1) q.2 := by
  induction l with
  | nil => rfl
  | cons x tl ih =>
    rw [aft, if_neg (by omega)]
    simp only [cutB]
    by_cases hx : x.toNat = 32
    · rw [if_pos hx]
      have h1 : ([32] : List UInt8).isPrefixOf (x :: tl) = true := by
        have : x = 32 := UInt8.toNat_inj.1 hx
        subst this; simp [List.isPrefixOf]
      rw [h1]; rfl
    · rw [if_neg hx, ih]
      have h1 : ([32] : List UInt8).isPrefixOf (x :: tl) = false := by
        have : ¬ (32 : UInt8) = x := fun h => hx (by rw [← h]; rfl)
        simp [List.isPrefixOf, this]
      rw [h1]
      cases cutB [32] tl <;> rfl
theorem aft_cut (l : List UInt8) : aft 0 l = match cutB [32] l with | none => (0, []) | some q => match cutB [32] q.2 with | none => (1, []) | some t => (2, t.2) := by
  rw [aft_step 0 (by omega)]
  cases cutB [32] l with
  | none => rfl
  | some q =>
    show aft 1 q.2 = _
    rw [aft_step 1 (by omega)]
    dsimp only
    cases cutB [32] q.2 with
    | none => simp
    | some t => simp [aft_two]
/-! the next line, both -/
set_option maxRecDepth 100000 in
set_option maxHeartbeats 800000 in
theorem next_any (note : ByteArray) (sum : Int) (n : Nat) (g : Nat) (A : Option Addr) (c : Nat) (w : World) (hc0 : w.cell? ⟨g, 0, none⟩ = some (.slice A n c)) (hc1 : w.cell? ⟨g, 1, none⟩ = some (.int .i64 sum)) (hn : n ≤ 1000000) (hs : note.size ≤ 1048576) (ht : TB w) :
    Calls Tryd.prog 54 #[.pointer (some ⟨g, 0, none⟩), .string note] w fun e w' => e = .returned (.tuple #[.string (jlineB sum n note), .int .i64 (nsum sum ((n : Int) + 1) (strB note))]) ∧ Below w.heap.size w w' := by
  have hb := nsum_bd sum ((n : Int) + 1) (strB note)
  have l1 := dec_len ((n : Int) + 1) (by omega) (by omega)
  have l2 := dec_len (nsum sum ((n : Int) + 1) (strB note)) (by omega) (by omega)
  have KN := Lib.hid (fun W => NoteSum_any sum ((n : Int) + 1) note W (by omega))
  have K1 := Lib.hid (fun (W : World) (hW : Below w.heap.size w W) => Decimal_any ((n : Int) + 1) W (by omega) (by omega) (ht.below hW))
  have K2 := Lib.hid (fun (W : World) (hW : Below w.heap.size w W) => Decimal_any (nsum sum ((n : Int) + 1) (strB note)) W (by omega) (by omega) (ht.below hW))
  obtain ⟨S, hS⟩ : ∃ S, nsum sum ((n : Int) + 1) (strB note) = S := ⟨_, rfl⟩
  have HJ := Lib.hid (show jlineB sum n note = (((((⟨(dec ((n : Int) + 1)).toArray⟩ : ByteArray) ++ (⟨#[32]⟩ : ByteArray)) ++ (⟨(dec S).toArray⟩ : ByteArray)) ++ (⟨#[32]⟩ : ByteArray)) ++ note) ++ (⟨#[10]⟩ : ByteArray) by rw [← hS]; rfl)
  rw [hS] at hb l2 KN K2 ⊢
  clear hS
  go_enter Tryd.func54, Tryd.ntmps54
  go_wp2_with (go_at_call 74; refine (KN.out _).mono ?_; rintro e w' ⟨rfl, rfl⟩)
  all_goals first | done | skip
  go_wp2_with (go_at_call 75; first | (refine (K1.out _ (Below.refl _ _)).mono ?_; rintro e w1 ⟨rfl, hw1⟩) | (refine (K2.out _ hw1).mono ?_; rintro e w2 ⟨rfl, hw2⟩))
  rw [← HJ.out]
  refine bodyPost_ret (v := .tuple #[.string (jlineB sum n note), .int .i64 S]) (by simp [results, Tryd.results54, go_sem]) rfl ⟨rfl, hw1.trans (hw2.mono hw1.size)⟩
/-- the line of the reference, and its head -/
theorem l26Head_any (num sum : Int) (w : World) (h0 : 0 ≤ num) (h1 : num ≤ 1000001) (h2 : 0 ≤ sum) (h3 : sum ≤ 65520) :
    Calls Tryd.prog 68 #[.int .i64 num, .int .i64 sum] w fun e w' => e = .returned (.string ((((⟨(dec num).toArray⟩ : ByteArray) ++ (⟨#[32]⟩ : ByteArray)) ++ (⟨(dec sum).toArray⟩ : ByteArray)) ++ (⟨#[32]⟩ : ByteArray))) ∧ Below w.heap.size w w' := by
  have l1 := dec_len num (by omega) (by omega)
  have l2 := dec_len sum (by omega) (by omega)
  have K1 := Lib.hid (fun (W : World) => l01Dec_any num W (by omega) (by omega))
  have K2 := Lib.hid (fun (W : World) => l01Dec_any sum W (by omega) (by omega))
  go_enter Tryd.func68, Tryd.ntmps68
  go_wp2_with (go_at_call 83; first | (with_reducible refine (K1.out _).mono ?_; rintro e w1 ⟨rfl, hw1⟩) | (with_reducible refine (K2.out _).mono ?_; rintro e w2 ⟨rfl, hw2⟩))
  go_ret
  exact ⟨rfl, hw1.trans (hw2.mono hw1.size)⟩
set_option maxRecDepth 100000 in
set_option maxHeartbeats 800000 in
theorem l26Line_any (note : ByteArray) (sum : Int) (n : Nat) (w : World) (hn : n ≤ 1000000) (hs : note.size ≤ 1048576) :
    Calls Tryd.prog 40 #[.int .i64 sum, .int .i64 ((n : Int) + 1), .string note] w fun e w' => e = .returned (.tuple #[.string (jlineB sum n note), .int .i64 (nsum sum ((n : Int) + 1) (strB note))]) ∧ Below w.heap.size w w' := by
  have hb := nsum_bd sum ((n : Int) + 1) (strB note)
  have l1 := dec_len ((n : Int) + 1) (by omega) (by omega)
  have l2 := dec_len (nsum sum ((n : Int) + 1) (strB note)) (by omega) (by omega)
  have KN := Lib.hid (fun W => specNoteSum_any sum ((n : Int) + 1) note W (by omega))
  have K1 := Lib.hid (fun (W : World) => l26Head_any ((n : Int) + 1) (nsum sum ((n : Int) + 1) (strB note)) W (by omega) (by omega) hb.1 hb.2)
  obtain ⟨S, hS⟩ : ∃ S, nsum sum ((n : Int) + 1) (strB note) = S := ⟨_, rfl⟩
  have HJ := Lib.hid (show jlineB sum n note = (((((⟨(dec ((n : Int) + 1)).toArray⟩ : ByteArray) ++ (⟨#[32]⟩ : ByteArray)) ++ (⟨(dec S).toArray⟩ : ByteArray)) ++ (⟨#[32]⟩ : ByteArray)) ++ note) ++ (⟨#[10]⟩ : ByteArray) by rw [← hS]; rfl)
  rw [hS] at hb l2 KN K1 ⊢
  clear hS
  go_enter Tryd.func40, Tryd.ntmps40
  go_wp2_with (go_at_call 67; refine (KN.out _).mono ?_; rintro e w' ⟨rfl, rfl⟩)
  go_wp2_with (go_at_call 68; refine (K1.out _).mono ?_; rintro e w1 ⟨rfl, hw1⟩)
  rw [← HJ.out]
  refine bodyPost_ret (v := .tuple #[.string (jlineB sum n note), .int .i64 S]) (by simp [results, Tryd.results40, go_sem]) rfl ⟨rfl, hw1⟩
end Go.Proofs.YtmmiahgmdllgdaaDoor

namespace Go.Proofs.YtmmiahgmdllgdaaDoor
open Go.RowKit Go.Sort
theorem cutB_skip {k : Nat} {l : List UInt8} {q : UInt8} (hk : k < l.length) (hq : l[k] = q) (hne : q.toNat ≠ 10) : cutB [10] (l.drop k) = (cutB [10] (l.drop (k + 1))).map fun r => (q :: r.1, r.2) := by
  rw [List.drop_eq_getElem_cons hk, hq]
  simp only [cutB]
  have h1 : ([10] : List UInt8).isPrefixOf (q :: l.drop (k + 1)) = false := by
    have : ¬ (10 : UInt8) = q := fun h => hne (by rw [← h]; rfl)
    simp [List.isPrefixOf, this]
  rw [h1]; rfl
theorem cutB_hit {k : Nat} {l : List UInt8} {q : UInt8} (hk : k < l.length) (hq : l[k] = q) (hne : q.toNat = 10) : cutB [10] (l.drop k) = some ([], l.drop (k + 1)) := by
  rw [List.drop_eq_getElem_cons hk, hq]
  simp only [cutB]
  have h1 : ([10] : List UInt8).isPrefixOf (q :: l.drop (k + 1)) = true := by
    have : q = 10 := UInt8.toNat_inj.1 hne
    subst this; simp [List.isPrefixOf]
  rw [h1]; rfl
/-- the next line of what is left, by the blanks -/
theorem jstep_aft {sum : Int} {n : Nat} {rest : List UInt8} {q : List UInt8 × List UInt8} {b : Nat} {note : List UInt8} (h1 : cutB [10] rest = some q) (h2 : aft 0 q.1 = (b, note)) :
    jstep sum n rest = if !(decide (b < 2)) && (noteOk note && (jline sum n note == q.1 ++ [10])) then some note else none := by
  unfold jstep
  rw [h1, Option.bind_some]
  rw [aft_cut] at h2
  cases h3 : cutB [32] q.1 with
  | none => rw [h3] at h2; obtain ⟨rfl, rfl⟩ := Prod.mk.inj h2; simp
  | some r =>
    rw [h3] at h2
    rw [Option.bind_some]
    dsimp only at h2
    cases h4 : cutB [32] r.2 with
    | none => rw [h4] at h2; obtain ⟨rfl, rfl⟩ := Prod.mk.inj h2; simp
    | some t => rw [h4] at h2; obtain ⟨rfl, rfl⟩ := Prod.mk.inj h2; simp
theorem cutB_ten {l : List UInt8} {q : List UInt8 × List UInt8} (h : cutB [10] l = some q) : l.take q.1.length = q.1 ∧ q.1.length < l.length := by
  obtain ⟨h1, -⟩ := cutB_mem 10 l q.1 q.2 h
  have h2 := congrArg List.length h1
  simp at h2
  refine ⟨?_, by omega⟩
  conv => lhs; rw [h1]
  exact List.take_left
theorem cutB_take {l : List UInt8} {q : List UInt8 × List UInt8} (h : cutB [10] l = some q) : l.take (q.1.length + 1) = q.1 ++ [10] := by
  obtain ⟨h1, -⟩ := cutB_mem 10 l q.1 q.2 h
  conv => lhs; rw [h1]
  rw [show q.1 ++ (10 : UInt8) :: q.2 = (q.1 ++ [10]) ++ q.2 by simp, List.take_left' (by simp)]
end Go.Proofs.YtmmiahgmdllgdaaDoor

namespace Go.Proofs.YtmmiahgmdllgdaaDoor
open Go.RowKit Go.Sort
theorem kn_stepS {ops : Array Oper} {o : Oper} {a : Act} {Q : Exit → Act → World → Prop} {w0 w : World} {m : List Ent} {K : Act → World → Prop} {E : Prop} (hgd : o.guard = none) (s x : Operand) (ho : o.op = .call { callee := .builtin .append, args := #[s, x], argTypes := #[32, 32] })
    (v : Value) (ss : List ByteArray) (hs : a.eval s = v) {g c : Nat} {T' : TypeId} {z : ByteArray} (hx : a.eval x = .slice (some ⟨g, 0, none⟩) 1 c)
    (hK : Kn w0 (.blk g [.string z] T' :: rowS v ss :: m) w) (hl : ss.length ≤ 10000000)
    (h : ∀ v' w', Kn w0 (rowS v' (ss ++ [z]) :: m) w' → K (a.put o.dst v') w') : if Region.wanted o (yielded ops a.tmps) = true then Oper.wp Tryd.prog o a w K Q else E := by
  refine kn_step_app tpS hgd s x ho v ss.length (ss.map Value.string) hs hx hK rfl (by simp [Value.oneCell']) (by omega) (by omega) (fun v' w' hK' => h v' w' ?_)
  unfold rowS
  rw [List.length_append, List.map_append, List.map_cons, List.map_nil]
  exact hK'
theorem cutY_len (p l : List UInt8) : (cutY p l).length ≤ l.length := by
  unfold cutY
  cases h : cutB p l with
  | none => exact Nat.zero_le _
  | some q => have := cutB_len p l q h; simp; omega
/-- what has been read, as the implementation keeps it -/
def JI (w0 : World) (g : Nat) (j : JS) (w : World) : Prop := ∃ A c ss, ss.map strB = j.notes ∧ Kn w0 [.blk g [.slice A ss.length c, .int .i64 j.sum, .int .i64 j.size] 54, rowS (.slice A ss.length c) ss] w
theorem JI.keep {w0 w w' : World} {g : Nat} {j : JS} (h : JI w0 g j w) (hb : Below w.heap.size w w') : JI w0 g j w' := by
  obtain ⟨A, c, ss, h1, h2⟩ := h
  exact ⟨A, c, ss, h1, h2.keep hb⟩
theorem jstep_eq {sum : Int} {n : Nat} {rest : List UInt8} {q : List UInt8 × List UInt8} {x y2 y3 : ByteArray} (h1 : cutB [10] rest = some q) (hx : strB x = q.1) (hy2 : strB y2 = cutY [32] (strB x)) (hy3 : strB y3 = cutY [32] (strB y2)) :
    jstep sum n rest = if (cutB [32] (strB x)).isSome && ((cutB [32] (strB y2)).isSome && (noteOk (strB y3) && ((jlineB sum n y3).toList == (x ++ (⟨#[10]⟩ : ByteArray)).toList))) then some (strB y3) else none := by
  have hl : ((jlineB sum n y3).toList == (x ++ (⟨#[10]⟩ : ByteArray)).toList) = (jline sum n (strB y3) == strB x ++ [10]) := by
    rw [strB_toList, strB_toList, strB_jlineB]
    rfl
  rw [hl]
  unfold jstep
  rw [h1, Option.bind_some, ← hx]
  cases h2 : cutB [32] (strB x) with
  | none => rfl
  | some r =>
    rw [cutY, h2] at hy2
    simp only [Option.map_some, Option.getD_some] at hy2
    rw [Option.bind_some, ← hy2]
    cases h3 : cutB [32] (strB y2) with
    | none => simp
    | some t =>
      rw [cutY, h3] at hy3
      simp only [Option.map_some, Option.getD_some] at hy3
      rw [Option.bind_some, hy3]
      simp
set_option maxRecDepth 100000 in
set_option maxHeartbeats 3200000 in
theorem readJournal_any (s : ByteArray) (w : World) (hs : s.size ≤ 4000) (ht : TB w) :
    Calls Tryd.prog 47 #[.string s] w fun e w' => ∃ g, e = .returned (.pointer (some ⟨g, 0, none⟩)) ∧ JI w g (jall (strB s)) w' := by
  have HSL := Lib.hid (strB_len s)
  have HTB := Lib.hid (fun W (hW : Below w.heap.size w W) => TB.below ht hW)
  obtain ⟨RES, hRES⟩ : ∃ r, jall (strB s) = r := ⟨_, rfl⟩
  rw [hRES]
  have HRES := Lib.hid hRES
  clear hRES ht
  have hK0 := (((Kn.nil w).al [] 9).al [.slice (some ⟨w.heap.size, 0, none⟩) 0 0, .int .i64 0, .int .i64 0] 54)
  simp only [World.size_alloc] at hK0
  have hK1 := ((hK0.front 1 rfl).litRow (n := 0) (size := 1) rfl (by decide)).sel [1, 0] 9 (by decide) (by decide)
  clear hK0
  go_enter Tryd.func47, Tryd.ntmps47
  go_wp2_with fail
  obtain ⟨g, hg⟩ : ∃ g, w.heap.size + 1 = g := ⟨_, rfl⟩
  rw [hg] at hK1
  simp only [hg]
  go_loopg [4] (s.size + 1) (fun gk _ wr => ∃ j : JS, Hid (jread ((strB s).drop j.size) j = RES) ∧ j.notes.length ≤ j.size ∧ j.size ≤ s.size ∧ gk = s.size + 1 - j.size ∧ JI w g j wr)
  case atStart => exact ⟨⟨[], 0, 0⟩, HRES.out, Nat.le_refl _, Nat.zero_le _, rfl, _, _, [], rfl, hK1⟩
  case round =>
    clear hK1
    obtain ⟨j, HJ, hn, hz, hgk, A, c, ss, hss, hK⟩ := hrel
    have hnl : ss.length = j.notes.length := by rw [← hss, List.length_map]
    have HGK := Lib.hid hgk
    have hts := HTB.out _ hK.below
    have HC1 := cut_any (s.extract j.size s.size) (⟨#[10]⟩ : ByteArray) wr (by rw [extract_size]; omega) (by decide) (by decide)
    rw [strB_drop, show strB (⟨#[10]⟩ : ByteArray) = [10] from rfl] at HC1
    rcases hc1 : cutB [10] ((strB s).drop j.size) with _ | q
    · have HN := Lib.hid (show jread ((strB s).drop j.size) j = j from jread_none (by unfold jstep; rw [hc1]; rfl))
      rw [hc1] at HC1
      have HC1 := Lib.hid HC1
      have c2 := hK.blkAt.1 2
      clear hc1
      go_wp2_with (go_at_call 71; with_reducible refine (HC1.out).mono ?_; rintro e w1 ⟨x, y, rfl, hx, hy, hw⟩)
      go_ret
      exact ⟨g, rfl, by rw [← HJ.out, HN.out]; exact ⟨A, c, ss, hss, hK.keep hw⟩⟩
    · rw [hc1] at HC1
      have HC1 := Lib.hid HC1
      have HQ := Lib.hid hc1
      clear hc1
      have c2 := hK.blkAt.1 2
      go_wp2_with (go_at_call 71; with_reducible refine (HC1.out).mono ?_; rintro e w1 ⟨x, y, rfl, hx, -, hw⟩)
      replace hx : strB x = q.1 := by rw [hx, cutX, HQ.out]; rfl
      have hxz : x.size ≤ 4000 := by
        have h1 := cutB_len _ _ _ HQ.out
        rw [List.length_drop, HSL.out] at h1
        rw [← strB_len, hx]; omega
      have HX := Lib.hid hx
      clear c2 hx
      have hK1 := hK.keep hw
      clear hK hw
      have HC2 := cut_any x (⟨#[32]⟩ : ByteArray) w1 (by omega) (by decide) (by decide)
      rw [show strB (⟨#[32]⟩ : ByteArray) = [32] from rfl] at HC2
      obtain ⟨b2, hb2⟩ : ∃ b, (cutB [32] (strB x)).isSome = b := ⟨_, rfl⟩
      rw [hb2] at HC2
      replace HC2 := Lib.hid HC2
      have HB2 := Lib.hid hb2
      clear hb2
      go_wp2_with (go_at_call 71; with_reducible refine (HC2.out).mono ?_; rintro e w2 ⟨x2, y2, rfl, -, hy2, hw⟩)
      have hyz : y2.size ≤ 4000 := by
        have h1 := cutY_len [32] (strB x)
        rw [strB_len] at h1
        rw [← strB_len, hy2]; omega
      have HY2 := Lib.hid hy2
      clear hy2
      have hK2 := hK1.keep hw
      clear hK1 hw
      have HC3 := cut_any y2 (⟨#[32]⟩ : ByteArray) w2 (by omega) (by decide) (by decide)
      rw [show strB (⟨#[32]⟩ : ByteArray) = [32] from rfl] at HC3
      obtain ⟨b3, hb3⟩ : ∃ b, (cutB [32] (strB y2)).isSome = b := ⟨_, rfl⟩
      rw [hb3] at HC3
      replace HC3 := Lib.hid HC3
      have HB3 := Lib.hid hb3
      clear hb3
      go_wp2_with (go_at_call 71; with_reducible refine (HC3.out).mono ?_; rintro e w3 ⟨x3, y3, rfl, -, hy3, hw⟩)
      have hyz3 : y3.size ≤ 4000 := by
        have h1 := cutY_len [32] (strB y2)
        rw [strB_len] at h1
        rw [← strB_len, hy3]; omega
      have HY3 := Lib.hid hy3
      clear hy3
      have hK3 := hK2.keep hw
      clear hK2 hw
      have HNX := next_any y3 j.sum ss.length g A c w3 (hK3.blkAt.1 0) (hK3.blkAt.1 1) (by omega) (by omega) (HTB.out _ hK3.below)
      have HIN := (fun W => isNote_any y3 W (by omega))
      have HST := Lib.hid (jstep_eq (sum := j.sum) (n := ss.length) HQ.out HX.out HY2.out HY3.out)
      have hdz := jline_len j.sum ss.length (by omega) (strB y3)
      rw [← jlineB_size, strB_len] at hdz
      obtain ⟨D, hD⟩ : ∃ D, jlineB j.sum ss.length y3 = D := ⟨_, rfl⟩
      rw [hD] at HNX HST hdz
      have HD := Lib.hid hD
      clear hD
      obtain ⟨S, hS⟩ : ∃ S, nsum j.sum ((ss.length : Int) + 1) (strB y3) = S := ⟨_, rfl⟩
      rw [hS] at HNX
      have HS := Lib.hid hS
      clear hS
      obtain ⟨ok, hok⟩ : ∃ b, noteOk (strB y3) = b := ⟨_, rfl⟩
      rw [hok] at HIN HST
      rw [HB2.out, HB3.out] at HST
      replace HNX := Lib.hid HNX
      replace HIN := Lib.hid HIN
      rcases b2 with _ | _
      · go_wp2_with (first | (go_at_call 54; with_reducible refine (HNX.out).mono ?_; rintro e w4 ⟨rfl, hw⟩) | (go_at_call 56; with_reducible refine (HIN.out _).mono ?_; rintro e w5 ⟨rfl, rfl⟩))
        go_ret
        have hK4 := hK3.keep hw
        have hst := HST.out
        rw [Bool.false_and, if_neg (by decide), hnl] at hst
        exact ⟨g, rfl, by rw [← HJ.out, jread_none hst]; exact ⟨A, c, ss, hss, hK4⟩⟩
      rcases b3 with _ | _
      · go_wp2_with (first | (go_at_call 54; with_reducible refine (HNX.out).mono ?_; rintro e w4 ⟨rfl, hw⟩) | (go_at_call 56; with_reducible refine (HIN.out _).mono ?_; rintro e w5 ⟨rfl, rfl⟩))
        go_ret
        have hK4 := hK3.keep hw
        have hst := HST.out
        rw [Bool.true_and, Bool.false_and, if_neg (by decide), hnl] at hst
        exact ⟨g, rfl, by rw [← HJ.out, jread_none hst]; exact ⟨A, c, ss, hss, hK4⟩⟩
      rcases ok with _ | _
      · go_wp2_with (first | (go_at_call 54; with_reducible refine (HNX.out).mono ?_; rintro e w4 ⟨rfl, hw⟩) | (go_at_call 56; with_reducible refine (HIN.out _).mono ?_; rintro e w5 ⟨rfl, rfl⟩))
        go_ret
        have hK4 := hK3.keep hw
        have hst := HST.out
        rw [Bool.true_and, Bool.true_and, Bool.false_and, if_neg (by decide), hnl] at hst
        exact ⟨g, rfl, by rw [← HJ.out, jread_none hst]; exact ⟨A, c, ss, hss, hK4⟩⟩
      rcases hq : (D.toList == (x ++ (⟨#[10]⟩ : ByteArray)).toList) with _ | _
      · go_wp2_with (first | (go_at_call 54; with_reducible refine (HNX.out).mono ?_; rintro e w4 ⟨rfl, hw⟩) | (go_at_call 56; with_reducible refine (HIN.out _).mono ?_; rintro e w5 ⟨rfl, rfl⟩))
        go_ret
        have hK4 := hK3.keep hw
        have hst := HST.out
        rw [hq] at hst
        rw [Bool.true_and, Bool.true_and, Bool.true_and, if_neg (by decide), hnl] at hst
        exact ⟨g, rfl, by rw [← HJ.out, jread_none hst]; exact ⟨A, c, ss, hss, hK4⟩⟩
      have hst := HST.out
      rw [hq, Bool.true_and, Bool.true_and, Bool.true_and, if_pos rfl] at hst
      rw [hnl] at hst
      have hdl := (jstep_some hst).2.2
      have hnx := jread_some hst
      rw [← hnl, HS.out, ← jlineB_size, HD.out, List.drop_drop] at hnx
      rw [List.length_drop, HSL.out, ← hnl, ← jlineB_size, HD.out] at hdl
      have HNXT := Lib.hid (show jread ((strB s).drop (j.size + D.size)) ⟨j.notes ++ [strB y3], S, j.size + D.size⟩ = RES by rw [← hnx]; exact HJ.out)
      have HNL := Lib.hid hnl
      have hn4 : ss.length ≤ 4000 := by omega
      clear hst hnx hnl
      go_wp2_with (first | (go_at_call 54; with_reducible refine (HNX.out).mono ?_; rintro e w4 ⟨rfl, hw⟩) | (go_at_call 56; with_reducible refine (HIN.out _).mono ?_; rintro e w5 ⟨rfl, rfl⟩))
      have hK5 := (hK3.keep hw).sel [1, 0] 9 (by decide) (by decide)
      obtain ⟨ss', hss'⟩ : ∃ l, ss ++ [y3] = l := ⟨_, rfl⟩
      have HSS := Lib.hid hss'
      clear hss'
      have hl10 : ss.length ≤ 10000000 := by omega
      have hwr : IntKind.i64.wrap ((j.size : Int) + (D.size : Int)) = (j.size : Int) + (D.size : Int) := wrapI (by omega)
      have hA : Kn w (.blk w4.heap.size [.string y3] 9 :: rowS (.slice A ss.length c) ss :: _) _ := (hK5.al [.string y3] 9).drew
      obtain ⟨b1, b2, b3, -⟩ := hK5.cells
      go_region_law (refine kn_stepS (by rfl) _ _ (by rfl) (.slice A ss.length c) ss (by rfl) (by rfl) hA hl10 ?_; intro v5 w6 hK9; rw [HSS.out] at hK9; obtain ⟨A5, c5, rfl⟩ := row_form hK9.at0; clear b1 b2 b3; obtain ⟨x1, x2, x3, -⟩ := hK9.cells)
      all_goals
        have hKb := (((hK9.front 1 rfl).st 0 (.slice A5 ss'.length c5)).st 1 (.int .i64 S)).st 2 (.int .i64 ((j.size : Int) + (D.size : Int)))
        go_wp2_with fail
        go_roundg (s.size + 1 - (j.size + D.size))
        case measure => have := HGK.out; omega
        case rel =>
          refine ⟨⟨j.notes ++ [strB y3], S, j.size + D.size⟩, HNXT, ?_, ?_, rfl, A5, c5, ss', ?_, ?_⟩
          · simp only [List.length_append, List.length_cons, List.length_nil]; omega
          · show j.size + D.size ≤ s.size; omega
          · rw [← HSS.out, List.map_append, hss]; rfl
          · rw [show (((⟨j.notes ++ [strB y3], S, j.size + D.size⟩ : JS).size : Nat) : Int) = (j.size : Int) + (D.size : Int) from Int.natCast_add _ _]
            have hKc : Kn w [.blk g [.slice A5 ss'.length c5, .int .i64 S, .int .i64 ((j.size : Int) + (D.size : Int))] 54, rowS (.slice A5 ss'.length c5) ss'] _ := hKb.sel [0, 1] 9 (by decide) (by decide)
            clear hKb hA hK9 HST HNX HIN
            exact hKc
end Go.Proofs.YtmmiahgmdllgdaaDoor

namespace Go.Proofs.YtmmiahgmdllgdaaDoor
open Go.RowKit Go.Sort
/-- what a whole journal's reading gives: a journal where the code is 0 -/
def WJ (w0 : World) (s : ByteArray) (v : Value) (w : World) : Prop := (jcode (strB s) ≠ 0 ∧ v = .pointer none ∧ Below w0.heap.size w0 w) ∨ (jcode (strB s) = 0 ∧ ∃ g, v = .pointer (some ⟨g, 0, none⟩) ∧ JI w0 g (jall (strB s)) w)
theorem JI.below {w0 w : World} {g : Nat} {j : JS} (h : JI w0 g j w) : Below w0.heap.size w0 w := by
  obtain ⟨A, c, ss, h1, h2⟩ := h
  exact h2.below
theorem jread_size (rest : List UInt8) (j : JS) : (jread rest j).size ≤ j.size + rest.length := by
  induction h : rest.length using Nat.strongRecOn generalizing rest j with
  | _ n ih =>
    subst h
    cases h1 : jstep j.sum j.notes.length rest with
    | none => rw [jread_none h1]; omega
    | some note =>
      have h2 := jstep_some h1
      rw [jread_some h1]
      have h3 := ih _ (by rw [List.length_drop]; omega) (rest.drop (jline j.sum j.notes.length note).length) ⟨j.notes ++ [note], nsum j.sum ((j.notes.length : Int) + 1) note, j.size + (jline j.sum j.notes.length note).length⟩ rfl
      rw [List.length_drop] at h3
      simp only at h3
      omega
theorem jall_size (bs : List UInt8) : (jall bs).size ≤ bs.length := by
  have := jread_size bs ⟨[], 0, 0⟩
  simpa [jall] using this
set_option maxRecDepth 100000 in
set_option maxHeartbeats 1600000 in
theorem wholeJournal_any (s : ByteArray) (w : World) (hs : s.size ≤ 9223372036854775807) (ht : TB w) :
    Calls Tryd.prog 20 #[.string s] w fun e w' => ∃ v, e = .returned (.tuple #[v, .int .i64 (jcode (strB s))]) ∧ WJ w s v w' := by
  have HJC := Lib.hid (show jcode (strB s) = if s.size > 4000 then 5 else if (jall (strB s)).size = s.size then 0 else 8 by unfold jcode; rw [strB_len])
  have HJZ := Lib.hid (show (jall (strB s)).size ≤ s.size by rw [← strB_len]; exact jall_size _)
  go_enter Tryd.func20, Tryd.ntmps20
  by_cases h4 : s.size > 4000
  · have i1 : (4000 : Int) < (s.size : Int) := by omega
    have hj := HJC.out
    rw [if_pos h4] at hj
    go_wp2_with fail
    refine bodyPost_ret (v := .tuple #[.pointer none, .int .i64 5]) (by simp [results, Tryd.results20, go_sem]) rfl ⟨.pointer none, by rw [hj], .inl ⟨by rw [hj]; decide, rfl, Below.refl _ _⟩⟩
  · have i1 : ¬ (4000 : Int) < (s.size : Int) := by omega
    have KR := Lib.hid (readJournal_any s w (by omega) ht)
    obtain ⟨J, hJ0⟩ : ∃ J, jall (strB s) = J := ⟨_, rfl⟩
    rw [hJ0] at KR HJC HJZ
    have hjz := HJZ.out
    have HJ0 := Lib.hid hJ0
    clear hJ0
    by_cases h5 : J.size = s.size
    · have hj := HJC.out
      rw [if_neg h4, if_pos h5] at hj
      have HJ5 := Lib.hid hj
      have i2 : ¬ (J.size : Int) < (s.size : Int) := by omega
      clear hj h5
      go_wp2_with fail
      refine KR.out.mono ?_; rintro e w1 ⟨g, rfl, hJ⟩; have HJ := Lib.hid hJ; obtain ⟨A, c, ss, -, hK⟩ := hJ; have c2 := hK.blkAt.1 2
      go_wp2_with fail
      refine bodyPost_ret (v := .tuple #[.pointer (some ⟨g, 0, none⟩), .int .i64 0]) (by simp [results, Tryd.results20, go_sem]) rfl ⟨.pointer (some ⟨g, 0, none⟩), by rw [HJ5.out], .inr ⟨HJ5.out, g, rfl, by rw [HJ0.out]; exact HJ.out⟩⟩
    · have hj := HJC.out
      rw [if_neg h4, if_neg h5] at hj
      have HJ5 := Lib.hid hj
      have i2 : (J.size : Int) < (s.size : Int) := by omega
      clear hj h5
      go_wp2_with fail
      refine KR.out.mono ?_; rintro e w1 ⟨g, rfl, hJ⟩; have HJ := Lib.hid hJ; obtain ⟨A, c, ss, -, hK⟩ := hJ; have c2 := hK.blkAt.1 2
      go_wp2_with fail
      refine bodyPost_ret (v := .tuple #[.pointer none, .int .i64 8]) (by simp [results, Tryd.results20, go_sem]) rfl ⟨.pointer none, by rw [HJ5.out], .inl ⟨by rw [HJ5.out]; decide, rfl, HJ.out.below⟩⟩
end Go.Proofs.YtmmiahgmdllgdaaDoor

namespace Go.Proofs.YtmmiahgmdllgdaaDoor
open Go.RowKit Go.Sort
theorem jread_notes (rest : List UInt8) (j : JS) (h0 : j.notes.length ≤ j.size) : (jread rest j).notes.length ≤ (jread rest j).size := by
  induction h : rest.length using Nat.strongRecOn generalizing rest j with
  | _ n ih =>
    subst h
    cases h1 : jstep j.sum j.notes.length rest with
    | none => rw [jread_none h1]; exact h0
    | some note =>
      have h2 := jstep_some h1
      rw [jread_some h1]
      refine ih _ (by rw [List.length_drop]; omega) _ _ ?_ rfl
      simp only [List.length_append, List.length_cons, List.length_nil]
      omega
theorem jcode_zero {bs : List UInt8} (h : jcode bs = 0) : bs.length ≤ 4000 ∧ (jall bs).size = bs.length ∧ (jall bs).notes.length ≤ 4000 := by
  unfold jcode at h
  split at h
  · cases h
  · split at h
    · rename_i h1 h2
      have := jread_notes bs ⟨[], 0, 0⟩ (Nat.le_refl _)
      refine ⟨by omega, h2, ?_⟩
      show (jread bs ⟨[], 0, 0⟩).notes.length ≤ 4000
      have h3 : (jread bs ⟨[], 0, 0⟩).size = bs.length := h2
      omega
    · cases h
/-- what the appending of a note gives -/
def anC (S N : List UInt8) : Int := if jcode S ≠ 0 then jcode S else if noteOk N = false then 7 else if S.length + (jline (jall S).sum (jall S).notes.length N).length > 4000 then 5 else 0
def anT (s note : ByteArray) : ByteArray := if anC (strB s) (strB note) = 0 then s ++ jlineB (jall (strB s)).sum (jall (strB s)).notes.length note else ⟨#[]⟩
theorem an_bad {s note : ByteArray} (h : jcode (strB s) ≠ 0) : anC (strB s) (strB note) = jcode (strB s) ∧ anT s note = ⟨#[]⟩ := by
  have h1 : anC (strB s) (strB note) = jcode (strB s) := by unfold anC; rw [if_pos h]
  exact ⟨h1, by unfold anT; rw [h1, if_neg h]⟩
theorem an_note {s note : ByteArray} (h : jcode (strB s) = 0) (h2 : noteOk (strB note) = false) : anC (strB s) (strB note) = 7 ∧ anT s note = ⟨#[]⟩ := by
  have h1 : anC (strB s) (strB note) = 7 := by unfold anC; rw [if_neg (fun h' => h' h), if_pos h2]
  exact ⟨h1, by unfold anT; rw [h1, if_neg (by decide)]⟩
theorem an_full {s note : ByteArray} (h : jcode (strB s) = 0) (h2 : noteOk (strB note) = true) (h3 : s.size + (jlineB (jall (strB s)).sum (jall (strB s)).notes.length note).size > 4000) : anC (strB s) (strB note) = 5 ∧ anT s note = ⟨#[]⟩ := by
  have h1 : anC (strB s) (strB note) = 5 := by
    unfold anC; rw [if_neg (fun h' => h' h), if_neg (by rw [h2]; decide), if_pos (by rw [strB_len, ← jlineB_size]; exact h3)]
  exact ⟨h1, by unfold anT; rw [h1, if_neg (by decide)]⟩
theorem an_fine {s note : ByteArray} (h : jcode (strB s) = 0) (h2 : noteOk (strB note) = true) (h3 : ¬ s.size + (jlineB (jall (strB s)).sum (jall (strB s)).notes.length note).size > 4000) : anC (strB s) (strB note) = 0 ∧ anT s note = s ++ jlineB (jall (strB s)).sum (jall (strB s)).notes.length note := by
  have h1 : anC (strB s) (strB note) = 0 := by
    unfold anC; rw [if_neg (fun h' => h' h), if_neg (by rw [h2]; decide), if_neg (by rw [strB_len, ← jlineB_size]; exact h3)]
  exact ⟨h1, by unfold anT; rw [h1, if_pos rfl]⟩
set_option maxRecDepth 100000 in
set_option maxHeartbeats 1600000 in
theorem AppendNote_any (s note : ByteArray) (w : World) (hs : s.size ≤ 9223372036854775807) (hn : note.size ≤ 1048576) (ht : TB w) :
    Calls Tryd.prog 28 #[.string s, .string note] w fun e w' => e = .returned (.tuple #[.string (anT s note), .int .i64 (anC (strB s) (strB note))]) ∧ Below w.heap.size w w' := by
  have HTB := Lib.hid (fun W (hW : Below w.heap.size w W) => TB.below ht hW)
  have KW := wholeJournal_any s w hs ht
  have HNT := (fun W => isNote_any note W (by omega))
  have H1 := an_bad (s := s) (note := note)
  have H2 := an_note (s := s) (note := note)
  have H3 := an_full (s := s) (note := note)
  have H4 := an_fine (s := s) (note := note)
  have H5 := jcode_zero (bs := strB s)
  unfold WJ at KW
  obtain ⟨RC, hRC⟩ : ∃ C, anC (strB s) (strB note) = C := ⟨_, rfl⟩
  obtain ⟨RT, hRT⟩ : ∃ C, anT s note = C := ⟨_, rfl⟩
  rw [hRC, hRT] at H1 H2 H3 H4 ⊢
  clear hRC hRT
  obtain ⟨C, hC⟩ : ∃ C, jcode (strB s) = C := ⟨_, rfl⟩
  rw [hC] at KW H1 H2 H3 H4 H5
  obtain ⟨J, hJ⟩ : ∃ C, jall (strB s) = C := ⟨_, rfl⟩
  rw [hJ] at KW H3 H4 H5
  clear hC hJ
  replace KW := Lib.hid KW
  rcases hc0 : (C == 0) with _ | _
  · have HCN := Lib.hid (show C ≠ 0 by simpa using hc0)
    have HQ := Lib.hid (H1 HCN.out)
    clear H1 H2 H3 H4 H5 HNT
    go_enter Tryd.func28, Tryd.ntmps28
    go_wp2_with fail
    refine KW.out.mono ?_; rintro e w1 ⟨v, rfl, (⟨-, rfl, hw⟩ | ⟨h0, -⟩)⟩
    rotate_left
    · exact absurd h0 HCN.out
    go_wp2_with fail
    go_ret2
    exact ⟨by rw [HQ.out.1, HQ.out.2]; rfl, hw⟩
  obtain rfl : C = 0 := by simpa using hc0
  clear hc0 H1
  obtain ⟨z1, -, z2⟩ := H5 rfl
  rw [strB_len] at z1
  clear H5
  rcases ho : noteOk (strB note) with _ | _
  · rw [ho] at HNT
    have HQ := Lib.hid (H2 rfl ho)
    replace HNT := Lib.hid HNT
    clear H2 H3 H4 ho
    go_enter Tryd.func28, Tryd.ntmps28
    go_wp2_with fail
    refine KW.out.mono ?_; rintro e w1 ⟨v, rfl, (⟨h0, -⟩ | ⟨-, g, rfl, hJ⟩)⟩
    · exact absurd rfl h0
    have hw := hJ.below
    go_wp2_with (go_at_call 56; with_reducible refine (HNT.out _).mono ?_; rintro e w5 ⟨rfl, rfl⟩)
    go_ret2
    exact ⟨by rw [HQ.out.1, HQ.out.2]; rfl, hw⟩
  rw [ho] at HNT
  replace H3 := Lib.hid (H3 rfl ho)
  replace H4 := Lib.hid (H4 rfl ho)
  replace HNT := Lib.hid HNT
  clear H2 ho
  go_enter Tryd.func28, Tryd.ntmps28
  go_wp2_with fail
  refine KW.out.mono ?_; rintro e w1 ⟨v, rfl, (⟨h0, -⟩ | ⟨-, g, rfl, hJ⟩)⟩
  · exact absurd rfl h0
  have hw := hJ.below
  obtain ⟨A, c, ss, hss, hK⟩ := hJ
  have hnl : ss.length = J.notes.length := by rw [← hss, List.length_map]
  have HNX := next_any note J.sum ss.length g A c w1 (hK.blkAt.1 0) (hK.blkAt.1 1) (by omega) hn (HTB.out _ hw)
  have hdz := jline_len J.sum ss.length (by omega) (strB note)
  rw [← jlineB_size, strB_len] at hdz
  rw [← hnl] at H3 H4
  obtain ⟨D, hD⟩ : ∃ D, jlineB J.sum ss.length note = D := ⟨_, rfl⟩
  rw [hD] at HNX hdz H3 H4
  obtain ⟨S, hS⟩ : ∃ S, nsum J.sum ((ss.length : Int) + 1) (strB note) = S := ⟨_, rfl⟩
  rw [hS] at HNX
  replace HNX := Lib.hid HNX
  have hwr : IntKind.i64.wrap ((s.size : Int) + (D.size : Int)) = (s.size : Int) + (D.size : Int) := wrapI (by omega)
  clear hD hS hss hnl hK
  by_cases h4 : s.size + D.size > 4000
  · have HQ := Lib.hid (H3.out h4)
    have i1 : (4000 : Int) < (s.size : Int) + (D.size : Int) := by omega
    go_wp2_with (first | (go_at_call 54; with_reducible refine (HNX.out).mono ?_; rintro e w4 ⟨rfl, hw4⟩) | (go_at_call 56; with_reducible refine (HNT.out _).mono ?_; rintro e w5 ⟨rfl, rfl⟩))
    go_ret2
    exact ⟨by rw [HQ.out.1, HQ.out.2]; rfl, hw.trans (hw4.mono hw.size)⟩
  · have HQ := Lib.hid (H4.out h4)
    have i1 : ¬ (4000 : Int) < (s.size : Int) + (D.size : Int) := by omega
    go_wp2_with (first | (go_at_call 54; with_reducible refine (HNX.out).mono ?_; rintro e w4 ⟨rfl, hw4⟩) | (go_at_call 56; with_reducible refine (HNT.out _).mono ?_; rintro e w5 ⟨rfl, rfl⟩))
    go_ret2
    exact ⟨by rw [HQ.out.1, HQ.out.2]; rfl, hw.trans (hw4.mono hw.size)⟩
end Go.Proofs.YtmmiahgmdllgdaaDoor

namespace Go.Proofs.YtmmiahgmdllgdaaDoor
open Go.RowKit Go.Sort
end Go.Proofs.YtmmiahgmdllgdaaDoor

namespace Go.Proofs.YtmmiahgmdllgdaaDoor
open Go.RowKit Go.Sort
/-- what is known at index j of the search for the match of i -/
structure Seek (xs : List Ins) (i j : Nat) (d : Int) : Prop where
  le : i ≤ j
  lt : j < xs.length
  dep : d = depA xs j - depA xs i
  above : ∀ q, i < q → q ≤ j → depA xs i < depA xs q
theorem Seek.next {xs : List Ins} (h : vprog xs = true) {i j : Nat} {d : Int} (hs : Seek xs i j d) (ho : opens (xs[i]'(Nat.lt_of_le_of_lt hs.le hs.lt)).op = true) {d' : Int} (hd : d' = depA xs (j + 1) - depA xs i) (h0 : ¬ d' = 0) : Seek xs i (j + 1) d' := by
  have hn := dep_near h j
  have hi : i < xs.length := Nat.lt_of_le_of_lt hs.le hs.lt
  have hb := dep_bd h i
  have hge : depA xs i ≤ depA xs (j + 1) := by
    rcases Nat.lt_or_eq_of_le hs.le with h1 | h1
    · have := hs.above j h1 (Nat.le_refl _); omega
    · subst h1; rw [dep_open h hi ho]; omega
  have hl : j + 1 < xs.length := by
    rcases Nat.lt_or_ge (j + 1) xs.length with h1 | h1
    · exact h1
    · have := depA_end h h1; omega
  refine ⟨by have := hs.le; omega, hl, hd, fun q h1 h2 => ?_⟩
  rcases Nat.lt_or_eq_of_le h2 with h3 | h3
  · exact hs.above q h1 (by omega)
  · subst h3; omega
theorem Seek.found {xs : List Ins} {i j : Nat} {d : Int} (hs : Seek xs i j d) {d' : Int} (hd : d' = depA xs (j + 1) - depA xs i) (h0 : d' = 0) : IsMatch xs i j := ⟨hs.le, hs.lt, by omega, hs.above⟩
theorem Seek.zero {xs : List Ins} {i : Nat} (hi : i < xs.length) : Seek xs i i 0 := ⟨Nat.le_refl _, hi, by omega, fun q h1 h2 => by omega⟩
def MatchRet (xs : List Ins) (i : Nat) (w : World) (e : Ending) (w' : World) : Prop := ∃ f : Nat, e = .returned (.int .i64 f) ∧ IsMatch xs i f ∧ Below w.heap.size w w'
def MatchRet0 (xs : List Ins) (i : Nat) (w : World) (e : Ending) (w' : World) : Prop := ∃ f : Nat, e = .returned (.int .i64 f) ∧ IsMatch xs i f ∧ w = w'
end Go.Proofs.YtmmiahgmdllgdaaDoor
