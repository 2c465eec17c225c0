/- Part 5: lemmas and contracts of the claim's functions. -/
import Derived.Test.YtgpmngcemnnpmaaDoorZC1
import Derived.Test.YtgpmngcemnnpmaaDoorZC2
import Derived.Test.YtgpmngcemnnpmaaDoorZC3
import Derived.Test.YtgpmngcemnnpmaaDoorZC4
namespace Go.Proofs.YtgpmngcemnnpmaaDoor
open Go.RowKit Go.Sort
/-- a list of faults in an own row -/
def OwnF (w : World) (base : Nat) (v : Value) (fs : List Flt) : Prop := w.ownsRow base 38 2 v fs.length (fcells fs)
theorem OwnF.nil (w : World) (base : Nat) : OwnF w base (.slice none 0 0) [] := ⟨rfl, .inl ⟨rfl, rfl⟩⟩
theorem OwnF.below {w w' : World} {base : Nat} {v : Value} {fs : List Flt} (h : OwnF w base v fs) (hb : Below w.heap.size w w') : OwnF w' base v fs := row_below h hb
theorem OwnF.reads {w : World} {base : Nat} {v : Value} {fs : List Flt} (h : OwnF w base v fs) : ∃ A c, v = .slice A fs.length c ∧ RL FltM 2 w A fs.length fs := by
  rcases h.2 with ⟨rfl, hn⟩ | ⟨g, cap, cur, rfl, hb, hg, -⟩
  · exact ⟨none, 0, by rw [hn], rfl, fun h => by omega⟩
  · refine ⟨_, cap, rfl, rfl, fun hn => ⟨_, rfl, (Array.getElem?_eq_some_iff.1 hg).1, fun k hk => ?_⟩⟩
    obtain ⟨e1, e2⟩ := fcells_get fs k hk
    have f1 := World.ownsRow.cells h (g := g) rfl _ _ e1
    have f2 := World.ownsRow.cells h (g := g) rfl _ _ e2
    rw [add_zero_block] at f1 f2 ⊢
    exact ⟨f1, f2⟩
def cellsI (fs : List Flt) : List Int := fs.flatMap (fun f => [f.kind, f.lever])
theorem fcells_ints (fs : List Flt) : fcells fs = (cellsI fs).map (Value.int .i64) := by
  induction fs with
  | nil => rfl
  | cons f fs ih => simp only [fcells, cellsI, List.flatMap_cons, List.map_append, List.map_cons, List.map_nil] at ih ⊢; rw [ih]
theorem cellsI_len (fs : List Flt) : (cellsI fs).length = fs.length * 2 := by
  have h := fcells_len fs
  rw [fcells_ints, List.length_map] at h
  exact h
/-- the cells of a marked list of faults -/
def MarkF (w : World) (base : Nat) (v : Value) (n : Nat) (k : Int) : Prop := w.ownsRow base 38 2 v n ((upto k (n * 2)).map (Value.int .i64))
end Go.Proofs.YtgpmngcemnnpmaaDoor

namespace Go.Proofs.YtgpmngcemnnpmaaDoor
open Go.RowKit Go.Sort
end Go.Proofs.YtgpmngcemnnpmaaDoor

namespace Go.Proofs.YtgpmngcemnnpmaaDoor
open Go.RowKit Go.Sort
/-- the lists of faults that explain the trials -/
def found (ts : List Tri) (n0 m : Nat) : List (List Flt) := (fsets n0 m).filter (vexpl ts)
theorem take_filter_succ {α : Type} {p : α → Bool} {ds : List α} {k : Nat} (h : k < ds.length) : (ds.take (k + 1)).filter p = (ds.take k).filter p ++ (if p ds[k] then [ds[k]] else []) := by
  rw [List.take_succ_eq_append_getElem h, List.filter_append]
  by_cases g : p ds[k] = true
  · simp [g]
  · simp [g]
def bcode (ts : List Tri) (f : Int) : Int := if vtrials ts = false then 1 else if 6 < (ts.headD default).a.digits.length then 5 else if betB f 0 2 = false then 2 else 0
theorem vtrials_pos {ts : List Tri} (h : vtrials ts = true) : 0 < ts.length ∧ ts.length ≤ 60 := by
  simp only [vtrials, Bool.and_eq_true] at h
  obtain ⟨-, h⟩ := h
  obtain ⟨h1, h2⟩ := betB_iff.1 h
  omega
end Go.Proofs.YtgpmngcemnnpmaaDoor

namespace Go.Proofs.YtgpmngcemnnpmaaDoor
open Go.RowKit Go.Sort
theorem sets_share {wr w5 w6 : World} {B : Nat} {v v' u : Value} {L : List (List Flt)} {us : List Value} {fs : List Flt} (hS : wr.ownsRow B 25 1 v L.length us) (hl : us.length = L.length)
    (hI : ∀ (i : Nat) (h : i < L.length) (h' : i < us.length), Inner wr B v.ownBlock us[i] L[i]) (hb : Below wr.heap.size wr w5) (hin : Inner w5 B v.ownBlock u fs)
    (ho : w6.ownsRow B 25 1 v' (L.length + 1) (us ++ [u])) (hg : w5.grownBy w6 v.ownBlock)
    (hv : v'.ownBlock = v.ownBlock ∨ v'.ownBlock = some w5.heap.size) : Sets w6 B v' (L ++ [fs]) := by
  refine ⟨_, by simpa using ho, by simp [hl], fun i h h' => ?_⟩
  by_cases hi : i < L.length
  · rw [List.getElem_append_left (by omega), List.getElem_append_left hi]
    refine (hI i hi (by omega)).kept (Nat.le_trans hb.size hg.size) fun g _ hgl hne => ⟨?_, ?_⟩
    · rw [hg.block g (Nat.lt_of_lt_of_le hgl hb.size) hne, hb.block g hgl]
    · rcases hv with e | e
      · rw [e]; exact hne
      · rw [e]; intro e'; injection e' with e'; have := hb.size; omega
  · have : i = L.length := by simp at h; omega
    subst this
    rw [List.getElem_append_right (by omega), List.getElem_append_right (by omega)]
    simp only [hl, Nat.sub_self, List.getElem_cons_zero]
    refine hin.kept hg.size fun g _ hgl hne => ⟨hg.block g hgl hne, ?_⟩
    rcases hv with e | e
    · rw [e]; exact hne
    · rw [e]; intro e'; injection e' with e'; omega
theorem Inner.rl' {w : World} {base g n c : Nat} {row : Option Nat} {fs : List Flt} (h : Inner w base row (.slice (some ⟨g, 0, none⟩) n c) fs) : RL FltM 2 w (some ⟨g, 0, none⟩) fs.length fs := by
  obtain ⟨g', c', e, hr⟩ := h.rl
  injection e with e1 e2 e3
  rw [e1]; exact hr
theorem Sets.elem {w : World} {B n c : Nat} {A : Option Addr} {L : List (List Flt)} (h : Sets w B (.slice A n c) L) {k : Nat} (hk : k < L.length) :
    ∃ (aS : Addr) (gl cl : Nat), A = some aS ∧ B ≤ aS.block ∧ aS.block < w.heap.size ∧ w.cell? (aS.add k) = some (.slice (some ⟨gl, 0, none⟩) L[k].length cl) ∧ Inner w B (some aS.block) (.slice (some ⟨gl, 0, none⟩) L[k].length cl) L[k] := by
  obtain ⟨us, h1, h2, h3⟩ := h
  have hi := h3 k hk (by omega)
  have hr := hi.rl
  rcases h1.2 with ⟨-, hn⟩ | ⟨g, cap, cur, e, hb, hg, -⟩
  · omega
  · injection e with e1 e2 e3
    subst e1
    obtain ⟨gl, cl, hu, hrl⟩ := hr
    have hc := h1.cells (g := g) rfl k us[k] (by simp [List.getElem?_eq_getElem (show k < us.length by omega)])
    rw [hu] at hc hi
    exact ⟨⟨g, 0, none⟩, gl, cl, rfl, hb, (Array.getElem?_eq_some_iff.1 hg).1, hc, hi⟩
theorem Inner.base {w : World} {b b' : Nat} {row : Option Nat} {u : Value} {fs : List Flt} (h : Inner w b row u fs) (hb : b' ≤ b) : Inner w b' row u fs := by
  obtain ⟨g, c, e, h0, h1, h2, h3⟩ := h
  exact ⟨g, c, e, Nat.le_trans hb h0, h1, h2, row_mono h3 hb⟩
/-- the blocks from a on that the first world has are as they were -/
def Kept (a : Nat) (w w' : World) : Prop := w.heap.size ≤ w'.heap.size ∧ ∀ g, a ≤ g → g < w.heap.size → w'.heap[g]? = w.heap[g]?
theorem Kept.refl (a : Nat) (w : World) : Kept a w w := ⟨Nat.le_refl _, fun _ _ _ => rfl⟩
theorem Kept.below {a : Nat} {w w1 w2 : World} (h : Kept a w w1) (hb : Below w1.heap.size w1 w2) : Kept a w w2 :=
  ⟨Nat.le_trans h.1 hb.size, fun g h1 h2 => by rw [hb.block g (Nat.lt_of_lt_of_le h2 h.1)]; exact h.2 g h1 h2⟩
theorem Kept.grown {a : Nat} {w w1 w2 : World} {o : Option Nat} (h : Kept a w w1) (hg : w1.grownBy w2 o) (ho : ∀ g, o = some g → g < a ∨ w.heap.size ≤ g) : Kept a w w2 :=
  ⟨Nat.le_trans h.1 hg.size, fun g h1 h2 => by
    rw [hg.block g (Nat.lt_of_lt_of_le h2 h.1) (fun e => by have := ho g e.symm; omega)]; exact h.2 g h1 h2⟩
theorem found_length (p : List Flt → Bool) {n0 m k : Nat} (hn : n0 ≤ 6) (hm : m ≤ 2) : ((fsets n0 m).take k |>.filter p).length ≤ 1000 := by
  have h1 := List.length_filter_le p ((fsets n0 m).take k)
  have h2 : ((fsets n0 m).take k).length ≤ (fsets n0 m).length := by simp; omega
  have h3 : (fsets n0 m).length ≤ 324 := by
    rcases Nat.lt_or_ge m 2 with h | h
    · exact Nat.le_trans (fsets_small hn (by omega)) (by omega)
    · obtain rfl : m = 2 := by omega
      have h4 := fsets_len n0 1
      have h5 := fsets_small hn (Nat.le_refl 1)
      have h6 : 3 * n0 * (fsets n0 1).length ≤ 18 * 18 := Nat.mul_le_mul (by omega) h5
      exact Nat.le_trans h4 h6
  omega
end Go.Proofs.YtgpmngcemnnpmaaDoor

namespace Go.Proofs.YtgpmngcemnnpmaaDoor
open Go.RowKit Go.Sort
/-- the width of the first trial -/
def wid (ts : List Tri) : Nat := (ts.headD default).a.digits.length
theorem bcode_zero {ts : List Tri} {f : Int} (h : bcode ts f = 0) (hs : ∀ t ∈ ts, SmallTri t) : (∀ t ∈ ts, TOK t ∧ t.a.digits.length = wid ts) ∧ 1 ≤ wid ts ∧ wid ts ≤ 6 ∧ 0 ≤ f ∧ f ≤ 2 ∧ 0 < ts.length ∧ ts.length ≤ 60 := by
  unfold bcode at h
  rcases hv : vtrials ts with _ | _
  · rw [if_pos hv] at h; omega
  rw [if_neg (by rw [hv]; decide)] at h
  split at h
  · omega
  rename_i h6
  rcases hb : betB f 0 2 with _ | _
  · rw [if_pos hb] at h; omega
  obtain ⟨p1, p2⟩ := vtrials_pos hv
  obtain ⟨f1, f2⟩ := betB_iff.1 hb
  have hall : ∀ t ∈ ts, triGood (ts.headD default).a t = true := by
    simp only [vtrials, Bool.and_eq_true, List.all_eq_true] at hv
    exact hv.1
  have hlen : ∀ t ∈ ts, t.a.digits.length = wid ts := by
    intro t ht
    have h := hall t ht
    simp only [triGood, vlike, Bool.and_eq_true, decide_eq_true_eq, beq_iff_eq] at h
    unfold wid
    omega
  refine ⟨fun t ht => ⟨tok_of (hall t ht) (hs t ht), hlen t ht⟩, ?_, by unfold wid; omega, f1, f2, p1, p2⟩
  have h0 := hall ts[0] (List.getElem_mem _)
  have hl := hlen ts[0] (List.getElem_mem _)
  simp only [triGood, vlike, Bool.and_eq_true, decide_eq_true_eq, beq_iff_eq] at h0
  obtain ⟨-, p2, -⟩ := vreg_iff.1 h0.1.1.1.1.1
  omega
def ccount (ts : List Tri) (f : Int) : Int := if bcode ts f = 0 then ((found ts (wid ts) f.toNat).length : Int) else 0
end Go.Proofs.YtgpmngcemnnpmaaDoor

namespace Go.Proofs.YtgpmngcemnnpmaaDoor
open Go.RowKit Go.Sort
theorem gSet {w a : World} {o : Option Nat} (h : w.grownBy a o) {p : Addr} (hp : w.heap.size ≤ p.block) (u : Value) : w.grownBy (a.setCell p u) o :=
  ⟨h.os, h.tape, h.output, by simp [World.setCell]; exact h.size, fun k hk hne => (heap_setCell_other _ _ _ _ (by omega)).trans (h.block k hk hne)⟩
theorem OwnF.grown {w w' : World} {base b : Nat} {v : Value} {fs : List Flt} (h : OwnF w base v fs) (hg : w.grownBy w' (some b)) (hb : b < base) : OwnF w' base v fs :=
  row_kept h (fun g hgo => hg.block g (own_lt h g hgo).2 (fun e => by injection e with e; have := (own_lt h g hgo).1; omega))
theorem asc_push {fs : List Flt} (ha : Asc fs) {f : Flt} (hl : ∀ (h : 0 < fs.length), (fs[fs.length - 1]'(by omega)).lever < f.lever) : Asc (fs ++ [f]) := by
  intro k hk
  rw [List.length_append, List.length_cons, List.length_nil] at hk
  by_cases h : k + 1 < fs.length
  · rw [List.getElem_append_left (by omega), List.getElem_append_left h]; exact ha k h
  · have he : k + 1 = fs.length := by omega
    rw [List.getElem_append_left (by omega), List.getElem_append_right (by omega)]
    simp only [he, Nat.sub_self, List.getElem_cons_zero]
    have := hl (by omega)
    have e2 : fs[k]'(by omega) = fs[fs.length - 1]'(by omega) := by congr 1; omega
    rw [e2]; exact this
/-- a drawn trial -/
def TrOK (base : Int) (width : Nat) (t : Tri) : Prop := t.a.base = base ∧ DigB base width t.a.digits ∧ t.b.base = base ∧ DigB base width t.b.digits ∧ t.s.base = base ∧ DigB base width t.s.digits ∧ 0 ≤ t.carry ∧ t.carry ≤ 1
/-- what is drawn: valid trials of few digits -/
def Drawn (w : World) (base : Nat) (v : Value) (ts : List Tri) : Prop := PL w base v ts ∧ vtrials ts = true ∧ (∀ t ∈ ts, SmallTri t) ∧ wid ts ≤ 6
theorem OwnD.mono {w : World} {base b' : Nat} {row : Option Nat} {v : Value} {ds : List Int} (h : OwnD w base row v ds) (hb : b' ≤ base) : OwnD w b' row v ds := ⟨h.1.mono hb, h.2⟩
theorem PL.mono {w : World} {base b' : Nat} {v : Value} {ts : List Tri} (h : PL w base v ts) (hb : b' ≤ base) : PL w b' v ts := by
  obtain ⟨xs, h1, h2⟩ := h
  refine ⟨xs, row_mono h1 hb, fun i hi => ?_⟩
  obtain ⟨X1, x1, X2, x2, X3, x3, e, o1, o2, o3⟩ := h2 i hi
  exact ⟨X1, x1, X2, x2, X3, x3, e, o1.mono hb, o2.mono hb, o3.mono hb⟩
theorem wid_of {ts : List Tri} {n : Nat} (h : ∀ t ∈ ts, t.a.digits.length = n) (h0 : 0 < ts.length) : wid ts = n := by
  unfold wid
  rw [headD_get h0]
  exact h _ (List.getElem_mem _)
theorem sumL_dig (base : Int) (A B : List Int) (fs : List Flt) (n : Nat) (hb : 2 ≤ base) (hA : ∀ d ∈ A, 0 ≤ d) (hB : ∀ d ∈ B, 0 ≤ d) : DigB base n (sumL base A B fs n) := by
  refine ⟨sumL_len _ _ _ _ _, fun d hd => ?_⟩
  obtain ⟨k, -, rfl⟩ := List.mem_map.1 hd
  have hg : ∀ (L : List Int) (k : Nat), (∀ d ∈ L, 0 ≤ d) → 0 ≤ L.getD k 0 := fun L k hL => by
    rcases Nat.lt_or_ge k L.length with h | h
    · rw [getD_of h]; exact hL _ (List.getElem_mem _)
    · simp [List.getD, List.getElem?_eq_none h]
  have h1 := hg A k hA
  have h2 := hg B k hB
  have h3 := carryAt_bd base A B fs k
  unfold sumD
  exact ⟨Int.tmod_nonneg _ (by omega), Int.tmod_lt_of_pos _ (by omega)⟩
theorem valL_pow (base : Int) (hb : 2 ≤ base) (hb2 : base ≤ 10) : ∀ (ds : List Int), (∀ d ∈ ds, 0 ≤ d ∧ d < base) → valL base ds + 1 ≤ ((10 ^ ds.length : Nat) : Int)
  | [], _ => by simp [valL]
  | d :: ds, hd => by
    have ih := valL_pow base hb hb2 ds (fun x hx => hd x (List.mem_cons_of_mem _ hx))
    obtain ⟨d0, d1⟩ := hd d (List.mem_cons_self ..)
    rw [List.length_cons, Nat.pow_succ]
    obtain ⟨P, hP⟩ : ∃ P : Nat, P = 10 ^ ds.length := ⟨_, rfl⟩
    rw [← hP] at ih ⊢
    have h1 : valL base ds * base ≤ ((P : Int) - 1) * base := Int.mul_le_mul_of_nonneg_right (by omega) (by omega)
    have h2 : (P : Int) * base ≤ (P : Int) * 10 := Int.mul_le_mul_of_nonneg_left hb2 (by omega)
    rw [Int.sub_mul, Int.one_mul] at h1
    unfold valL
    have h3 : min 1000000000001 (valL base ds * base + d) ≤ valL base ds * base + d := Int.min_le_right _ _
    rw [Int.natCast_mul]
    omega
theorem regW_ok {base : Int} {width : Nat} {ds : List Int} (hd : DigB base width ds) (hb : 2 ≤ base) (hb2 : base ≤ 10) (h1 : 1 ≤ width) (h5 : width ≤ 5) : vreg base ds = true := by
  rw [vreg_iff]
  have h2 := valL_pow base hb hb2 ds hd.2
  have hl := hd.1
  have h3 : 10 ^ ds.length ≤ 10 ^ 5 := Nat.pow_le_pow_right (by omega) (by omega)
  exact ⟨by omega, by omega, hd.2, by omega⟩
theorem trok_good {base : Int} {width : Nat} {r0 : Reg} {t : Tri} (h : TrOK base width t) (hb : 2 ≤ base) (hb2 : base ≤ 10) (h1 : 1 ≤ width) (h5 : width ≤ 5) (hr : r0.base = base) (hl : r0.digits.length = width) : triGood r0 t = true := by
  obtain ⟨a1, a2, b1, b2, s1, s2, c1, c2⟩ := h
  have k1 := regW_ok a2 hb hb2 h1 h5
  have k2 := regW_ok b2 hb hb2 h1 h5
  have k3 := regW_ok s2 hb hb2 h1 h5
  simp only [triGood, vlike, Reg.ok, Bool.and_eq_true, decide_eq_true_eq, beq_iff_eq]
  rw [a1, b1, s1, hr, hl, k1, k2, k3, a2.1, b2.1, s2.1, betB_iff]
  exact ⟨⟨⟨⟨⟨rfl, rfl⟩, rfl⟩, ⟨rfl, rfl⟩, rfl⟩, ⟨rfl, rfl⟩, rfl⟩, c1, c2⟩
theorem vtrials_of {base : Int} {width : Nat} {ts : List Tri} (h : ∀ t ∈ ts, TrOK base width t) (hb : 2 ≤ base) (hb2 : base ≤ 10) (h1 : 1 ≤ width) (h5 : width ≤ 5) (h0 : 1 ≤ ts.length) (h60 : ts.length ≤ 60) : vtrials ts = true := by
  have hh := h ts[0] (List.getElem_mem (by omega))
  simp only [vtrials, Bool.and_eq_true, List.all_eq_true]
  refine ⟨fun t ht => trok_good (h t ht) hb hb2 h1 h5 ?_ ?_, by rw [betB_iff]; omega⟩
  · rw [headD_get (by omega)]; exact hh.1
  · rw [headD_get (by omega)]; exact hh.2.1.1
theorem ownF_rl {w : World} {base n c : Nat} {A : Option Addr} {fs : List Flt} (h : OwnF w base (.slice A n c) fs) : RL FltM 2 w A fs.length fs := by
  obtain ⟨A', c', e, h2⟩ := h.reads
  injection e with e _ _
  rw [e]; exact h2
end Go.Proofs.YtgpmngcemnnpmaaDoor

namespace Go.Proofs.YtgpmngcemnnpmaaDoor
open Go.RowKit Go.Sort
def hasL (own : List Flt) (l : Nat) : Bool := own.any (fun f => f.lever == (l : Int))
/-- how often lever l is in the faults -/
def cntL (fs : List Flt) (l : Nat) : Nat := fs.countP (fun f => f.lever == (l : Int))
/-- the levers below n that are in all lists -/
def sus (L : List (List Flt)) (n : Nat) : List Int := ((List.range n).filter (fun l => L.all (fun own => hasL own l))).map (fun (l : Nat) => (l : Int))
theorem cnt_own {own : List Flt} (ha : Asc own) (hl : own.length ≤ 2) (l : Nat) : cntL own l = if hasL own l then 1 else 0 := by
  match own, hl with
  | [], _ => rfl
  | [f], _ => by_cases h : f.lever = (l : Int) <;> simp [cntL, hasL, h]
  | [f, g], _ =>
    have h1 := ha 0 (by simp)
    simp only [List.getElem_cons_zero, List.getElem_cons_succ] at h1
    by_cases h : f.lever = (l : Int)
    · have : g.lever ≠ (l : Int) := by omega
      simp [cntL, hasL, h, this]
    · by_cases h2 : g.lever = (l : Int) <;> simp [cntL, hasL, h, h2]
theorem cnt_flat (L : List (List Flt)) (l : Nat) (ha : ∀ own ∈ L, Asc own ∧ own.length ≤ 2) : cntL L.flatten l = L.countP (fun own => hasL own l) := by
  induction L with
  | nil => rfl
  | cons o L ih =>
    obtain ⟨h1, h2⟩ := ha o (List.mem_cons_self ..)
    have h3 := ih (fun x hx => ha x (List.mem_cons_of_mem _ hx))
    have h4 := cnt_own h1 h2 l
    unfold cntL at h3 h4 ⊢
    rw [List.flatten_cons, List.countP_append, h3, h4, List.countP_cons]
    omega
theorem cnt_all (L : List (List Flt)) (l : Nat) (ha : ∀ own ∈ L, Asc own ∧ own.length ≤ 2) : (cntL L.flatten l = L.length) ↔ L.all (fun own => hasL own l) = true := by
  rw [cnt_flat L l ha, List.countP_eq_length, List.all_eq_true]
theorem cnt_le (L : List (List Flt)) (l : Nat) (ha : ∀ own ∈ L, Asc own ∧ own.length ≤ 2) : cntL L.flatten l ≤ L.length := by
  rw [cnt_flat L l ha]; exact List.countP_le_length
theorem found_ok {ts : List Tri} {n0 m : Nat} {own : List Flt} (h : own ∈ found ts n0 m) (hm : m ≤ 2) : GoodF n0 own ∧ Asc own ∧ own.length ≤ 2 := by
  obtain ⟨h1, h2, h3⟩ := fsets_ok n0 m own (List.mem_filter.1 h).1
  exact ⟨h1, h2, by omega⟩
/-- levers at n and above are in no list -/
theorem sus_up {ts : List Tri} {n0 m : Nat} (hm : m ≤ 2) (hn : n0 ≤ 6) (hne : found ts n0 m ≠ []) : sus (found ts n0 m) 6 = sus (found ts n0 m) n0 := by
  unfold sus
  congr 1
  have hf : ∀ l, n0 ≤ l → (found ts n0 m).all (fun own => hasL own l) = false := by
    intro l hl
    obtain ⟨own, rest, he⟩ := List.exists_cons_of_ne_nil hne
    have hmem : own ∈ found ts n0 m := by rw [he]; exact List.mem_cons_self ..
    obtain ⟨hg, -, -⟩ := found_ok hmem hm
    rw [List.all_eq_false]
    refine ⟨own, hmem, ?_⟩
    have : hasL own l = false := by
      unfold hasL
      rw [List.any_eq_false]
      intro f hf
      obtain ⟨-, -, q1, q2⟩ := hg f hf
      simp only [beq_iff_eq]
      omega
    simp [this]
  obtain ⟨d, hd⟩ : ∃ d, 6 = n0 + d := ⟨6 - n0, by omega⟩
  have hz : ((List.range d).map (n0 + ·)).filter (fun l => (found ts n0 m).all fun own => hasL own l) = [] := by
    rw [List.filter_eq_nil_iff]
    intro a ha
    obtain ⟨i, -, rfl⟩ := List.mem_map.1 ha
    rw [hf _ (by omega)]
    simp
  rw [hd, List.range_add, List.filter_append, hz, List.append_nil]
def scode (ts : List Tri) (f : Int) : Int := if bcode ts f = 0 then (if found ts (wid ts) f.toNat = [] then 3 else 0) else bcode ts f
def slist (ts : List Tri) (f : Int) : List Int := if bcode ts f = 0 then (if found ts (wid ts) f.toNat = [] then [] else sus (found ts (wid ts) f.toNat) (wid ts)) else []
theorem sus_succ (L : List (List Flt)) (k : Nat) : sus L (k + 1) = sus L k ++ (if L.all (fun own => hasL own k) then [(k : Int)] else []) := by
  unfold sus
  rw [List.range_succ, List.filter_append, List.map_append]
  by_cases h : L.all (fun own => hasL own k) = true
  · simp [h]
  · simp [h]
theorem sus_len (L : List (List Flt)) (k : Nat) : (sus L k).length ≤ k := by
  unfold sus
  rw [List.length_map]
  have := List.length_filter_le (fun l => L.all (fun own => hasL own l)) (List.range k)
  simpa using this
end Go.Proofs.YtgpmngcemnnpmaaDoor

namespace Go.Proofs.YtgpmngcemnnpmaaDoor
open Go.RowKit Go.Sort
theorem Sets.at_ {w : World} {B n c : Nat} {A : Option Addr} {L : List (List Flt)} (h : Sets w B (.slice A n c) L) (h0 : 0 < L.length) :
    ∃ aS : Addr, A = some aS ∧ B ≤ aS.block ∧ aS.block < w.heap.size ∧ ∀ (k : Nat) (hk : k < L.length), ∃ gl cl, w.cell? (aS.add k) = some (.slice (some ⟨gl, 0, none⟩) L[k].length cl) ∧ RL FltM 2 w (some ⟨gl, 0, none⟩) L[k].length L[k] := by
  obtain ⟨aS, gl, cl, hA, h1, h2, -, -⟩ := h.elem h0
  subst hA
  refine ⟨aS, rfl, h1, h2, fun k hk => ?_⟩
  obtain ⟨aS', gl', cl', e, -, -, h4, h5⟩ := h.elem hk
  injection e with e
  subst e
  exact ⟨gl', cl', h4, h5.rl'⟩
theorem lever_at {w : World} {gl n j : Nat} {own : List Flt} (h : RL FltM 2 w (some ⟨gl, 0, none⟩) n own) (hj : j < n) : ∃ h : j < own.length, gl < w.heap.size ∧ w.cell? ⟨gl, j * 2, none⟩ = some (.int .i64 own[j].kind) ∧ w.cell? ⟨gl, j * 2 + 1, none⟩ = some (.int .i64 own[j].lever) := by
  obtain ⟨ad, e, hlt, hk, f1, f2⟩ := h.at_ hj
  injection e with e
  subst e
  rw [add_zero_block] at f1 f2
  exact ⟨hk, hlt, f1, f2⟩
theorem any_take_succ {own : List Flt} {j : Nat} (h : j < own.length) (p : Flt → Bool) : (own.take (j + 1)).any p = ((own.take j).any p || p own[j]) := by
  rw [List.take_succ_eq_append_getElem h, List.any_append]; simp
theorem allL_take_succ {L : List (List Flt)} {j : Nat} (h : j < L.length) (p : List Flt → Bool) : (L.take (j + 1)).all p = ((L.take j).all p && p L[j]) := by
  rw [List.take_succ_eq_append_getElem h, List.all_append]; simp
end Go.Proofs.YtgpmngcemnnpmaaDoor

namespace Go.Proofs.YtgpmngcemnnpmaaDoor
open Go.RowKit Go.Sort
/-- the first list that explains the trials, from k faults on -/
def dpick (ts : List Tri) (n0 : Nat) : Nat → Nat → List Flt × Int
  | _, 0 => ([], 3)
  | k, j + 1 => if h : found ts n0 k = [] then dpick ts n0 (k + 1) j else ((found ts n0 k).head h, 0)
def dres (ts : List Tri) : List Flt × Int := if bcode ts 0 = 0 then dpick ts (wid ts) 0 3 else ([], bcode ts 0)
theorem dpick_len (ts : List Tri) (n0 : Nat) : ∀ (j k : Nat), k + j ≤ 3 → (dpick ts n0 k j).1.length ≤ 2
  | 0, _, _ => by simp [dpick]
  | j + 1, k, h => by
    unfold dpick
    split
    · exact dpick_len ts n0 j (k + 1) (by omega)
    · rename_i hne
      exact (found_ok (List.head_mem hne) (show k ≤ 2 by omega)).2.2
theorem dres_len (ts : List Tri) : (dres ts).1.length ≤ 2 := by
  unfold dres
  split
  · exact dpick_len _ _ _ _ (by omega)
  · simp
end Go.Proofs.YtgpmngcemnnpmaaDoor

namespace Go.Proofs.YtgpmngcemnnpmaaDoor
open Go.RowKit Go.Sort
theorem a2Long_any (A : Option Addr) (n c : Nat) (w : World) (hn : n ≤ 9223372036854775807) :
    Calls Tryd.prog 6 #[.slice A n c, .slice none 0 0] w fun e w' => e = .returned (.bool (decide (3000 < n))) ∧ w = w' := by
  by_cases h : 3000 < n
  · have h1 : (3000 : Int) < (n : Int) := by omega
    have HF : Hid (decide (3000 < n) = true) := by simp [Hid, h]
    have hd : decide ((3000 : Int) < (n : Int)) = true := decide_eq_true h1
    go_enter Tryd.func6, Tryd.ntmps6
    go_wp2
    go_ret
    exact ⟨by first | exact ret_bool HF.out.symm | rfl, rfl⟩
  · have h1 : ¬ (3000 : Int) < (n : Int) := by omega
    have HF : Hid (decide (3000 < n) = false) := by simp [Hid, h]
    have hd : decide ((3000 : Int) < (n : Int)) = false := decide_eq_false h1
    have hd2 : decide (3000 < n) = false := decide_eq_false h
    go_enter Tryd.func6, Tryd.ntmps6
    go_wp2
    go_ret
    exact ⟨by first | exact ret_bool HF.out.symm | rfl, rfl⟩
theorem drawn_bcode {w : World} {base : Nat} {v : Value} {ts : List Tri} (h : Drawn w base v ts) {f : Int} (h0 : 0 ≤ f) (h2 : f ≤ 2) : bcode ts f = 0 := by
  obtain ⟨-, hv, -, hw⟩ := h
  unfold wid at hw
  unfold bcode
  rw [if_neg (by rw [hv]; decide), if_neg (by omega), if_neg (by rw [show betB f 0 2 = true from betB_iff.2 ⟨h0, h2⟩]; decide)]
set_option maxHeartbeats 800000 in
theorem specExplains_true (A : Option Addr) (n c : Nat) (ts : List Tri) (F : Option Addr) (m d : Nat) (fs : List Flt) (w : World) (hr : RL TriM 7 w A n ts) (hs : ∀ t ∈ ts, SmallTri t) (hv : vtrials ts = true) (hT : ∀ t ∈ ts, TOK t ∧ t.a.digits.length = wid ts) (h1 : 1 ≤ wid ts) (h6 : wid ts ≤ 6)
    (hf : RL FltM 2 w F m fs) (hg : GoodF (wid ts) fs) (ha : Asc fs) (hx : vexpl ts fs = true) (hn0 : 0 < n) (hn : n ≤ 1000) (hm : m ≤ 1000) :
    Calls Tryd.prog 11 #[.slice A n c, .slice F m d] w fun e w' => e = .returned (.bool true) ∧ Below w.heap.size w w' := by
  have KV := Lib.hid (calls_val (l20Ok_any A n c ts w hr hs (by omega)) (congrArg Value.bool hv))
  have KX := Lib.hid (fun W (hW : Below w.heap.size w W) => calls_val (l20All_any A n c ts F m d fs (wid ts) W (hr.below steady_TriM hW) hT (hf.below steady_FltM hW) hg (by omega) (by omega)) (congrArg Value.bool hx))
  have KO := Lib.hid (fun W (hW : Below w.heap.size w W) => l08Ok_true (wid ts) F m d fs W (hf.below steady_FltM hW) hg ha h1 (by omega) (by omega))
  have HL := Lib.hid hr.1
  obtain ⟨ad, hA, hlt, hk0, ht0⟩ := hr.at_ hn0
  rw [Nat.zero_mul, addr_add_zero] at ht0
  obtain ⟨A1, c1, A2, c2, A3, c3, ⟨g1, g2, -, -, -, -, -⟩, -, -, -⟩ := ht0.cells
  have HWD := (hT ts[0] (List.getElem_mem _)).2
  rw [HWD] at g2
  have hi2 : (0 : Int) < (n : Int) := by omega
  subst hA
  clear hv hx hT hs ha hg ht0 g1 HWD
  go_enter Tryd.func11, Tryd.ntmps11
  go_wp2_with (first | (go_at_call 42; refine KV.out.mono ?_; rintro e w1 ⟨rfl, q, rfl⟩) | (go_at_call 43; refine (KO.out _ (below_drewN (Below.refl _ _) _)).mono ?_; rintro e w1 ⟨rfl, q2, rfl⟩) | (go_at_call 44; refine (KX.out _ (below_drewN (Below.refl _ _) _)).mono ?_; rintro e w2 ⟨rfl, hw2⟩))
  go_ret
  exact ⟨rfl, (below_drewN (Below.refl _ _) _).trans hw2⟩
end Go.Proofs.YtgpmngcemnnpmaaDoor

namespace Go.Proofs.YtgpmngcemnnpmaaDoor
open Go.RowKit Go.Sort
set_option maxRecDepth 100000 in
set_option maxHeartbeats 3200000 in
theorem WrongTrials_any (A : Option Addr) (n c : Nat) (ts : List Tri) (w : World) (hr : RL TriM 7 w A n ts) (hs : ∀ t ∈ ts, SmallTri t) (hv : vtrials ts = true) (hT : ∀ t ∈ ts, TOK t) (hn : n ≤ 1000) :
    Calls Tryd.prog 13 #[.slice A n c] w fun e w' => ∃ A' c' ds, e = .returned (.tuple #[.slice A' ds.length c', .int .i64 0]) ∧ OwnI w' w.heap.size (.slice A' ds.length c') ds ∧ (ds.length = 0 ↔ vexpl ts [] = true) ∧ Below w.heap.size w w' := by
  have KV := Lib.hid (calls_val (ValidTrials_any A n c ts w hr hs (by omega)) (congrArg Value.bool hv))
  have HL := Lib.hid hr.1
  have HT := Lib.hid hT
  clear hv hT hs
  go_enter Tryd.func13, Tryd.ntmps13
  go_wp2_with (go_at_call 41; refine KV.out.mono ?_; rintro e w1 ⟨rfl, hw1⟩)
  have hz1 := hw1.size
  go_loopw [13, 4] (fun kk out wr => ∃ (k : Nat) (ds : List Int), k ≤ n ∧ kk = .int .i64 k ∧ OwnI wr w.heap.size out ds ∧ ds.length ≤ k ∧ (ds.length = 0 ↔ (ts.take k).all (fun t => expl t []) = true) ∧ Below w.heap.size w wr) (fun kk _ _ => n - (intOf kk).toNat)
  case atStart => exact ⟨0, [], Nat.zero_le _, rfl, own_lit (n := 0) (heap_alloc_new _ _) hz1 rfl (by decide), Nat.le_refl _, by simp, hw1.alloc hz1 _⟩
  case round =>
    obtain ⟨k, ds, hk, rfl, hown, hdl, hiff, hbr⟩ := hrel
    have HO := Lib.hid hown
    have HI := Lib.hid hiff
    have HBR := Lib.hid hbr
    have hwz := hbr.size
    clear hown hiff hbr
    by_cases hkn : k < n
    · obtain ⟨ad, hA, hlt, hkl, htk⟩ := (hr.below steady_TriM HBR.out).at_ hkn
      obtain ⟨A1, c1, A2, c2, A3, c3, ⟨g1, g2, g3, g4, g5, g6, g7⟩, r1, r2, r3⟩ := htk.cells
      have hi0 : (0 : Int) ≤ (k : Int) := by omega
      have hi1 : (k : Int) < (n : Int) := by omega
      have hb1 : Below wr.heap.size wr (wr.alloc (.cells #[.int .i64 ts[k].a.base, .slice A1 ts[k].a.digits.length c1, .int .i64 ts[k].b.base, .slice A2 ts[k].b.digits.length c2, .int .i64 ts[k].s.base, .slice A3 ts[k].s.digits.length c3, .int .i64 ts[k].carry] 43)) := (Below.refl _ _).alloc (Nat.le_refl _) _
      have HAS := Lib.hid (all_take_succ (p := fun t => expl t []) hkl)
      have KX := fun W (hW : Below wr.heap.size wr W) => explained_any ts[k] A1 A2 A3 c1 c2 c3 none 0 0 [] W (r1.below hW) (r2.below hW) (r3.below hW) ⟨rfl, fun h => absurd h (by omega)⟩ (HT.out _ (List.getElem_mem _)) (fun f hf => absurd hf List.not_mem_nil) (by omega)
      subst hA
      clear htk r1 r2 r3
      rcases hx : expl ts[k] [] with _ | _
      all_goals
        rw [hx] at KX
        have HX := Lib.hid hx
        have KX := Lib.hid KX
        clear hx
        go_wp2_with fail
        refine (KX.out _ hb1).mono ?_; rintro e w3 ⟨rfl, hw3⟩
        have hz3 : wr.heap.size ≤ w3.heap.size := by have := hw3.size; have := hb1.size; omega
        have hb3 : Below wr.heap.size wr w3 := hb1.trans (hw3.mono hb1.size)
        have HB3 := Lib.hid hb3
        have HO3 := Lib.hid (HO.out.below hb3)
        have HBR3 := Lib.hid (HBR.out.trans (hb3.mono hwz))
        clear hw3 hb3
      · have HOB := Lib.hid (HO3.out.below ((Below.refl _ _).alloc (Nat.le_refl _) (.cells #[.int .i64 (k : Int)] 2)))
        have hbb := HBR3.out.alloc (by omega) (.cells #[.int .i64 (k : Int)] 2)
        go_wp2_with (at_builtin; refine app1I rfl _ _ rfl w.heap.size _ ds rfl HOB.out w3.heap.size (k : Int) rfl (heap_alloc_new _ _) (by omega) (by simp; omega) ?_; intro v5 w6 hown5 hg5 hv5)
        have hbf := hbb.grown hg5 (by simp; omega) (ownI_lo HOB.out)
        have HOF := Lib.hid hown5; clear hown5
        have HBF := Lib.hid hbf; clear hbf
        go_roundw
        case rel => exact ⟨k + 1, ds ++ [(k : Int)], by omega, by go_num, HOF.out, by rw [List.length_append, List.length_cons, List.length_nil]; omega, by rw [HAS.out, HX.out]; simp, HBF.out⟩
        case measure => simp [intOf]; omega
      · go_wp2
        go_roundw
        case rel => exact ⟨k + 1, ds, by omega, by go_num, HO3.out, by omega, by rw [HAS.out, HX.out, Bool.and_true]; exact HI.out, HBR3.out⟩
        case measure => simp [intOf]; omega
    · have HF : Hid (ds.length = 0 ↔ vexpl ts [] = true) := by
        have h := HI.out
        rw [List.take_of_length_le (by have := HL.out; omega)] at h
        exact h
      obtain ⟨AO, cO, rfl, -⟩ := HO.out.reads
      go_wp2
      refine bodyPost_ret (v := .tuple #[.slice AO ds.length cO, .int .i64 0]) (by simp [results, Tryd.results13, go_sem]) rfl ⟨_, _, ds, rfl, HO.out, HF.out, HBR.out⟩
end Go.Proofs.YtgpmngcemnnpmaaDoor

namespace Go.Proofs.YtgpmngcemnnpmaaDoor
open Go.RowKit Go.Sort
theorem sameR_refl (r : Reg) : sameR r r = true := by simp [sameR]
theorem kindAt_nil (j : Int) : kindAt [] j = 0 := rfl
theorem kindAt_one (f : Flt) (j : Int) : kindAt [f] j = if f.lever = j then f.kind else 0 := rfl
def sameT (t u : Tri) : Bool := sameR t.a u.a && sameR t.b u.b && sameR t.s u.s && (t.carry == u.carry)
theorem sameR_comm (r s : Reg) : sameR r s = sameR s r := by
  unfold sameR
  rw [Bool.eq_iff_iff]
  simp only [Bool.and_eq_true, beq_iff_eq, decide_eq_true_eq]
  exact ⟨fun h => ⟨h.1.symm, h.2.symm⟩, fun h => ⟨h.1.symm, h.2.symm⟩⟩
theorem sameT_mk (b : Int) (n : Nat) (fs : List Flt) (fa fb : Int → Int) : sameT (mkT b n fs fa fb) (mkT b n [] fa fb) = expl (mkT b n fs fa fb) [] := by
  unfold sameT expl sumReg mkT
  dsimp only
  rw [digF_len, sameR_refl, sameR_refl, Bool.true_and, Bool.true_and, sameR_comm]
  congr 1
  rw [Bool.eq_iff_iff]
  simp only [beq_iff_eq]
  exact ⟨Eq.symm, Eq.symm⟩
theorem expl_mk (b : Int) (n : Nat) (fs : List Flt) (fa fb : Int → Int) : expl (mkT b n fs fa fb) fs = true := by
  unfold expl sumReg mkT
  dsimp only
  rw [digF_len, sameR_refl]
  simp
theorem stdT_mk (b : Int) (n : Nat) (i : Nat) : ∃ fa fb, (∀ k, fa k = 0 ∨ fa k = b - 1) ∧ (∀ k, fb k = 0 ∨ fb k = 1) ∧ ∀ fs, stdT b n fs i = mkT b n fs fa fb := by
  by_cases h0 : i = 0
  · exact ⟨fun _ => 0, fun _ => 0, fun _ => .inl rfl, fun _ => .inl rfl, fun fs => by unfold stdT; rw [if_pos h0]⟩
  · by_cases h1 : i ≤ n
    · refine ⟨_, _, fun k => ?_, fun k => ?_, fun fs => by unfold stdT; rw [if_neg h0, if_pos h1]⟩
      · unfold oneF; split <;> simp
      · unfold oneF; split <;> simp
    · refine ⟨_, _, fun k => ?_, fun k => ?_, fun fs => by unfold stdT; rw [if_neg h0, if_neg h1]⟩
      · unfold twoF; split
        · simp
        · split <;> simp
      · unfold oneF; split <;> simp
theorem stdTs_at (b : Int) (n : Nat) (fs : List Flt) {u i : Nat} (h : i < u) : (stdTs b n fs u).getD i default = stdT b n fs i := by
  simp [stdTs, List.getD, h]
theorem stdTs_vexpl (b : Int) (n : Nat) (fs : List Flt) (u : Nat) : vexpl (stdTs b n fs u) fs = true := by
  unfold vexpl
  rw [List.all_eq_true]
  intro t ht
  obtain ⟨i, -, rfl⟩ := List.mem_map.1 ht
  obtain ⟨fa, fb, -, -, h⟩ := stdT_mk b n i
  rw [h]; exact expl_mk ..
theorem mk_ok (b : Int) (n : Nat) (fs : List Flt) (fa fb : Int → Int) (hb : 2 ≤ b) (ha : ∀ k, fa k = 0 ∨ fa k = b - 1) (hb' : ∀ k, fb k = 0 ∨ fb k = 1) : TrOK b n (mkT b n fs fa fb) := by
  have d1 : DigB b n (digF fa n) := ⟨digF_len _ _, fun d hd => by
    obtain ⟨k, -, rfl⟩ := List.mem_map.1 hd
    rcases ha k with h | h <;> omega⟩
  have d2 : DigB b n (digF fb n) := ⟨digF_len _ _, fun d hd => by
    obtain ⟨k, -, rfl⟩ := List.mem_map.1 hd
    rcases hb' k with h | h <;> omega⟩
  have hc := carryAt_bd b (digF fa n) (digF fb n) fs n
  exact ⟨rfl, d1, rfl, d2, rfl, sumL_dig _ _ _ _ _ hb (fun d hd => (d1.2 d hd).1) (fun d hd => (d2.2 d hd).1), hc.1, hc.2⟩
theorem stdTs_ok (b : Int) (n : Nat) (fs : List Flt) (u : Nat) (hb : 2 ≤ b) : ∀ t ∈ stdTs b n fs u, TrOK b n t := fun t ht => by
  obtain ⟨i, -, rfl⟩ := List.mem_map.1 ht
  obtain ⟨fa, fb, h1, h2, h⟩ := stdT_mk b n i
  rw [h]; exact mk_ok b n fs fa fb hb h1 h2
theorem reg_ok6 {base : Int} {width : Nat} {ds : List Int} (hd : DigB base width ds) (hb : 2 ≤ base) (hb2 : base ≤ 10) (h1 : 1 ≤ width) (h5 : width ≤ 6) : vreg base ds = true := by
  rw [vreg_iff]
  have h2 := valL_pow base hb hb2 ds hd.2
  have hl := hd.1
  have h3 : 10 ^ ds.length ≤ 10 ^ 6 := Nat.pow_le_pow_right (by omega) (by omega)
  exact ⟨by omega, by omega, hd.2, by omega⟩
theorem trok_good6 {base : Int} {width : Nat} {r0 : Reg} {t : Tri} (h : TrOK base width t) (hb : 2 ≤ base) (hb2 : base ≤ 10) (h1 : 1 ≤ width) (h5 : width ≤ 6) (hr : r0.base = base) (hl : r0.digits.length = width) : triGood r0 t = true := by
  obtain ⟨a1, a2, b1, b2, s1, s2, c1, c2⟩ := h
  have k1 := reg_ok6 a2 hb hb2 h1 h5
  have k2 := reg_ok6 b2 hb hb2 h1 h5
  have k3 := reg_ok6 s2 hb hb2 h1 h5
  simp only [triGood, vlike, Reg.ok, Bool.and_eq_true, decide_eq_true_eq, beq_iff_eq]
  rw [a1, b1, s1, hr, hl, k1, k2, k3, a2.1, b2.1, s2.1, betB_iff]
  exact ⟨⟨⟨⟨⟨rfl, rfl⟩, rfl⟩, ⟨rfl, rfl⟩, rfl⟩, ⟨rfl, rfl⟩, rfl⟩, c1, c2⟩
theorem vtrials6 {base : Int} {width : Nat} {ts : List Tri} (h : ∀ t ∈ ts, TrOK base width t) (hb : 2 ≤ base) (hb2 : base ≤ 10) (h1 : 1 ≤ width) (h5 : width ≤ 6) (h0 : 1 ≤ ts.length) (h60 : ts.length ≤ 60) : vtrials ts = true := by
  have hh := h ts[0] (List.getElem_mem (by omega))
  simp only [vtrials, Bool.and_eq_true, List.all_eq_true]
  refine ⟨fun t ht => trok_good6 (h t ht) hb hb2 h1 h5 ?_ ?_, by rw [betB_iff]; omega⟩
  · rw [headD_get (by omega)]; exact hh.1
  · rw [headD_get (by omega)]; exact hh.2.1.1
/-- the first place where p fails heads the list -/
def Fst (p : Nat → Bool) (k : Nat) (ds : List Int) : Prop := (ds = [] ∧ ∀ i, i < k → p i = true) ∨ ∃ (i : Nat) (r : List Int), ds = (i : Int) :: r ∧ i < k ∧ p i = false ∧ ∀ j, j < i → p j = true
theorem Fst.zero (p : Nat → Bool) : Fst p 0 [] := .inl ⟨rfl, fun i h => absurd h (by omega)⟩
theorem Fst.yes {p : Nat → Bool} {k : Nat} {ds : List Int} (h : Fst p k ds) (hp : p k = true) : Fst p (k + 1) ds := by
  rcases h with ⟨rfl, h⟩ | ⟨i, r, rfl, h1, h2, h3⟩
  · refine .inl ⟨rfl, fun i hi => ?_⟩
    by_cases e : i = k
    · rw [e]; exact hp
    · exact h i (by omega)
  · exact .inr ⟨i, r, rfl, by omega, h2, h3⟩
theorem Fst.no {p : Nat → Bool} {k : Nat} {ds : List Int} (h : Fst p k ds) (hp : p k = false) : Fst p (k + 1) (ds ++ [(k : Int)]) := by
  rcases h with ⟨rfl, h⟩ | ⟨i, r, rfl, h1, h2, h3⟩
  · exact .inr ⟨k, [], rfl, by omega, hp, h⟩
  · exact .inr ⟨i, r ++ [(k : Int)], rfl, by omega, h2, h3⟩
/-- what FirstDifference tells -/
def FD (p : Nat → Bool) (n : Nat) (r : Int × Int) : Prop := (∃ i : Nat, r = ((i : Int), 0) ∧ i < n ∧ p i = false ∧ ∀ j, j < i → p j = true) ∨ (r = (0, 3) ∧ ∀ j, j < n → p j = true)
theorem FD.fst {p : Nat → Bool} {n : Nat} {r : Int × Int} {ds : List Int} (h : FD p n r) (h2 : Fst p n ds) : (r.2 = 3 ∧ ds = []) ∨ (r.2 = 0 ∧ ∃ q, ds = r.1 :: q) := by
  rcases h with ⟨i, rfl, h1, h2', h3⟩ | ⟨rfl, h1⟩
  · rcases h2 with ⟨rfl, h4⟩ | ⟨k, q, rfl, h4, h5, h6⟩
    · rw [h4 i h1] at h2'; cases h2'
    · have e : i = k := by
        rcases Nat.lt_trichotomy i k with h | h | h
        · rw [h6 i h] at h2'; cases h2'
        · exact h
        · rw [h3 k h] at h5; cases h5
      subst e
      exact .inr ⟨rfl, q, rfl⟩
  · rcases h2 with ⟨rfl, h4⟩ | ⟨k, q, rfl, h4, h5, h6⟩
    · exact .inl ⟨rfl, rfl⟩
    · rw [h1 k h4] at h5; cases h5
theorem FD.congr {p q : Nat → Bool} {n : Nat} {r : Int × Int} (h : FD p n r) (e : ∀ i, i < n → p i = q i) : FD q n r := by
  rcases h with ⟨i, rfl, h1, h2, h3⟩ | ⟨rfl, h1⟩
  · exact .inl ⟨i, rfl, h1, by rw [← e i h1]; exact h2, fun j hj => by rw [← e j (by omega)]; exact h3 j hj⟩
  · exact .inr ⟨rfl, fun j hj => by rw [← e j hj]; exact h1 j hj⟩
theorem FD.all {p : Nat → Bool} {n : Nat} {r : Int × Int} (h : FD p n r) (e : ∀ i, i < n → p i = true) : r.2 = 3 := by
  rcases h with ⟨i, rfl, h1, h2, h3⟩ | ⟨rfl, h1⟩
  · rw [e i h1] at h2; cases h2
  · rfl
theorem FD.some {p : Nat → Bool} {n : Nat} {r : Int × Int} (h : FD p n r) {i : Nat} (hi : i < n) (e : p i = false) : r.2 = 0 := by
  rcases h with ⟨i, rfl, h1, h2, h3⟩ | ⟨rfl, h1⟩
  · rfl
  · rw [h1 i hi] at e; cases e
/-- a carry that differs shows -/
theorem carry_shows (b : Int) (n : Nat) (fs : List Flt) (fa fb : Int → Int) (l : Nat) (hb : 2 ≤ b) (hl : l < n) (ha : fa ((l + 1 : Nat) : Int) = 0) (hb' : fb ((l + 1 : Nat) : Int) = 0)
    (hc : carryAt b (digF fa n) (digF fb n) fs (l + 1) ≠ carryAt b (digF fa n) (digF fb n) [] (l + 1)) : sameT (mkT b n fs fa fb) (mkT b n [] fa fb) = false := by
  by_cases e : l + 1 = n
  · subst e
    simp only [sameT, mkT, beq_eq_false_iff_ne.2 hc, Bool.and_false]
  · have hs : sumL b (digF fa n) (digF fb n) fs n ≠ sumL b (digF fa n) (digF fb n) [] n := fun h => by
      have h2 : (sumL b (digF fa n) (digF fb n) fs n)[l + 1]? = (sumL b (digF fa n) (digF fb n) [] n)[l + 1]? := by rw [h]
      have g : ∀ f : Int → Int, f ((l + 1 : Nat) : Int) = 0 → (digF f n).getD (l + 1) 0 = 0 := fun f hf => by
        have : l + 1 < n := by omega
        simp [digF, List.getD, this, -Int.natCast_add, hf]
      simp only [sumL, List.getElem?_map, List.getElem?_range (show l + 1 < n by omega), Option.map_some, Option.some.injEq, sumD] at h2
      rw [g fa ha, g fb hb'] at h2
      have c1 := carryAt_bd b (digF fa n) (digF fb n) fs (l + 1)
      have c2 := carryAt_bd b (digF fa n) (digF fb n) [] (l + 1)
      rw [Int.tmod_eq_emod_of_nonneg (by omega), Int.tmod_eq_emod_of_nonneg (by omega), Int.emod_eq_of_lt (by omega) (by omega), Int.emod_eq_of_lt (by omega) (by omega)] at h2
      omega
    simp [sameT, mkT, sameR, hs]
theorem carry_late (b : Int) (A B : List Int) : ∀ k, carryAt b A B [⟨3, 0⟩] k = carryAt b A B [] k
  | 0 => rfl
  | k + 1 => by
    unfold carryAt
    rw [carry_late b A B k, kindAt_one, kindAt_nil]
    by_cases hk : k = 0
    · subst hk
      simp [carryAt, cstep]
    · rw [if_neg (by show ¬ (0 : Int) = (k : Int); omega)]
theorem late_same (b : Int) (n i : Nat) : sameT (stdT b n [⟨3, 0⟩] i) (stdT b n [] i) = true := by
  obtain ⟨fa, fb, -, -, h⟩ := stdT_mk b n i
  rw [h, h]
  have : mkT b n [⟨3, 0⟩] fa fb = mkT b n [] fa fb := by
    unfold mkT sumL
    rw [carry_late]
    congr 2
    refine List.map_congr_left fun k _ => ?_
    unfold sumD
    rw [carry_late]
  rw [this]
  simp [sameT, sameR_refl]
theorem digF_getD (f : Int → Int) {n l : Nat} (h : l < n) : (digF f n).getD l 0 = f (l : Int) := by simp [digF, List.getD, h]
theorem single_seen (b : Int) (n l : Nat) (kd : Int) (hb : 2 ≤ b) (hl : l < n) (h1 : 1 ≤ kd) (h3 : kd ≤ 3) (hs : kd ≠ 3 ∨ 0 < l) : ∃ i, i < 2 * n ∧ sameT (stdT b n [⟨kd, l⟩] i) (stdT b n [] i) = false := by
  have hz : ∀ (f : Int → Int) k, (∀ j, f j = 0 ∨ f j = 1) → 0 ≤ (digF f n).getD k 0 := fun f k hf => by
    by_cases hk : k < n
    · rw [digF_getD f hk]; rcases hf k with h | h <;> omega
    · rw [List.getD_eq_getElem?_getD, List.getElem?_eq_none (by rw [digF_len]; omega)]; exact Int.le_refl _
  rcases (show kd = 1 ∨ kd = 2 ∨ kd = 3 by omega) with rfl | rfl | rfl
  · refine ⟨l + 1, by omega, ?_⟩
    have e : ∀ fs, stdT b n fs (l + 1) = mkT b n fs (oneF (l : Int) (b - 1)) (oneF (l : Int) 1) := fun fs => by
      unfold stdT
      rw [if_neg (by omega), if_pos (by omega), show (((l + 1 : Nat) : Int) - 1) = (l : Int) by omega]
    rw [e, e]
    refine carry_shows b n _ _ _ l hb hl (by unfold oneF; rw [if_neg (by omega)]) (by unfold oneF; rw [if_neg (by omega)]) ?_
    have hc := carryAt_bd b (digF (oneF (l : Int) (b - 1)) n) (digF (oneF (l : Int) 1) n) [] l
    unfold carryAt
    rw [kindAt_one, kindAt_nil, if_pos rfl, digF_getD _ hl, digF_getD _ hl]
    have e1 : oneF (l : Int) (b - 1) (l : Int) = b - 1 := by unfold oneF; rw [if_pos rfl]
    have e2 : oneF (l : Int) 1 (l : Int) = 1 := by unfold oneF; rw [if_pos rfl]
    rw [e1, e2]
    unfold cstep
    simp only [reduceIte, Int.reduceEq]
    rw [if_neg (by omega)]
    decide
  · refine ⟨0, by omega, ?_⟩
    have e : ∀ fs, stdT b n fs 0 = mkT b n fs (fun _ => 0) (fun _ => 0) := fun fs => rfl
    rw [e, e]
    refine carry_shows b n _ _ _ l hb hl rfl rfl ?_
    have g : ∀ k, (digF (fun _ => 0) n).getD k 0 = 0 := fun k => by
      by_cases hk : k < n
      · rw [digF_getD _ hk]
      · rw [List.getD_eq_getElem?_getD, List.getElem?_eq_none (by rw [digF_len]; omega)]; rfl
    have h0 : ∀ k, carryAt b (digF (fun _ => 0) n) (digF (fun _ => 0) n) [] k = 0 := fun k => by
      induction k with
      | zero => rfl
      | succ k ih =>
        unfold carryAt
        rw [ih, g, kindAt_nil]
        unfold cstep
        simp only [reduceIte, Int.reduceEq]
        rw [if_pos (by omega)]
    rw [h0]
    unfold carryAt
    rw [kindAt_one, if_pos rfl]
    unfold cstep
    simp
  · have hl0 : 0 < l := hs.resolve_left (fun h => h rfl)
    obtain ⟨q, rfl⟩ : ∃ q, l = q + 1 := ⟨l - 1, by omega⟩
    refine ⟨n + (q + 1), by omega, ?_⟩
    have e : ∀ fs, stdT b n fs (n + (q + 1)) = mkT b n fs (twoF ((q + 1 : Nat) : Int) (b - 1)) (oneF (q : Int) 1) := fun fs => by
      unfold stdT
      rw [if_neg (by omega), if_neg (by omega), show (((n + (q + 1) : Nat) : Int) - n) = ((q + 1 : Nat) : Int) by omega, show (((q + 1 : Nat) : Int) - 1) = (q : Int) by omega]
    rw [e, e]
    refine carry_shows b n _ _ _ (q + 1) hb hl (by unfold twoF; rw [if_neg (by omega), if_neg (by omega)]) (by unfold oneF; rw [if_neg (by omega)]) ?_
    have hc := carryAt_bd b (digF (twoF ((q + 1 : Nat) : Int) (b - 1)) n) (digF (oneF (q : Int) 1) n) [] q
    have c1 : carryAt b (digF (twoF ((q + 1 : Nat) : Int) (b - 1)) n) (digF (oneF (q : Int) 1) n) [] (q + 1) = 1 := by
      have e1 : twoF ((q + 1 : Nat) : Int) (b - 1) (q : Int) = b - 1 := by unfold twoF; rw [if_neg (by omega), if_pos (by omega)]
      have e2 : oneF (q : Int) 1 (q : Int) = 1 := by unfold oneF; rw [if_pos rfl]
      unfold carryAt
      rw [kindAt_nil, digF_getD _ (show q < n by omega), digF_getD _ (show q < n by omega), e1, e2]
      unfold cstep
      simp only [reduceIte, Int.reduceEq]
      rw [if_neg (by omega)]
    have e1 : twoF ((q + 1 : Nat) : Int) (b - 1) ((q + 1 : Nat) : Int) = b - 1 := by unfold twoF; rw [if_pos rfl]
    have e2 : oneF (q : Int) 1 ((q + 1 : Nat) : Int) = 0 := by unfold oneF; rw [if_neg (by omega)]
    have r1 : carryAt b (digF (twoF ((q + 1 : Nat) : Int) (b - 1)) n) (digF (oneF (q : Int) 1) n) [] (q + 1 + 1) = 1 := by
      unfold carryAt
      rw [c1, kindAt_nil, digF_getD _ hl, digF_getD _ hl, e1, e2]
      unfold cstep
      simp only [reduceIte, Int.reduceEq]
      rw [if_neg (by omega)]
    rw [r1]
    unfold carryAt
    rw [kindAt_one, if_pos rfl, digF_getD _ hl, digF_getD _ hl, e1, e2]
    unfold cstep
    simp only [reduceIte, Int.reduceEq]
    rw [if_pos (by omega)]
    decide
end Go.Proofs.YtgpmngcemnnpmaaDoor

namespace Go.Proofs.YtgpmngcemnnpmaaDoor
open Go.RowKit Go.Sort
/-- a register's digits when a number is added, and whether it goes round -/
def shiftD (b : Int) (ds : List Int) (x : Int) : List Int := digD b ds.length (((valL b ds + x).tmod (pw b ds.length) + pw b ds.length).tmod (pw b ds.length))
def shiftB (b : Int) (ds : List Int) (x : Int) : Bool := decide (valL b ds + x < 0) || decide (pw b ds.length ≤ valL b ds + x)
theorem shiftD_len (b : Int) (ds : List Int) (x : Int) : (shiftD b ds x).length = ds.length := digD_len _ _ _
set_option maxRecDepth 100000 in
set_option maxHeartbeats 1600000 in
theorem shifted_any (b : Int) (A : Option Addr) (c : Nat) (ds : List Int) (x : Int) (w : World) (hr : RI w A ds.length ds) (hv : vreg b ds = true) (hp : pw b ds.length ≤ 1000000000001) (hx0 : -1000000000001 ≤ x) (hx1 : x ≤ 1000000000001) :
    Calls Tryd.prog 169 #[.agg #[.int .i64 b, .slice A ds.length c], .int .i64 x] w fun e w' => ∃ A' c', e = .returned (.tuple #[.agg #[.int .i64 b, .slice A' (shiftD b ds x).length c'], .bool (shiftB b ds x)]) ∧ Kn w [rowI A' c' (shiftD b ds x)] w' := by
  obtain ⟨⟨b1, b2⟩, ⟨n1, n2⟩, hd, hl⟩ := vreg_iff.1 hv
  have hp1 := pw_pos b b1 ds.length
  have hv0 := (valL_bd b b1 ds (fun d h => (hd d h).1)).1
  have KN := (fun W => values_any b A ds.length c W b1 b2 (by omega))
  have hpc : powC b ds.length = pw b ds.length := by unfold powC; rw [if_pos hp]
  rw [hpc] at KN
  have KV := (fun W (hW : Below w.heap.size w W) => value_any b A ds.length c ds W b1 b2 hd (hr.below hW) n2)
  have hsd : shiftD b ds x = digD b ds.length (((valL b ds + x).tmod (pw b ds.length) + pw b ds.length).tmod (pw b ds.length)) := rfl
  have hsb : shiftB b ds x = (decide (valL b ds + x < 0) || decide (pw b ds.length ≤ valL b ds + x)) := rfl
  obtain ⟨N, hN⟩ : ∃ N, pw b ds.length = N := ⟨_, rfl⟩
  obtain ⟨V, hV⟩ : ∃ V, valL b ds = V := ⟨_, rfl⟩
  rw [hN] at KN hsd hsb hp hp1
  rw [hV] at KV hsd hsb hv0 hl
  obtain ⟨S, hS⟩ : ∃ S, V + x = S := ⟨_, rfl⟩
  rw [hS] at hsd hsb
  have hSb : -1000000000001 ≤ S ∧ S ≤ 2000000000001 := by omega
  have hm1 : -N < S.tmod N ∧ S.tmod N < N := by
    have h1 := Int.tmod_lt_of_pos S (show 0 < N by omega)
    have h2 := Int.lt_tmod_of_pos S (show 0 < N by omega)
    omega
  have hm2 : 0 ≤ (S.tmod N + N).tmod N ∧ (S.tmod N + N).tmod N < N := ⟨Int.tmod_nonneg _ (by omega), Int.tmod_lt_of_pos _ (by omega)⟩
  have hwr : IntKind.i64.wrap (S.tmod N + N) = S.tmod N + N := wrapI64 (by omega)
  have nz1 : N ≠ 0 := by omega
  have nz2 : (N == 0) = false := by simp; omega
  have nz3 : ¬ N = 0 := by omega
  have KW := (fun W => withValue_any b A ds.length c ((S.tmod N + N).tmod N) W b1 b2 (by omega) hm2.1 (by omega))
  rw [← hsd] at KW
  obtain ⟨es, hes⟩ : ∃ es, shiftD b ds x = es := ⟨_, rfl⟩
  rw [hes] at KW ⊢
  obtain ⟨bell, hbl⟩ : ∃ e, shiftB b ds x = e := ⟨_, rfl⟩
  have HSB := Lib.hid (hbl.symm.trans hsb)
  rw [hbl]
  have KN := Lib.hid KN
  have KV := Lib.hid KV
  have KW := Lib.hid KW
  have HSS := Lib.hid hS
  have hV2 : -9223372036854775808 ≤ V + x ∧ V + x ≤ 9223372036854775807 := by omega
  clear hsd hsb hes hbl hr hv hd hl hpc hN hV hS
  go_enter Tryd.func169, Tryd.ntmps169
  go_wp2_with (first | (refine wpList.kn ((Kn.nil w).al [.int .i64 b, .slice A ds.length c] 41) ?_; intro w1 hK1))
  have hK2 := hK1.al [.int .i64 0, .slice none 0 0] 41
  generalize w1.alloc (.cells #[.int .i64 0, .slice none 0 0] 41) = w2 at hK2 ⊢
  have HG := Lib.hid (box2 hK2.drew.drop)
  go_cut [6, 7] (fun pp oo wx => pp = .int .i64 N ∧ oo = .int .i64 S ∧ Kn w [.blk w1.heap.size [.int .i64 0, .slice none 0 0] 41, .blk w.heap.size [.int .i64 b, .slice A ds.length c] 41] wx)
  case first =>
    go_region_held3 (fun W => W.cell? ⟨w.heap.size, 0, none⟩ = some (.int .i64 b) ∧ W.cell? ⟨w.heap.size, 1, none⟩ = some (.slice A ds.length c))
      (first | with_reducible exact HG.out | exact HG.out) (first
      | (go_at_call 176; with_reducible refine (KN.out _).mono ?_; rintro e w3 ⟨rfl, hw3⟩; have hK3 := hK2.drew.keep hw3; clear HG; have HG := Lib.hid (box2 hK3.drop))
      | (go_at_call 102; with_reducible refine (KV.out _ hK3.below).mono ?_; rintro e w4 ⟨rfl, hw4⟩; have hK4 := hK3.keep hw4; clear HG; have HG := Lib.hid (box2 hK4.drop)))
    all_goals
      go_wp2_with fail
      go_meet
      exact ⟨rfl, by rw [HSS.out, wrapI64 (by omega)], hK4⟩
  case rest =>
    obtain ⟨rfl, rfl, hK⟩ := hcut
    clear HG hK1 hK2
    clear hV2 hv0
    have HG := Lib.hid (box2 hK.drew.drop)
    have HS := HG
    obtain ⟨a1, a2, a3⟩ := hK.blkAt
    rcases hlt : decide (S < 0) with _ | _
    · have hl2 := of_decide_eq_false hlt
      rcases hge : decide (N ≤ S) with _ | _
      · have hg2 := of_decide_eq_false hge
        rw [hlt, hge] at HSB
        go_wp2_with fail
        go_region_held3 (fun W => W.cell? ⟨w.heap.size, 0, none⟩ = some (.int .i64 b) ∧ W.cell? ⟨w.heap.size, 1, none⟩ = some (.slice A ds.length c)) (first | with_reducible exact HG.out | with_reducible exact HS.out | exact HG.out) (first
            | (go_at_call 171; with_reducible refine (KW.out _).mono ?_; rintro e w3 ⟨A', c', rfl, hK'⟩; have hK3 := hK.drew.join hK'; clear HG; have HG := Lib.hid (box2 hK3.drop.drop); have hK4 := (hK3.sw1.st 0 (.int .i64 b)).st 1 (.slice A' es.length c'); have HS := Lib.hid (box2 hK4.drop.drop); clear a1 a2 a3; obtain ⟨a1, a2, a3⟩ := hK3.drop.blkAt)
          )
        all_goals
          go_wp2_with fail
          refine bodyPost.kn hK4 ?_; intro w6 hK6
          clear a1 a2 a3
          obtain ⟨a1, a2, a3, -⟩ := hK6.cells
          refine bodyPost_ret (v := .tuple #[.agg #[.int .i64 b, .slice A' es.length c'], .bool bell]) (by simp [results, Tryd.results169, go_sem, a1]; rw [HSB.out]; try simp) rfl ⟨A', c', rfl, ?_⟩
          exact hK6.drop.drop1
      · have hg2 := of_decide_eq_true hge
        rw [hlt, hge] at HSB
        go_wp2_with fail
        go_region_held3 (fun W => W.cell? ⟨w.heap.size, 0, none⟩ = some (.int .i64 b) ∧ W.cell? ⟨w.heap.size, 1, none⟩ = some (.slice A ds.length c)) (first | with_reducible exact HG.out | with_reducible exact HS.out | exact HG.out) (first
            | (go_at_call 171; with_reducible refine (KW.out _).mono ?_; rintro e w3 ⟨A', c', rfl, hK'⟩; have hK3 := hK.drew.join hK'; clear HG; have HG := Lib.hid (box2 hK3.drop.drop); have hK4 := (hK3.sw1.st 0 (.int .i64 b)).st 1 (.slice A' es.length c'); have HS := Lib.hid (box2 hK4.drop.drop); clear a1 a2 a3; obtain ⟨a1, a2, a3⟩ := hK3.drop.blkAt)
          )
        all_goals
          go_wp2_with fail
          refine bodyPost.kn hK4 ?_; intro w6 hK6
          clear a1 a2 a3
          obtain ⟨a1, a2, a3, -⟩ := hK6.cells
          refine bodyPost_ret (v := .tuple #[.agg #[.int .i64 b, .slice A' es.length c'], .bool bell]) (by simp [results, Tryd.results169, go_sem, a1]; rw [HSB.out]; try simp) rfl ⟨A', c', rfl, ?_⟩
          exact hK6.drop.drop1
    · have hl2 := of_decide_eq_true hlt
      have hbe : bell = true := by rw [HSB.out, hlt]; rfl
      have HSB := Lib.hid hbe
      clear hbe
      obtain ⟨x1, x2⟩ := box2 hK.drop
      go_wp2_with fail
      first | (go_region_law (go_simp; go_at_call 171; with_reducible refine (KW.out _).mono ?_; rintro e w3 ⟨A', c', rfl, hK'⟩; have hK3 := hK.drew.join hK'; clear HG; have HG := Lib.hid (box2 hK3.drop.drop); have hK4 := (hK3.sw1.st 0 (.int .i64 b)).st 1 (.slice A' es.length c'); have HS := Lib.hid (box2 hK4.drop.drop); clear a1 a2 a3; obtain ⟨a1, a2, a3⟩ := hK3.drop.blkAt)) | fail "no"
      all_goals
        go_wp2_with fail
        refine bodyPost.kn hK4 ?_; intro w6 hK6
        clear a1 a2 a3
        obtain ⟨a1, a2, a3, -⟩ := hK6.cells
        refine bodyPost_ret (v := .tuple #[.agg #[.int .i64 b, .slice A' es.length c'], .bool bell]) (by simp [results, Tryd.results169, go_sem, a1]; rw [HSB.out]; try simp) rfl ⟨A', c', rfl, ?_⟩
        exact hK6.drop.drop1
end Go.Proofs.YtgpmngcemnnpmaaDoor

namespace Go.Proofs.YtgpmngcemnnpmaaDoor
open Go.RowKit Go.Sort
theorem restD_succ (b : Int) (k : Nat) (v : Int) : restD b (k + 1) v = restD b k (v.tdiv b) := by
  induction k with
  | zero => rfl
  | succ k ih => rw [restD, ih]; rfl
theorem digD_cons (b : Int) (k : Nat) (v : Int) : digD b (k + 1) v = v.tmod b :: digD b k (v.tdiv b) := by
  induction k with
  | zero => rfl
  | succ k ih => rw [digD, ih, restD_succ]; rfl
theorem pw_succ (b : Int) (k : Nat) : pw b (k + 1) = pw b k * b := rfl
theorem valL_lt (b : Int) (hb : 2 ≤ b) (ds : List Int) (hd : ∀ d ∈ ds, 0 ≤ d ∧ d < b) : valL b ds < pw b ds.length := by
  induction ds with
  | nil => simp [valL, pw]
  | cons d ds ih =>
    have h1 := ih (fun x hx => hd x (List.mem_cons_of_mem _ hx))
    have h2 := (hd d (List.mem_cons_self ..)).2
    have h3 : valL b ds * b ≤ (pw b ds.length - 1) * b := Int.mul_le_mul_of_nonneg_right (by omega) (by omega)
    rw [List.length_cons, pw_succ]
    have h4 : (pw b ds.length - 1) * b = pw b ds.length * b - b := by rw [Int.sub_mul]; omega
    simp only [valL]
    omega
theorem valL_digD (b : Int) (hb : 2 ≤ b) : ∀ (k : Nat) (v : Int), 0 ≤ v → v < pw b k → v ≤ 1000000000000 → valL b (digD b k v) = v
  | 0, v, h0, h1, _ => by simp only [pw] at h1; simp [digD, valL]; omega
  | k + 1, v, h0, h1, h2 => by
    rw [digD_cons]
    have e1 : v.tdiv b = v / b := Int.tdiv_eq_ediv_of_nonneg h0
    have e2 : v.tmod b = v % b := Int.tmod_eq_emod_of_nonneg h0
    have h3 : 0 ≤ v / b := Int.ediv_nonneg h0 (by omega)
    have h4 : v / b < pw b k := by rw [pw_succ] at h1; exact Int.ediv_lt_of_lt_mul (by omega) h1
    have h5 : v / b ≤ v := Int.ediv_le_self b h0
    simp only [valL]
    rw [e1, e2, valL_digD b hb k (v / b) h3 h4 (by omega)]
    have h6 := Int.emod_add_mul_ediv v b
    have h7 : v / b * b + v % b = v := by rw [Int.mul_comm]; omega
    rw [h7]; omega
theorem digD_ok (b : Int) (hb : 2 ≤ b) : ∀ (k : Nat) (v : Int), 0 ≤ v → ∀ d ∈ digD b k v, 0 ≤ d ∧ d < b
  | 0, _, _, d, h => by simp [digD] at h
  | k + 1, v, h0, d, h => by
    rw [digD_cons] at h
    have e1 : v.tdiv b = v / b := Int.tdiv_eq_ediv_of_nonneg h0
    have e2 : v.tmod b = v % b := Int.tmod_eq_emod_of_nonneg h0
    rcases List.mem_cons.1 h with rfl | h
    · rw [e2]; exact ⟨Int.emod_nonneg _ (by omega), Int.emod_lt_of_pos _ (by omega)⟩
    · rw [e1] at h; exact digD_ok b hb k _ (Int.ediv_nonneg h0 (by omega)) d h
theorem digD_vreg (b : Int) (hb : 2 ≤ b) (hb2 : b ≤ 16) (k : Nat) (hk : 1 ≤ k) (hk2 : k ≤ 16) (v : Int) (h0 : 0 ≤ v) (h1 : v < pw b k) (h2 : v ≤ 1000000000000) : vreg b (digD b k v) = true := by
  rw [vreg_iff, digD_len, valL_digD b hb k v h0 h1 h2]
  exact ⟨⟨hb, hb2⟩, ⟨by omega, by omega⟩, digD_ok b hb k v h0, h2⟩
theorem digD_zero (b : Int) : ∀ k : Nat, digD b k 0 = List.replicate k 0
  | 0 => rfl
  | k + 1 => by rw [digD_cons, Int.zero_tdiv, Int.zero_tmod, digD_zero b k]; rfl
/-- the shifted digits are valid again -/
theorem shiftD_vreg (b : Int) (ds : List Int) (x : Int) (hv : vreg b ds = true) (hp : pw b ds.length ≤ 1000000000001) : vreg b (shiftD b ds x) = true := by
  obtain ⟨⟨b1, b2⟩, ⟨n1, n2⟩, -, -⟩ := vreg_iff.1 hv
  have hp1 := pw_pos b b1 ds.length
  have h1 := Int.tmod_lt_of_pos ((valL b ds + x).tmod (pw b ds.length) + pw b ds.length) (show 0 < pw b ds.length by omega)
  have h2 := Int.lt_tmod_of_pos (valL b ds + x) (show 0 < pw b ds.length by omega)
  exact digD_vreg b b1 b2 _ (by omega) (by omega) _ (Int.tmod_nonneg _ (by omega)) h1 (by omega)
end Go.Proofs.YtgpmngcemnnpmaaDoor

namespace Go.Proofs.YtgpmngcemnnpmaaDoor
open Go.RowKit Go.Sort
/-- a turn: the setting times the unit is added -/
def turnT (t : Tri) (sign : Int) : Tri × Bool :=
  let u := pw t.b.base t.carry.toNat
  (⟨t.a, ⟨t.b.base, shiftD t.b.base t.b.digits (sign * (valL t.a.base t.a.digits * u))⟩, ⟨t.s.base, shiftD t.s.base t.s.digits (sign * u)⟩, t.carry⟩, shiftB t.b.base t.b.digits (sign * (valL t.a.base t.a.digits * u)))
/-- a stroke, and whether the bell rings -/
def strokeT (k : Int) (t : Tri) : Tri × Bool :=
  if k = 1 then turnT t 1
  else if k = 2 then turnT t (-1)
  else if k = 3 then (if t.carry + 1 = vplaces t then (t, true) else ({ t with carry := t.carry + 1 }, false))
  else if k = 4 then (if t.carry = 0 then (t, true) else ({ t with carry := t.carry - 1 }, false))
  else if k = 5 then (⟨t.a, ⟨t.b.base, digD t.b.base t.b.digits.length 0⟩, ⟨t.s.base, digD t.s.base t.s.digits.length 0⟩, t.carry⟩, false)
  else if k = 6 then ({ t with a := ⟨t.a.base, digD t.a.base t.a.digits.length 0⟩ }, false)
  else (t, false)
theorem pw_add (b : Int) (m n : Nat) : pw b (m + n) = pw b m * pw b n := by
  induction n with
  | zero => simp [pw]
  | succ n ih => rw [← Nat.add_assoc, pw_succ, ih, pw_succ, Int.mul_assoc]
theorem vmach_all {t : Tri} (h : vmach t = true) : t.a.ok = true ∧ t.b.ok = true ∧ t.s.ok = true ∧ t.a.base = t.b.base ∧ t.s.base = t.b.base ∧ pw t.b.base t.b.digits.length ≤ 1000000000001 ∧ pw t.s.base t.s.digits.length ≤ 1000000000001 ∧
    t.a.digits.length ≤ t.b.digits.length ∧ 0 ≤ t.carry ∧ t.carry ≤ vplaces t - 1 := by
  simp only [vmach, Bool.and_eq_true, beq_iff_eq, fullB, decide_eq_true_eq] at h
  obtain ⟨⟨⟨⟨h1, h2⟩, h3⟩, ⟨⟨h4, h5⟩, h6⟩, h7⟩, h8, h9⟩ := h
  obtain ⟨p, q⟩ := betB_iff.1 h9
  exact ⟨h1, h2, h3, h4, h5, h6, h7, h8, p, q⟩
theorem vmach_mk {t : Tri} (h1 : t.a.ok = true) (h2 : t.b.ok = true) (h3 : t.s.ok = true) (h4 : t.a.base = t.b.base) (h5 : t.s.base = t.b.base) (h6 : pw t.b.base t.b.digits.length ≤ 1000000000001) (h7 : pw t.s.base t.s.digits.length ≤ 1000000000001)
    (h8 : t.a.digits.length ≤ t.b.digits.length) (h9 : 0 ≤ t.carry) (h10 : t.carry ≤ vplaces t - 1) : vmach t = true := by
  simp only [vmach, Bool.and_eq_true, beq_iff_eq, fullB, decide_eq_true_eq]
  exact ⟨⟨⟨⟨h1, h2⟩, h3⟩, ⟨⟨h4, h5⟩, h6⟩, h7⟩, h8, betB_iff.2 ⟨h9, h10⟩⟩
theorem reg_ok {r : Reg} : r.ok = vreg r.base r.digits := rfl
/-- no sum of a turn runs over -/
theorem turn_bd {t : Tri} (h : vmach t = true) : 1 ≤ pw t.b.base t.carry.toNat ∧ pw t.b.base t.carry.toNat ≤ 1000000000001 ∧ 0 ≤ valL t.a.base t.a.digits * pw t.b.base t.carry.toNat ∧ valL t.a.base t.a.digits * pw t.b.base t.carry.toNat ≤ 1000000000001 := by
  obtain ⟨k1, k2, k3, e1, e2, f1, f2, l1, c0, c1⟩ := vmach_all h
  obtain ⟨⟨b1, b2⟩, ⟨n1, n2⟩, hd, hl⟩ := vreg_iff.1 k1
  have hu := pw_pos t.b.base (by omega) t.carry.toNat
  have hv0 := (valL_bd t.a.base b1 t.a.digits (fun d h => (hd d h).1)).1
  have hv1 := valL_lt t.a.base b1 t.a.digits hd
  have hadd := pw_add t.b.base t.a.digits.length t.carry.toNat
  have hc : t.a.digits.length + t.carry.toNat ≤ t.b.digits.length := by unfold vplaces at c1; omega
  have hm := pw_mono t.b.base (by omega) _ _ hc
  rw [e1] at hv1
  have h3 : valL t.a.base t.a.digits * pw t.b.base t.carry.toNat ≤ pw t.b.base t.a.digits.length * pw t.b.base t.carry.toNat := Int.mul_le_mul_of_nonneg_right (by rw [e1]; omega) (by omega)
  have hm2 := pw_mono t.b.base (by omega) t.carry.toNat t.b.digits.length (by omega)
  exact ⟨hu, by omega, Int.mul_nonneg hv0 (by omega), by omega⟩
theorem turnT_ok {t : Tri} (h : vmach t = true) (sign : Int) : vmach (turnT t sign).1 = true := by
  obtain ⟨k1, k2, k3, e1, e2, f1, f2, l1, c0, c1⟩ := vmach_all h
  refine vmach_mk k1 (shiftD_vreg _ _ _ k2 f1) (shiftD_vreg _ _ _ k3 f2) e1 e2 ?_ ?_ ?_ c0 ?_
  · simp only [turnT, shiftD_len]; exact f1
  · simp only [turnT, shiftD_len]; exact f2
  · simp only [turnT, shiftD_len]; exact l1
  · simp only [turnT, vplaces, shiftD_len]; exact c1
theorem zero_ok {b : Int} {ds : List Int} (h : vreg b ds = true) : vreg b (digD b ds.length 0) = true := by
  obtain ⟨⟨b1, b2⟩, ⟨n1, n2⟩, -, -⟩ := vreg_iff.1 h
  have := pw_pos b b1 ds.length
  exact digD_vreg b b1 b2 _ (by omega) (by omega) 0 (by omega) (by omega) (by omega)
theorem strokeT_ok {t : Tri} (k : Int) (h : vmach t = true) : vmach (strokeT k t).1 = true := by
  obtain ⟨k1, k2, k3, e1, e2, f1, f2, l1, c0, c1⟩ := vmach_all h
  unfold strokeT
  split
  · exact turnT_ok h 1
  split
  · exact turnT_ok h (-1)
  split
  · split
    · exact h
    · rename_i hc
      exact vmach_mk k1 k2 k3 e1 e2 f1 f2 l1 (by simp only []; omega) (by simp only [vplaces] at c1 hc ⊢; omega)
  split
  · split
    · exact h
    · rename_i hc
      exact vmach_mk k1 k2 k3 e1 e2 f1 f2 l1 (by simp only []; omega) (by simp only [vplaces] at c1 hc ⊢; omega)
  split
  · refine vmach_mk k1 (zero_ok k2) (zero_ok k3) e1 e2 (by simp only [digD_len]; exact f1) (by simp only [digD_len]; exact f2) (by simp only [digD_len]; exact l1) c0 (by simp only [vplaces, digD_len]; exact c1)
  split
  · refine vmach_mk (zero_ok k1) k2 k3 e1 e2 f1 f2 (by simp only [digD_len]; exact l1) c0 (by simp only [vplaces, digD_len]; exact c1)
  · exact h
end Go.Proofs.YtgpmngcemnnpmaaDoor

namespace Go.Proofs.YtgpmngcemnnpmaaDoor
open Go.RowKit Go.Sort
/-! sums and differences of registers, plainly -/
def vx (b : Int) : List Int → Int
  | [] => 0
  | d :: ds => vx b ds * b + d
theorem vx_bd {b : Int} (hb : 2 ≤ b) : ∀ {ds : List Int}, (∀ d ∈ ds, 0 ≤ d ∧ d < b) → 0 ≤ vx b ds ∧ vx b ds < pw b ds.length
  | [], _ => by simp [vx, pw]
  | d :: ds, h => by
    have ih := vx_bd hb (ds := ds) (fun x hx => h x (List.mem_cons_of_mem _ hx))
    have hd := h d (List.mem_cons_self ..)
    rw [vx, List.length_cons, pw_succ]
    have h1 : 0 ≤ vx b ds * b := Int.mul_nonneg ih.1 (by omega)
    have h2 : (vx b ds + 1) * b ≤ pw b ds.length * b := Int.mul_le_mul_of_nonneg_right (by omega) (by omega)
    rw [Int.add_mul, Int.one_mul] at h2
    omega
theorem vx_valL {b : Int} (hb : 2 ≤ b) : ∀ {ds : List Int}, (∀ d ∈ ds, 0 ≤ d ∧ d < b) → pw b ds.length ≤ 1000000000001 → valL b ds = vx b ds
  | [], _, _ => rfl
  | d :: ds, h, hp => by
    have hv := vx_bd hb h
    have hm := pw_mono b hb ds.length (ds.length + 1) (by omega)
    rw [List.length_cons] at hp hv
    rw [valL, vx_valL hb (fun x hx => h x (List.mem_cons_of_mem _ hx)) (by omega)]
    rw [vx] at hv ⊢
    omega
theorem vx_snoc (b : Int) : ∀ (l : List Int) (d : Int), vx b (l ++ [d]) = vx b l + d * pw b l.length
  | [], d => by simp [vx, pw]
  | a :: l, d => by
    rw [List.cons_append, vx, vx, vx_snoc b l d, List.length_cons, pw_succ, Int.add_mul, Int.mul_assoc]
    omega
/-- the carry into a digit -/
def carK (b : Int) (xs ys : List Int) : Nat → Int
  | 0 => 0
  | i + 1 => (xs.getD i 0 + ys.getD i 0 + carK b xs ys i) / b
def sumK (b : Int) (xs ys : List Int) (i : Nat) : Int := (xs.getD i 0 + ys.getD i 0 + carK b xs ys i) % b
def addD (b : Int) (xs ys : List Int) (n : Nat) : List Int := (List.range n).map (sumK b xs ys)
theorem addD_succ (b : Int) (xs ys : List Int) (n : Nat) : addD b xs ys (n + 1) = addD b xs ys n ++ [sumK b xs ys n] := by unfold addD; rw [List.range_succ, List.map_append]; rfl
theorem addD_len (b : Int) (xs ys : List Int) (n : Nat) : (addD b xs ys n).length = n := by simp [addD]
theorem addD_get (b : Int) (xs ys : List Int) {n i : Nat} (h : i < n) : (addD b xs ys n).getD i 0 = sumK b xs ys i := by
  rw [getD_of (by rw [addD_len]; exact h)]; simp [addD]
def Digs (b : Int) (xs : List Int) : Prop := ∀ d ∈ xs, 0 ≤ d ∧ d < b
theorem Digs.at {b : Int} {xs : List Int} (h : Digs b xs) (hb : 2 ≤ b) (i : Nat) : 0 ≤ xs.getD i 0 ∧ xs.getD i 0 < b := by
  by_cases hi : i < xs.length
  · rw [getD_of hi]; exact h _ (List.getElem_mem hi)
  · rw [List.getD_eq_getElem?_getD, List.getElem?_eq_none (by omega)]; simp; omega
theorem carK_bd {b : Int} (hb : 2 ≤ b) {xs ys : List Int} (hx : Digs b xs) (hy : Digs b ys) : ∀ i, 0 ≤ carK b xs ys i ∧ carK b xs ys i ≤ 1
  | 0 => by simp [carK]
  | i + 1 => by
    have h1 := hx.at hb i
    have h2 := hy.at hb i
    have h3 := carK_bd hb hx hy i
    rw [carK]
    constructor
    · exact Int.ediv_nonneg (by omega) (by omega)
    · have : (xs.getD i 0 + ys.getD i 0 + carK b xs ys i) / b < 2 := by rw [Int.ediv_lt_iff_lt_mul (by omega)]; omega
      omega
theorem sumK_bd {b : Int} (hb : 2 ≤ b) (xs ys : List Int) (i : Nat) : 0 ≤ sumK b xs ys i ∧ sumK b xs ys i < b := ⟨Int.emod_nonneg _ (by omega), Int.emod_lt_of_pos _ (by omega)⟩
theorem addD_digs {b : Int} (hb : 2 ≤ b) (xs ys : List Int) (n : Nat) : Digs b (addD b xs ys n) := fun d hd => by
  obtain ⟨i, -, rfl⟩ := List.mem_map.1 hd
  exact sumK_bd hb xs ys i
/-- sum and last carry have the value of both -/
theorem add_val {b : Int} {xs ys : List Int} : ∀ n, n ≤ xs.length → n ≤ ys.length → vx b (addD b xs ys n) + carK b xs ys n * pw b n = vx b (xs.take n) + vx b (ys.take n)
  | 0, _, _ => by simp [addD, carK, vx]
  | n + 1, h1, h2 => by
    have ih := add_val (b := b) (xs := xs) (ys := ys) n (by omega) (by omega)
    rw [addD_succ, vx_snoc, addD_len, List.take_succ_eq_append_getElem h1, List.take_succ_eq_append_getElem h2, vx_snoc, vx_snoc, List.length_take_of_le (show n ≤ xs.length by omega), List.length_take_of_le (show n ≤ ys.length by omega), pw_succ]
    have e : sumK b xs ys n + b * carK b xs ys (n + 1) = xs[n] + ys[n] + carK b xs ys n := by
      rw [sumK, carK, getD_of h1, getD_of h2]; exact Int.emod_add_mul_ediv _ _
    have e2 : sumK b xs ys n * pw b n + carK b xs ys (n + 1) * (pw b n * b) = (sumK b xs ys n + b * carK b xs ys (n + 1)) * pw b n := by
      rw [Int.add_mul, Int.mul_comm b (carK b xs ys (n + 1)), Int.mul_assoc, Int.mul_comm b (pw b n)]
    rw [e, Int.add_mul, Int.add_mul] at e2
    omega
/-- the borrow into a digit -/
def borK (xs ys : List Int) : Nat → Int
  | 0 => 0
  | i + 1 => if xs.getD i 0 - ys.getD i 0 - borK xs ys i < 0 then 1 else 0
def subK (b : Int) (xs ys : List Int) (i : Nat) : Int := if xs.getD i 0 - ys.getD i 0 - borK xs ys i < 0 then xs.getD i 0 - ys.getD i 0 - borK xs ys i + b else xs.getD i 0 - ys.getD i 0 - borK xs ys i
def subD (b : Int) (xs ys : List Int) (n : Nat) : List Int := (List.range n).map (subK b xs ys)
theorem subD_succ (b : Int) (xs ys : List Int) (n : Nat) : subD b xs ys (n + 1) = subD b xs ys n ++ [subK b xs ys n] := by unfold subD; rw [List.range_succ, List.map_append]; rfl
theorem subD_len (b : Int) (xs ys : List Int) (n : Nat) : (subD b xs ys n).length = n := by simp [subD]
theorem borK_bd (xs ys : List Int) : ∀ i, 0 ≤ borK xs ys i ∧ borK xs ys i ≤ 1
  | 0 => by simp [borK]
  | i + 1 => by rw [borK]; split <;> omega
theorem sub_one {b x y c : Int} (hb : 2 ≤ b) (hx : 0 ≤ x ∧ x < b) (hy : 0 ≤ y ∧ y < b) (hc : 0 ≤ c ∧ c ≤ 1) :
    ((x + y + c) % b - y - c < 0 ∧ (x + y + c) / b = 1 ∧ (x + y + c) % b - y - c + b = x) ∨ (¬ (x + y + c) % b - y - c < 0 ∧ (x + y + c) / b = 0 ∧ (x + y + c) % b - y - c = x) := by
  by_cases h : x + y + c < b
  · right
    rw [Int.emod_eq_of_lt (by omega) h, Int.ediv_eq_zero_of_lt (by omega) h]
    omega
  · left
    have e1 : (x + y + c) / b = 1 := by
      have h1 : (x + y + c) / b < 2 := by rw [Int.ediv_lt_iff_lt_mul (by omega)]; omega
      have h2 : 1 ≤ (x + y + c) / b := by rw [Int.le_ediv_iff_mul_le (by omega)]; omega
      omega
    have e2 := Int.emod_add_mul_ediv (x + y + c) b
    rw [e1] at e2
    omega
theorem sub_add {b : Int} (hb : 2 ≤ b) {xs ys : List Int} (hx : Digs b xs) (hy : Digs b ys) (n : Nat) : ∀ i, i ≤ n → borK (addD b xs ys n) ys i = carK b xs ys i
  | 0, _ => rfl
  | i + 1, hi => by
    have ih := sub_add hb hx hy n i (by omega)
    rw [borK, ih, addD_get b xs ys (show i < n by omega), carK, sumK]
    rcases sub_one hb (hx.at hb i) (hy.at hb i) (carK_bd hb hx hy i) with ⟨h1, h2, -⟩ | ⟨h1, h2, -⟩
    · rw [if_pos h1, h2]
    · rw [if_neg h1, h2]
theorem sub_addD {b : Int} (hb : 2 ≤ b) {xs ys : List Int} (hx : Digs b xs) (hy : Digs b ys) : subD b (addD b xs ys xs.length) ys xs.length = xs := by
  refine List.ext_getElem (by rw [subD_len]) (fun i h1 h2 => ?_)
  simp only [subD, List.getElem_map, List.getElem_range]
  have hi : i < xs.length := h2
  rw [subK, sub_add hb hx hy _ i (by omega), addD_get b xs ys hi, sumK, ← getD_of hi]
  rcases sub_one hb (hx.at hb i) (hy.at hb i) (carK_bd hb hx hy i) with ⟨h1, -, h3⟩ | ⟨h1, -, h3⟩
  · rw [if_pos h1, h3]
  · rw [if_neg h1, h3]
def compD (b : Int) (xs : List Int) : List Int := xs.map (fun d => b - 1 - d)
theorem comp_val (b : Int) : ∀ xs : List Int, vx b (compD b xs) = pw b xs.length - 1 - vx b xs
  | [] => by simp [compD, vx, pw]
  | d :: xs => by
    show vx b (compD b xs) * b + (b - 1 - d) = _
    rw [comp_val b xs, vx, List.length_cons, pw_succ, Int.sub_mul, Int.sub_mul, Int.one_mul]
    omega
theorem comp_digs {b : Int} {xs : List Int} (h : Digs b xs) : Digs b (compD b xs) := fun d hd => by
  obtain ⟨x, hx, rfl⟩ := List.mem_map.1 hd
  have := h x hx
  omega
/-- a short row of digits is a register -/
theorem vreg_short {b : Int} {ds : List Int} (hb : 2 ≤ b) (hb2 : b ≤ 16) (hd : Digs b ds) (h1 : 1 ≤ ds.length) (h2 : ds.length ≤ 16) (hp : pw b ds.length ≤ 1000000000001) : vreg b ds = true := by
  have hv := vx_bd hb hd
  exact vreg_iff.2 ⟨⟨hb, hb2⟩, ⟨h1, h2⟩, hd, by rw [vx_valL hb hd hp]; omega⟩
end Go.Proofs.YtgpmngcemnnpmaaDoor

namespace Go.Proofs.YtgpmngcemnnpmaaDoor
open Go.RowKit Go.Sort
/-- w with its first n blocks alone -/
def trunc (w : World) (n : Nat) : World := { w with heap := w.heap.extract 0 n }
theorem trunc_size {w : World} {n : Nat} (h : n ≤ w.heap.size) : (trunc w n).heap.size = n := by
  simp only [trunc, Array.size_extract]; omega
theorem trunc_get {w : World} {n k : Nat} (h : n ≤ w.heap.size) (hk : k < n) : (trunc w n).heap[k]? = w.heap[k]? := by
  simp only [trunc, Array.getElem?_extract, Nat.sub_zero, Nat.zero_add]
  rw [if_pos (by omega)]
theorem trunc_below {w : World} {n : Nat} (h : n ≤ w.heap.size) : Below (trunc w n).heap.size (trunc w n) w := by
  rw [trunc_size h]
  exact ⟨rfl, rfl, rfl, by rw [trunc_size h]; exact h, fun k hk => (trunc_get h hk).symm⟩
/-- v is w with block b turned -/
def Tw (b : Nat) (w v : World) : Prop := w.grownBy v (some b) ∧ v.heap.size = w.heap.size
theorem Tw.refl (b : Nat) (w : World) : Tw b w w := ⟨gRefl w _, rfl⟩
theorem Tw.of {b : Nat} {w w' : World} (h : w.grownBy w' (some b)) : Tw b w (trunc w' w.heap.size) :=
  ⟨⟨h.os, h.tape, h.output, by rw [trunc_size h.size]; exact Nat.le_refl _, fun k hk hne => (trunc_get h.size hk).trans (h.block k hk hne)⟩, trunc_size h.size⟩
theorem Src.trunc {b N : Nat} {w : World} {n : Nat} (h : Src w b N) (hb : b < n) (hn : n ≤ w.heap.size) : Src (trunc w n) b N := by
  obtain ⟨A, m, c, k, seed, bs, c0, c1, c2, f1, f2, hB, hkN, hm, hne, hlt⟩ := h
  have hbl : ∀ k, k ≤ b → (Go.Proofs.YtgpmngcemnnpmaaDoor.trunc w n).heap[k]? = w.heap[k]? := fun k hk => trunc_get hn (by omega)
  have hcell : ∀ o, (Go.Proofs.YtgpmngcemnnpmaaDoor.trunc w n).cell? ⟨b, o, none⟩ = w.cell? ⟨b, o, none⟩ := fun o => World.cell?_of_block (hbl b (Nat.le_refl _))
  have hfz : ∀ o, (Go.Proofs.YtgpmngcemnnpmaaDoor.trunc w n).frozen? ⟨b, o, none⟩ = w.frozen? ⟨b, o, none⟩ := fun o => World.frozen?_of_block (hbl b (Nat.le_refl _))
  refine ⟨A, m, c, k, seed, bs, by rw [hcell]; exact c0, by rw [hcell]; exact c1, by rw [hcell]; exact c2, by rw [hfz]; exact f1, by rw [hfz]; exact f2, ⟨hB.1, fun h0 => ?_⟩, hkN, hm, hne, by rw [trunc_size hn]; exact hb⟩
  obtain ⟨ad, e, hl, hc⟩ := hB.2 h0
  have hab := hne h0 ad e
  refine ⟨ad, e, by rw [trunc_size hn]; omega, fun j u hu => ?_⟩
  rw [World.cell?_of_block (w := w) (by rw [block_of_add]; exact hbl _ (by omega))]
  exact hc j u hu
/-- what a draw leaves: the source's block is turned, and the call owns the things of m -/
def DR (b N : Nat) (w : World) (m : List Ent) (w' : World) : Prop := ∃ v, Tw b w v ∧ Src v b N ∧ Kn v m w'
theorem DR.src {b N : Nat} {w : World} {m : List Ent} {w' : World} (h : DR b N w m w') : Src w' b N := by
  obtain ⟨v, -, hS, hK⟩ := h
  exact hS.below hK.below
theorem DR.of {b N : Nat} {w w' : World} (hs : Src w' b N) (hg : w.grownBy w' (some b)) (hb : b < w.heap.size) : DR b N w [] w' :=
  ⟨_, Tw.of hg, hs.trunc hb hg.size, (Kn.nil _).keep (trunc_below hg.size)⟩
theorem DR.nil {b N : Nat} {w : World} (hs : Src w b N) : DR b N w [] w := ⟨w, Tw.refl b w, hs, Kn.nil w⟩
theorem DR.mono {b N M : Nat} {w w' : World} {m : List Ent} (h : DR b N w m w') (hm : N ≤ M) : DR b M w m w' := by
  obtain ⟨v, hT, hS, hK⟩ := h
  exact ⟨v, hT, hS.mono hm, hK⟩
theorem DR.kn {b N : Nat} {w w' : World} {m m' : List Ent} (h : DR b N w m w') {w2 : World} (f : ∀ v, Kn v m w' → Kn v m' w2) : DR b N w m' w2 := by
  obtain ⟨v, hT, hS, hK⟩ := h
  exact ⟨v, hT, hS, f v hK⟩
theorem Kn.tw {b : Nat} {w v : World} {m : List Ent} {wi wi' : World} (hT : Tw b w v) (hK : Kn v m wi) (hb : b < w.heap.size) (hg : wi.grownBy wi' (some b)) : Tw b w (trunc wi' w.heap.size) ∧ Kn (trunc wi' w.heap.size) m wi' := by
  have hs : w.heap.size ≤ wi.heap.size := by have := hK.size; rw [hT.2] at this; exact this
  have hs' : w.heap.size ≤ wi'.heap.size := Nat.le_trans hs hg.size
  have hbw := hK.below
  refine ⟨⟨⟨hg.os.trans (hbw.os.trans hT.1.os), hg.tape.trans (hbw.tape.trans hT.1.tape), hg.output.trans (hbw.output.trans hT.1.output), by rw [trunc_size hs']; exact Nat.le_refl _, fun k hk hne => ?_⟩, trunc_size hs'⟩, trunc_below hs', fun e he => ?_, fun e he k hk => ?_, hK.apart⟩
  · rw [trunc_get hs' hk, hg.block k (by omega) hne, hbw.block k (by rw [hT.2]; exact hk)]
    exact hT.1.block k hk hne
  · refine Ent.stable (hK.ents e he) hg.size (fun k hk => hg.block k (Ent.lt (hK.ents e he) hk) (fun h2 => ?_))
    have h3 := hK.own e he k hk
    rw [hT.2] at h3
    injection h2 with h2
    omega
  · rw [trunc_size hs']
    have h3 := hK.own e he k hk
    rw [hT.2] at h3
    exact h3
theorem Tw.grown {b : Nat} {w v : World} (h : Tw b w v) : w.grownBy v (some b) := h.1
/-- one draw behind another -/
theorem DR.join {b N M : Nat} {w wi w' : World} {m m' : List Ent} (h : DR b N w m wi) (h1 : DR b M wi m' w') (hb : b < w.heap.size) : DR b M w (m' ++ m) w' := by
  obtain ⟨v, hT, hS, hK⟩ := h
  obtain ⟨v1, hT1, hS1, hK1⟩ := h1
  have hs : w.heap.size ≤ wi.heap.size := by have := hK.size; rw [hT.2] at this; exact this
  have hs1 : w.heap.size ≤ v1.heap.size := by rw [hT1.2]; exact hs
  obtain ⟨h2, h3⟩ := hK.tw hT hb hT1.1
  exact ⟨_, h2, hS1.trunc hb hs1, h3.join hK1⟩
/-- a source of the call's own -/
theorem Kn.ofDR {w w1 w2 : World} {b N : Nat} {m : List Ent} (hb : Below w.heap.size w w1) (hlo : w.heap.size ≤ b) (h : DR b N w1 m w2) : Kn w m w2 := by
  obtain ⟨v, hT, -, hK⟩ := h
  exact hK.mono (belowG hb hT.1 hlo hb.size)
theorem pick_dr (b N : Nat) (n : Int) (w : World) (h : Src w b N) (hN : N ≤ 999999) :
    Calls Tryd.prog 70 #[.pointer (some ⟨b, 0, none⟩), .int .i64 n] w fun e w' => ∃ x : Int, e = .returned (.int .i64 x) ∧ (0 ≤ x ∧ (x < n ∨ (n ≤ 1 ∧ x = 0))) ∧ DR b (N + 2) w [] w' := by
  refine (pick_any b N n w h hN).mono ?_
  rintro e w' ⟨x, rfl, h0, h1, hs, hg⟩
  exact ⟨x, rfl, ⟨h0, h1⟩, .of hs hg h.lt⟩
theorem one_dr (b N : Nat) (n : Int) (w : World) (h : Src w b N) (hN : N ≤ 999999) :
    Calls Tryd.prog 69 #[.pointer (some ⟨b, 0, none⟩), .int .i64 n] w fun e w' => ∃ x : Bool, e = .returned (.bool x) ∧ DR b (N + 2) w [] w' := by
  refine (one_any b N n w h hN).mono ?_
  rintro e w' ⟨x, rfl, hs, hg⟩
  exact ⟨x, rfl, .of hs hg h.lt⟩
end Go.Proofs.YtgpmngcemnnpmaaDoor

namespace Go.Proofs.YtgpmngcemnnpmaaDoor
open Go.RowKit Go.Sort
section
variable {b N : Nat} {w wi : World} {m : List Ent}
theorem DR.al (h : DR b N w m wi) (l : List Value) (T : TypeId) : DR b N w (.blk wi.heap.size l T :: m) (wi.alloc (.cells l.toArray T)) := h.kn (fun _ hK => hK.al l T)
theorem DR.al_ (h : DR b N w m wi) (o : Obj) : DR b N w m (wi.alloc o) := h.kn (fun _ hK => hK.al_ o)
theorem DR.st {g : Nat} {l : List Value} {T : TypeId} (h : DR b N w (.blk g l T :: m) wi) (j : Nat) (v : Value) : DR b N w (.blk g (l.set j v) T :: m) (wi.setCell ⟨g, j, none⟩ v) := h.kn (fun _ hK => hK.st j v)
theorem DR.drew (h : DR b N w m wi) : DR b N w m wi.drew := h.kn (fun _ hK => hK.drew)
theorem DR.front (h : DR b N w m wi) (i : Nat) {e : Ent} (hi : m[i]? = some e) : DR b N w (e :: m.eraseIdx i) wi := h.kn (fun _ hK => hK.front i hi)
theorem DR.sel (h : DR b N w m wi) (is : List Nat) (n : Nat) (h1 : is.Nodup) (h2 : ∀ i ∈ is, i < n) : DR b N w (is.filterMap (fun i => m[i]?) ++ m.drop n) wi := h.kn (fun _ hK => hK.sel is n h1 h2)
theorem DR.cells (h : DR b N w m wi) : Cells m wi := by
  obtain ⟨v, -, -, hK⟩ := h
  exact hK.cells
theorem DR.lt (h : DR b N w m wi) : b < w.heap.size := by
  obtain ⟨v, hT, hS, -⟩ := h
  have := hS.lt
  rw [hT.2] at this
  exact this
theorem DR.add (h : DR b N w m wi) {M : Nat} {w' : World} {m' : List Ent} (h1 : DR b M wi m' w') : DR b M w (m' ++ m) w' := h.join h1 h.lt
theorem DR.keep (h : DR b N w m wi) {w' : World} (hb : Below wi.heap.size wi w') : DR b N w m w' := h.kn (fun _ hK => hK.keep hb)
theorem DR.box2 {g : Nat} {v0 v1 : Value} {T : TypeId} (h : DR b N w (.blk g [v0, v1] T :: m) wi) : wi.cell? ⟨g, 0, none⟩ = some v0 ∧ wi.cell? ⟨g, 1, none⟩ = some v1 := by
  obtain ⟨v, -, -, hK⟩ := h
  exact Go.Proofs.YtgpmngcemnnpmaaDoor.box2 hK
theorem Calls.dr {P : Program} {f : FuncId} {args : Array Value} {R : Ending → World → Prop} (h : DR b N w m wi) (k : ∀ W, DR b N w m W → Calls P f args W R) : Calls P f args wi R := k wi h
theorem Code.wp.dr {P : Program} {c : Code} {Q : Exit → Act → World → Prop} {a : Act} (h : DR b N w m wi) (k : ∀ W, DR b N w m W → c.wp P Q a W) : c.wp P Q a wi := k wi h
theorem bodyPost.dr {P : Program} {f : Func} {R : Ending → World → Prop} {x : Exit} {a : Act} (h : DR b N w m wi) (k : ∀ W, DR b N w m W → bodyPost P f R x a W) : bodyPost P f R x a wi := k wi h
end
theorem DR.lit {b N : Nat} {w wi : World} {m : List Ent} {g : Nat} {ds : List Int} (h : DR b N w (.blk g (ds.map (Value.int .i64)) 2 :: m) wi) (hd : ds.length ≤ 1000) :
    RI wi (some ⟨g, 0, none⟩) ds.length ds ∧ (∀ ad, some (⟨g, 0, none⟩ : Addr) = some ad → ad.block ≠ b) := by
  obtain ⟨v, -, hS, hK⟩ := h
  have hb := hS.lt
  have ho := hK.own _ (List.mem_cons_self ..) g rfl
  have hr : Kn v (rowI (some ⟨g, 0, none⟩) ds.length ds :: m) wi := hK.litRow (size := 1) (n := ds.length) (by simp) (by unfold maxLen; omega)
  refine ⟨Kn.riv hr, fun ad he => ?_⟩
  injection he with he
  subst he
  show g ≠ b
  omega
end Go.Proofs.YtgpmngcemnnpmaaDoor

namespace Go.Proofs.YtgpmngcemnnpmaaDoor
open Go.RowKit Go.Sort
structure Ins where
  op : Int
  arg : Int
deriving DecidableEq
def InsM (w : World) (p : Addr) (x : Ins) : Prop := w.cell? p = some (.int .i64 x.op) ∧ w.cell? ⟨p.block, p.off + 1, none⟩ = some (.int .i64 x.arg)
theorem steady_InsM : Steady InsM := by
  rintro w w' p f hp hb ⟨h1, h2⟩
  exact ⟨by rw [hb.cell hp]; exact h1, by rw [hb.cell (by exact hp)]; exact h2⟩
def instrOk (op arg : Int) : Bool := if op = 1 then betB arg 0 1000000000000 else if op = 2 ∨ op = 3 ∨ op = 4 ∨ op = 5 ∨ op = 8 then betB arg 1 100 else if op = 6 ∨ op = 7 ∨ op = 9 ∨ op = 10 then arg == 0 else false
def opens (op : Int) : Bool := op == 8 || op == 9
/-- how many loops are open behind an instruction; none where it does not fit -/
def depthStep (op d : Int) : Option Int := if op = 10 then (if d = 0 then none else some (d - 1)) else if opens op then (if d = 4 then none else some (d + 1)) else some d
def stepI (d : Option Int) (x : Ins) : Option Int := d.bind fun d => if instrOk x.op x.arg then depthStep x.op d else none
def progD (xs : List Ins) : Option Int := xs.foldl stepI (some 0)
def vprog (xs : List Ins) : Bool := decide (progD xs = some 0) && decide (xs.length ≤ 120)
theorem progD_succ {xs : List Ins} {k : Nat} (h : k < xs.length) : progD (xs.take (k + 1)) = stepI (progD (xs.take k)) xs[k] := by
  unfold progD; rw [List.take_succ_eq_append_getElem h, List.foldl_append]; rfl
theorem stepI_none (xs : List Ins) : xs.foldl stepI none = none := by
  induction xs with
  | nil => rfl
  | cons x xs ih => exact ih
theorem progD_none {xs : List Ins} {k : Nat} (h : progD (xs.take k) = none) : progD xs = none := by
  unfold progD at *
  rw [← List.take_append_drop k xs, List.foldl_append, h, stepI_none]
theorem depthStep_bd {op d e : Int} (h : depthStep op d = some e) (h0 : 0 ≤ d) (h4 : d ≤ 4) : 0 ≤ e ∧ e ≤ 4 := by
  unfold depthStep at h
  split at h
  · split at h
    · cases h
    · injection h with h; omega
  · split at h
    · split at h
      · cases h
      · injection h with h; omega
    · injection h with h; omega
theorem op_cases (op : Int) : op = 1 ∨ op = 2 ∨ op = 3 ∨ op = 4 ∨ op = 5 ∨ op = 6 ∨ op = 7 ∨ op = 8 ∨ op = 9 ∨ op = 10 ∨ (op < 1 ∨ 10 < op) := by omega
theorem op_else {op : Int} (h : op < 1 ∨ 10 < op) : (op == 1) = false ∧ (op == 2) = false ∧ (op == 3) = false ∧ (op == 4) = false ∧ (op == 5) = false ∧ (op == 6) = false ∧ (op == 7) = false ∧ (op == 8) = false ∧ (op == 9) = false ∧ (op == 10) = false := by
  simp only [beq_eq_false_iff_ne]; omega
theorem instrOk_else {op arg : Int} (h : op < 1 ∨ 10 < op) : instrOk op arg = false := by
  unfold instrOk; rw [if_neg (by omega), if_neg (by omega), if_neg (by omega)]
theorem betB_0 (arg : Int) : betB arg 0 0 = (arg == 0) := by rw [Bool.eq_iff_iff, betB_iff, beq_iff_eq]; omega
end Go.Proofs.YtgpmngcemnnpmaaDoor

namespace Go.Proofs.YtgpmngcemnnpmaaDoor
open Go.RowKit Go.Sort
end Go.Proofs.YtgpmngcemnnpmaaDoor

namespace Go.Proofs.YtgpmngcemnnpmaaDoor
open Go.RowKit Go.Sort
/-! programs, plainly: depths, matches, what a run does -/
def depA (xs : List Ins) (k : Nat) : Int := (progD (xs.take k)).getD 0
theorem vprog_len {xs : List Ins} (h : vprog xs = true) : xs.length ≤ 120 := by
  unfold vprog at h; simp only [Bool.and_eq_true, decide_eq_true_eq] at h; exact h.2
theorem vprog_some {xs : List Ins} (h : vprog xs = true) (k : Nat) : progD (xs.take k) = some (depA xs k) := by
  unfold vprog at h; simp only [Bool.and_eq_true, decide_eq_true_eq] at h
  unfold depA
  cases hp : progD (xs.take k) with
  | none => rw [progD_none hp] at h; cases h.1
  | some d => rfl
theorem depA_zero (xs : List Ins) : depA xs 0 = 0 := rfl
theorem depA_end {xs : List Ins} (h : vprog xs = true) {k : Nat} (hk : xs.length ≤ k) : depA xs k = 0 := by
  unfold vprog at h; simp only [Bool.and_eq_true, decide_eq_true_eq] at h
  unfold depA; rw [List.take_of_length_le hk, h.1]; rfl
theorem dep_step {xs : List Ins} (h : vprog xs = true) {k : Nat} (hk : k < xs.length) : instrOk xs[k].op xs[k].arg = true ∧ depthStep xs[k].op (depA xs k) = some (depA xs (k + 1)) := by
  have h1 := vprog_some h (k + 1)
  rw [progD_succ hk, vprog_some h k] at h1
  simp only [stepI, Option.bind_some] at h1
  split at h1
  · rename_i hi; exact ⟨hi, h1⟩
  · cases h1
theorem dep_bd {xs : List Ins} (h : vprog xs = true) : ∀ k : Nat, 0 ≤ depA xs k ∧ depA xs k ≤ 4
  | 0 => by rw [depA_zero]; omega
  | k + 1 => by
    by_cases hk : k < xs.length
    · exact depthStep_bd (dep_step h hk).2 (dep_bd h k).1 (dep_bd h k).2
    · rw [depA_end h (by omega)]; omega
theorem dep_open {xs : List Ins} (h : vprog xs = true) {k : Nat} (hk : k < xs.length) (ho : opens xs[k].op = true) : depA xs (k + 1) = depA xs k + 1 := by
  have h1 := (dep_step h hk).2
  have h10 : ¬ xs[k].op = 10 := by intro h; rw [h] at ho; simp [opens] at ho
  unfold depthStep at h1
  rw [if_neg h10, ho] at h1
  simp only [if_true] at h1
  split at h1
  · cases h1
  · injection h1 with h1; omega
theorem dep_close {xs : List Ins} (h : vprog xs = true) {k : Nat} (hk : k < xs.length) (ho : xs[k].op = 10) : depA xs (k + 1) = depA xs k - 1 := by
  have h1 := (dep_step h hk).2
  unfold depthStep at h1
  rw [if_pos ho] at h1
  split at h1
  · cases h1
  · injection h1 with h1; omega
theorem dep_same {xs : List Ins} (h : vprog xs = true) {k : Nat} (hk : k < xs.length) (ho : opens xs[k].op = false) (h10 : ¬ xs[k].op = 10) : depA xs (k + 1) = depA xs k := by
  have h1 := (dep_step h hk).2
  unfold depthStep at h1
  rw [if_neg h10, ho] at h1
  simp only [Bool.false_eq_true, if_false] at h1
  injection h1 with h1; omega
theorem dep_near {xs : List Ins} (h : vprog xs = true) (k : Nat) : depA xs k - 1 ≤ depA xs (k + 1) ∧ depA xs (k + 1) ≤ depA xs k + 1 := by
  by_cases hk : k < xs.length
  · rcases ho : opens xs[k].op with _ | _
    · by_cases h10 : xs[k].op = 10
      · rw [dep_close h hk h10]; omega
      · rw [dep_same h hk ho h10]; omega
    · rw [dep_open h hk ho]; omega
  · rw [depA_end h (show xs.length ≤ k by omega), depA_end h (show xs.length ≤ k + 1 by omega)]; omega
/-- e is the end of the loop that begins at i -/
def IsMatch (xs : List Ins) (i e : Nat) : Prop := i ≤ e ∧ e < xs.length ∧ depA xs (e + 1) = depA xs i ∧ ∀ j, i < j → j ≤ e → depA xs i < depA xs j
theorem IsMatch.one {xs : List Ins} {i e f : Nat} (h1 : IsMatch xs i e) (h2 : IsMatch xs i f) : e = f := by
  obtain ⟨a1, a2, a3, a4⟩ := h1
  obtain ⟨b1, b2, b3, b4⟩ := h2
  rcases Nat.lt_trichotomy e f with h | h | h
  · have := b4 (e + 1) (by omega) (by omega); omega
  · exact h
  · have := a4 (f + 1) (by omega) (by omega); omega
/-- a part of a program in which all loops are whole -/
structure Seg (xs : List Ins) (i tt : Nat) : Prop where
  le : i ≤ tt
  len : tt ≤ xs.length
  dep : depA xs tt = depA xs i
  above : ∀ j, i ≤ j → j ≤ tt → depA xs i ≤ depA xs j
theorem Seg.all {xs : List Ins} (h : vprog xs = true) : Seg xs 0 xs.length :=
  ⟨Nat.zero_le _, Nat.le_refl _, by rw [depA_end h (Nat.le_refl _), depA_zero], fun j _ _ => by rw [depA_zero]; exact (dep_bd h j).1⟩
theorem Seg.lt {xs : List Ins} {i tt : Nat} (hs : Seg xs i tt) (hi : i < tt) : i < xs.length := Nat.lt_of_lt_of_le hi hs.len
theorem Seg.noEnd {xs : List Ins} (h : vprog xs = true) {i tt : Nat} (hs : Seg xs i tt) (hi : i < tt) : ¬ (xs[i]'(hs.lt hi)).op = 10 := by
  intro h10
  have h1 := dep_close h (hs.lt hi) h10
  have h2 := hs.above (i + 1) (by omega) (by omega)
  omega
theorem Seg.next {xs : List Ins} (h : vprog xs = true) {i tt : Nat} (hs : Seg xs i tt) (hi : i < tt) (ho : opens (xs[i]'(hs.lt hi)).op = false) : Seg xs (i + 1) tt := by
  have h1 := dep_same h (hs.lt hi) ho (hs.noEnd h hi)
  exact ⟨by omega, hs.len, by rw [h1]; exact hs.dep, fun j h2 h3 => by rw [h1]; exact hs.above j (by omega) h3⟩
theorem Seg.loop {xs : List Ins} (h : vprog xs = true) {i tt e : Nat} (hs : Seg xs i tt) (hi : i < tt) (ho : opens (xs[i]'(hs.lt hi)).op = true) (hm : IsMatch xs i e) :
    i < e ∧ e < tt ∧ Seg xs (i + 1) e ∧ Seg xs (e + 1) tt := by
  obtain ⟨m1, m2, m3, m4⟩ := hm
  have h1 := dep_open h (hs.lt hi) ho
  have he : i < e := by
    rcases Nat.lt_or_ge i e with h2 | h2
    · exact h2
    · obtain rfl : e = i := by omega
      omega
  have ht : e < tt := by
    rcases Nat.lt_or_ge e tt with h2 | h2
    · exact h2
    · have := m4 tt hi h2; have := hs.dep; omega
  have h3 := m4 e he (Nat.le_refl _)
  have h4 := dep_near h e
  refine ⟨he, ht, ⟨by omega, by omega, by omega, fun j h5 h6 => ?_⟩, ⟨by omega, hs.len, by rw [m3]; exact hs.dep, fun j h5 h6 => by rw [m3]; exact hs.above j (by omega) h6⟩⟩
  have := m4 j (by omega) h6
  omega
theorem Seg.noOpen {xs : List Ins} {i tt : Nat} (hs : Seg xs i tt) : xs.length = tt ∨ tt < xs.length := by have := hs.len; omega
/-- what a runner holds -/
structure RS where
  m : Tri
  tr : List Int
  done : Nat
  code : Int
def RS.tick (s : RS) : RS := ⟨s.m, s.tr, s.done + 1, if s.done = 3000 then 5 else 0⟩
theorem RS.tick_full {s : RS} (h : s.done = 3000) : s.tick = ⟨s.m, s.tr, s.done + 1, 5⟩ := by simp [RS.tick, h]
theorem RS.tick_ok {s : RS} (h : ¬ s.done = 3000) : s.tick = ⟨s.m, s.tr, s.done + 1, 0⟩ := by simp [RS.tick, h]
/-- the setting set tt a value that fits -/
def setT (t : Tri) (v : Int) : Tri := { t with a := ⟨t.a.base, digD t.a.base t.a.digits.length v⟩ }
def setFits (t : Tri) (v : Int) : Bool := restD t.a.base t.a.digits.length v == 0
inductive Task where
  | run (i tt : Nat)
  | loop (op arg : Int) (i e : Nat) (k : Nat)
  | str (kind : Int) (n : Nat)
/-- what is done by a part of a program; the last is whether the bell has rung -/
inductive Ev (L : List Ins) : Task → RS → RS → Bool → Prop where
  | s0 {kind s} : Ev L (.str kind 0) s s false
  | sFull {kind n s} (h : s.done = 3000) : Ev L (.str kind (n + 1)) s s.tick false
  | sStep {kind n s s' b} (h : ¬ s.done = 3000) (he : Ev L (.str kind n) ⟨(strokeT kind s.m).1, s.tr ++ [kind], s.done + 1, 0⟩ s' b) : Ev L (.str kind (n + 1)) s s' ((strokeT kind s.m).2 || b)
  | rEnd {i tt s} (h : tt ≤ i) : Ev L (.run i tt) s s false
  | rCode {i tt s} (hi : i < tt) (h : ¬ s.code = 0) : Ev L (.run i tt) s s false
  | rSetFull {i tt s} (hi : i < tt) (hl : i < L.length) (hc : s.code = 0) (ho : L[i].op = 1) (h : s.done = 3000) : Ev L (.run i tt) s s.tick false
  | rSetBad {i tt s} (hi : i < tt) (hl : i < L.length) (hc : s.code = 0) (ho : L[i].op = 1) (h : ¬ s.done = 3000) (hf : setFits s.m L[i].arg = false) : Ev L (.run i tt) s ⟨s.m, s.tr, s.done + 1, 10⟩ false
  | rSet {i tt s s' b} (hi : i < tt) (hl : i < L.length) (hc : s.code = 0) (ho : L[i].op = 1) (h : ¬ s.done = 3000) (hf : setFits s.m L[i].arg = true) (he : Ev L (.run (i + 1) tt) ⟨setT s.m L[i].arg, s.tr, s.done + 1, 0⟩ s' b) : Ev L (.run i tt) s s' b
  | rLoop {i tt e s s1 s' b b1} (hi : i < tt) (hl : i < L.length) (hc : s.code = 0) (ho : opens L[i].op = true) (hm : IsMatch L i e) (h1 : Ev L (.loop L[i].op L[i].arg (i + 1) e 0) s s1 b1) (he : Ev L (.run (e + 1) tt) s1 s' b) : Ev L (.run i tt) s s' b
  | rStr {i tt s s1 s' b b1} (hi : i < tt) (hl : i < L.length) (hc : s.code = 0) (ho : opens L[i].op = false) (h1' : ¬ L[i].op = 1) (h1 : Ev L (.str (L[i].op - 1) (max 1 L[i].arg).toNat) s s1 b1) (he : Ev L (.run (i + 1) tt) s1 s' b) : Ev L (.run i tt) s s' (b1 || b)
  | lEnd {op arg : Int} {i e k : Nat} {s : RS} (h8 : op = 8) (hk : arg ≤ (k : Int)) : Ev L (.loop op arg i e k) s s false
  | lFull {op arg : Int} {i e k : Nat} {s : RS} (h8 : ¬ (op = 8 ∧ arg ≤ (k : Int))) (h : s.done = 3000) : Ev L (.loop op arg i e k) s s.tick false
  | lOut {op arg : Int} {i e k : Nat} {s s1 : RS} {b : Bool} (h8 : ¬ (op = 8 ∧ arg ≤ (k : Int))) (h : ¬ s.done = 3000) (h1 : Ev L (.run i e) ⟨s.m, s.tr, s.done + 1, 0⟩ s1 b) (ho : ¬ s1.code = 0 ∨ (op = 9 ∧ b = true)) : Ev L (.loop op arg i e k) s s1 false
  | lStep {op arg : Int} {i e k : Nat} {s s1 s' : RS} {b b2 : Bool} (h8 : ¬ (op = 8 ∧ arg ≤ (k : Int))) (h : ¬ s.done = 3000) (h1 : Ev L (.run i e) ⟨s.m, s.tr, s.done + 1, 0⟩ s1 b) (ho : s1.code = 0 ∧ ¬ (op = 9 ∧ b = true)) (he : Ev L (.loop op arg i e (k + 1)) s1 s' b2) : Ev L (.loop op arg i e k) s s' false
theorem Ev.one {L : List Ins} {t : Task} {s s1 : RS} {b1 : Bool} (h : Ev L t s s1 b1) : ∀ {s2 : RS} {b2 : Bool}, Ev L t s s2 b2 → s1 = s2 ∧ b1 = b2 := by
  induction h with
  | s0 => intro s2 b2 h2; cases h2; exact ⟨rfl, rfl⟩
  | sFull h => intro s2 b2 h2; cases h2 with
    | sFull => exact ⟨rfl, rfl⟩
    | sStep h' => exact absurd h h'
  | sStep h he ih => intro s2 b2 h2; cases h2 with
    | sFull h' => exact absurd h' h
    | sStep _ h' => obtain ⟨rfl, rfl⟩ := ih h'; exact ⟨rfl, rfl⟩
  | rEnd h => intro s2 b2 h2; cases h2 <;> first | exact ⟨rfl, rfl⟩ | omega
  | rCode hi h => intro s2 b2 h2; cases h2 <;> first | exact ⟨rfl, rfl⟩ | contradiction
  | @rSetFull i _ _ hi hl hc ho h =>
    have hop : opens (L[i]'hl).op = false := by rw [ho]; rfl
    intro s2 b2 h2; cases h2 <;> first | exact ⟨rfl, rfl⟩ | contradiction | omega | simp_all
  | @rSetBad i _ _ hi hl hc ho h hf =>
    have hop : opens (L[i]'hl).op = false := by rw [ho]; rfl
    intro s2 b2 h2; cases h2 <;> first | exact ⟨rfl, rfl⟩ | contradiction | omega | simp_all
  | @rSet i _ _ _ _ hi hl hc ho h hf he ih =>
    have hop : opens (L[i]'hl).op = false := by rw [ho]; rfl
    intro s2 b2 h2; cases h2 with
    | rSet _ _ _ _ _ _ he' => exact ih he'
    | _ => first | contradiction | omega | simp_all
  | @rLoop i _ _ _ _ _ _ _ hi hl hc ho hm h1 he ih1 ih2 =>
    have hop : ¬ (L[i]'hl).op = 1 := by intro h; rw [h] at ho; simp [opens] at ho
    intro s2 b2 h2; cases h2 with
    | rLoop _ _ _ _ hm' h1' he' =>
      obtain rfl := hm.one hm'
      obtain ⟨rfl, -⟩ := ih1 h1'
      exact ih2 he'
    | _ => first | contradiction | omega | simp_all
  | rStr hi hl hc ho h1' h1 he ih1 ih2 =>
    intro s2 b2 h2; cases h2 with
    | rStr _ _ _ _ _ h1'' he' =>
      obtain ⟨rfl, rfl⟩ := ih1 h1''
      obtain ⟨rfl, rfl⟩ := ih2 he'
      exact ⟨rfl, rfl⟩
    | _ => first | contradiction | omega | simp_all
  | lEnd h8 hk => intro s2 b2 h2; cases h2 <;> first | exact ⟨rfl, rfl⟩ | (exfalso; rename_i h _; exact h ⟨h8, hk⟩) | (exfalso; simp_all)
  | lFull h8 h => intro s2 b2 h2; cases h2 with
    | lEnd a b => exact absurd ⟨a, b⟩ h8
    | lFull => exact ⟨rfl, rfl⟩
    | lOut _ h' => exact absurd h h'
    | lStep _ h' => exact absurd h h'
  | lOut h8 h h1 ho ih => intro s2 b2 h2; cases h2 with
    | lEnd a b => exact absurd ⟨a, b⟩ h8
    | lFull _ h' => exact absurd h' h
    | lOut _ _ h1' => exact ⟨(ih h1').1, rfl⟩
    | lStep _ _ h1' ho' =>
      obtain ⟨rfl, rfl⟩ := ih h1'
      rcases ho with ho | ho
      · exact absurd ho'.1 ho
      · exact absurd ho ho'.2
  | lStep h8 h h1 ho he ih1 ih2 => intro s2 b2 h2; cases h2 with
    | lEnd a b => exact absurd ⟨a, b⟩ h8
    | lFull _ h' => exact absurd h' h
    | lOut _ _ h1' ho' =>
      obtain ⟨rfl, rfl⟩ := ih1 h1'
      rcases ho' with ho' | ho'
      · exact absurd ho.1 ho'
      · exact absurd ho' ho.2
    | lStep _ _ h1' _ he' =>
      obtain ⟨rfl, rfl⟩ := ih1 h1'
      exact ⟨(ih2 he').1, rfl⟩
theorem restD_div (b : Int) (hb : 2 ≤ b) (k : Nat) (v : Int) (h0 : 0 ≤ v) : restD b k v = v / pw b k := by
  induction k with
  | zero => simp [restD, pw]
  | succ k ih =>
    have h1 := pw_pos b hb k
    rw [restD, ih, Int.tdiv_eq_ediv_of_nonneg (Int.ediv_nonneg h0 (by omega)), Int.ediv_ediv_of_nonneg (by omega)]; rfl
theorem restD_zero (b : Int) (hb : 2 ≤ b) (k : Nat) (v : Int) (h0 : 0 ≤ v) : (restD b k v == 0) = decide (v < pw b k) := by
  have h1 := pw_pos b hb k
  rw [restD_div b hb k v h0, Bool.eq_iff_iff, beq_iff_eq, decide_eq_true_iff]
  constructor
  · intro h
    rcases Int.lt_or_le v (pw b k) with h2 | h2
    · exact h2
    · have := Int.ediv_le_ediv (show 0 < pw b k by omega) h2
      rw [Int.ediv_self (by omega)] at this; omega
  · intro h; exact Int.ediv_eq_zero_of_lt h0 h
/-- what holds of a runner all the time -/
structure RS.Good (s : RS) : Prop where
  m : vmach s.m = true
  tr : s.tr.length ≤ s.done
  done : s.code = 0 → s.done ≤ 3000
  top : s.done ≤ 3001
theorem setT_ok {t : Tri} (v : Int) (h : vmach t = true) (h0 : 0 ≤ v) (h1 : v < pw t.a.base t.a.digits.length) : vmach (setT t v) = true := by
  obtain ⟨k1, k2, k3, e1, e2, f1, f2, l1, c0, c1⟩ := vmach_all h
  obtain ⟨⟨b1, b2⟩, ⟨n1, n2⟩, hd, hl⟩ := vreg_iff.1 k1
  have hm := pw_mono t.a.base (by omega) _ _ l1
  rw [e1] at hm
  refine vmach_mk (t := setT t v) (digD_vreg _ b1 b2 _ (by omega) (by omega) v h0 h1 ?_) k2 k3 e1 e2 f1 f2 (by simp only [setT, digD_len]; exact l1) c0 (by simp only [setT, vplaces, digD_len]; exact c1)
  rw [e1] at h1; omega
theorem RS.Good.tick {s : RS} (h : s.Good) (hc : s.code = 0) : s.tick.Good := by
  have h1 := h.done hc
  have h2 := h.tr
  unfold RS.tick
  split
  · exact ⟨h.m, by simp only []; omega, (fun h => by cases h), by simp only []; omega⟩
  · exact ⟨h.m, by simp only []; omega, fun _ => by simp only []; omega, by simp only []; omega⟩
theorem RS.Good.stroke {s : RS} (h : s.Good) (hc : s.code = 0) (hd : ¬ s.done = 3000) (k : Int) : (RS.mk (strokeT k s.m).1 (s.tr ++ [k]) (s.done + 1) 0).Good := by
  have h1 := h.done hc
  have h2 := h.tr
  exact ⟨strokeT_ok k h.m, by simp; omega, fun _ => by simp only []; omega, by simp only []; omega⟩
theorem RS.Good.more {s : RS} (h : s.Good) (hc : s.code = 0) (hd : ¬ s.done = 3000) (t : Tri) (ht : vmach t = true) (c : Int) : (RS.mk t s.tr (s.done + 1) c).Good := by
  have h1 := h.done hc
  have h2 := h.tr
  exact ⟨ht, by simp only []; omega, fun _ => by simp only []; omega, by simp only []; omega⟩
end Go.Proofs.YtgpmngcemnnpmaaDoor

namespace Go.Proofs.YtgpmngcemnnpmaaDoor
open Go.RowKit Go.Sort
/-- what is known at index j of the search for the match of i -/
structure Seek (xs : List Ins) (i j : Nat) (d : Int) : Prop where
  le : i ≤ j
  lt : j < xs.length
  dep : d = depA xs j - depA xs i
  above : ∀ q, i < q → q ≤ j → depA xs i < depA xs q
theorem Seek.next {xs : List Ins} (h : vprog xs = true) {i j : Nat} {d : Int} (hs : Seek xs i j d) (ho : opens (xs[i]'(Nat.lt_of_le_of_lt hs.le hs.lt)).op = true) {d' : Int} (hd : d' = depA xs (j + 1) - depA xs i) (h0 : ¬ d' = 0) : Seek xs i (j + 1) d' := by
  have hn := dep_near h j
  have hi : i < xs.length := Nat.lt_of_le_of_lt hs.le hs.lt
  have hb := dep_bd h i
  have hge : depA xs i ≤ depA xs (j + 1) := by
    rcases Nat.lt_or_eq_of_le hs.le with h1 | h1
    · have := hs.above j h1 (Nat.le_refl _); omega
    · subst h1; rw [dep_open h hi ho]; omega
  have hl : j + 1 < xs.length := by
    rcases Nat.lt_or_ge (j + 1) xs.length with h1 | h1
    · exact h1
    · have := depA_end h h1; omega
  refine ⟨by have := hs.le; omega, hl, hd, fun q h1 h2 => ?_⟩
  rcases Nat.lt_or_eq_of_le h2 with h3 | h3
  · exact hs.above q h1 (by omega)
  · subst h3; omega
theorem Seek.found {xs : List Ins} {i j : Nat} {d : Int} (hs : Seek xs i j d) {d' : Int} (hd : d' = depA xs (j + 1) - depA xs i) (h0 : d' = 0) : IsMatch xs i j := ⟨hs.le, hs.lt, by omega, hs.above⟩
theorem Seek.zero {xs : List Ins} {i : Nat} (hi : i < xs.length) : Seek xs i i 0 := ⟨Nat.le_refl _, hi, by omega, fun q h1 h2 => by omega⟩
def MatchRet (xs : List Ins) (i : Nat) (w : World) (e : Ending) (w' : World) : Prop := ∃ f : Nat, e = .returned (.int .i64 f) ∧ IsMatch xs i f ∧ Below w.heap.size w w'
def MatchRet0 (xs : List Ins) (i : Nat) (w : World) (e : Ending) (w' : World) : Prop := ∃ f : Nat, e = .returned (.int .i64 f) ∧ IsMatch xs i f ∧ w = w'
end Go.Proofs.YtgpmngcemnnpmaaDoor
