import Derived.Test.YtmnegfhigfipbaaG14
namespace Go.Proofs.Ytmnegfhigfipbaa
open Go.RowKit Go.Sort
def hasL (own : List Flt) (l : Nat) : Bool := own.any (fun f => f.lever == (l : Int))
/-- how often lever l is in the faults -/
def cntL (fs : List Flt) (l : Nat) : Nat := fs.countP (fun f => f.lever == (l : Int))
/-- the levers below n that are in all lists -/
def sus (L : List (List Flt)) (n : Nat) : List Int := ((List.range n).filter (fun l => L.all (fun own => hasL own l))).map (fun (l : Nat) => (l : Int))
theorem cnt_own {own : List Flt} (ha : Asc own) (hl : own.length ≤ 2) (l : Nat) : cntL own l = if hasL own l then 1 else 0 := by
  match own, hl with
  | [], _ => rfl
  | [f], _ => by_cases h : f.lever = (l : Int) <;> simp [cntL, hasL, h]
  | [f, g], _ =>
    have h1 := ha 0 (by simp)
    simp only [List.getElem_cons_zero, List.getElem_cons_succ] at h1
    by_cases h : f.lever = (l : Int)
    · have : g.lever ≠ (l : Int) := by omega
      simp [cntL, hasL, h, this]
    · by_cases h2 : g.lever = (l : Int) <;> simp [cntL, hasL, h, h2]
theorem cnt_flat (L : List (List Flt)) (l : Nat) (ha : ∀ own ∈ L, Asc own ∧ own.length ≤ 2) : cntL L.flatten l = L.countP (fun own => hasL own l) := by
  induction L with
  | nil => rfl
  | cons o L ih =>
    obtain ⟨h1, h2⟩ := ha o (List.mem_cons_self ..)
    have h3 := ih (fun x hx => ha x (List.mem_cons_of_mem _ hx))
    have h4 := cnt_own h1 h2 l
    unfold cntL at h3 h4 ⊢
    rw [List.flatten_cons, List.countP_append, h3, h4, List.countP_cons]
    omega
theorem cnt_all (L : List (List Flt)) (l : Nat) (ha : ∀ own ∈ L, Asc own ∧ own.length ≤ 2) : (cntL L.flatten l = L.length) ↔ L.all (fun own => hasL own l) = true := by
  rw [cnt_flat L l ha, List.countP_eq_length, List.all_eq_true]
theorem cnt_le (L : List (List Flt)) (l : Nat) (ha : ∀ own ∈ L, Asc own ∧ own.length ≤ 2) : cntL L.flatten l ≤ L.length := by
  rw [cnt_flat L l ha]; exact List.countP_le_length
theorem found_ok {ts : List Tri} {n0 m : Nat} {own : List Flt} (h : own ∈ found ts n0 m) (hm : m ≤ 2) : GoodF n0 own ∧ Asc own ∧ own.length ≤ 2 := by
  obtain ⟨h1, h2, h3⟩ := fsets_ok n0 m own (List.mem_filter.1 h).1
  exact ⟨h1, h2, by omega⟩
/-- levers at n and above are in no list -/
theorem sus_up {ts : List Tri} {n0 m : Nat} (hm : m ≤ 2) (hn : n0 ≤ 6) (hne : found ts n0 m ≠ []) : sus (found ts n0 m) 6 = sus (found ts n0 m) n0 := by
  unfold sus
  congr 1
  have hf : ∀ l, n0 ≤ l → (found ts n0 m).all (fun own => hasL own l) = false := by
    intro l hl
    obtain ⟨own, rest, he⟩ := List.exists_cons_of_ne_nil hne
    have hmem : own ∈ found ts n0 m := by rw [he]; exact List.mem_cons_self ..
    obtain ⟨hg, -, -⟩ := found_ok hmem hm
    rw [List.all_eq_false]
    refine ⟨own, hmem, ?_⟩
    have : hasL own l = false := by
      unfold hasL
      rw [List.any_eq_false]
      intro f hf
      obtain ⟨-, -, q1, q2⟩ := hg f hf
      simp only [beq_iff_eq]
      omega
    simp [this]
  obtain ⟨d, hd⟩ : ∃ d, 6 = n0 + d := ⟨6 - n0, by omega⟩
  have hz : ((List.range d).map (n0 + ·)).filter (fun l => (found ts n0 m).all fun own => hasL own l) = [] := by
    rw [List.filter_eq_nil_iff]
    intro a ha
    obtain ⟨i, -, rfl⟩ := List.mem_map.1 ha
    rw [hf _ (by omega)]
    simp
  rw [hd, List.range_add, List.filter_append, hz, List.append_nil]
def scode (ts : List Tri) (f : Int) : Int := if bcode ts f = 0 then (if found ts (wid ts) f.toNat = [] then 3 else 0) else bcode ts f
def slist (ts : List Tri) (f : Int) : List Int := if bcode ts f = 0 then (if found ts (wid ts) f.toNat = [] then [] else sus (found ts (wid ts) f.toNat) (wid ts)) else []
theorem sus_succ (L : List (List Flt)) (k : Nat) : sus L (k + 1) = sus L k ++ (if L.all (fun own => hasL own k) then [(k : Int)] else []) := by
  unfold sus
  rw [List.range_succ, List.filter_append, List.map_append]
  by_cases h : L.all (fun own => hasL own k) = true
  · simp [h]
  · simp [h]
theorem sus_len (L : List (List Flt)) (k : Nat) : (sus L k).length ≤ k := by
  unfold sus
  rw [List.length_map]
  have := List.length_filter_le (fun l => L.all (fun own => hasL own l)) (List.range k)
  simpa using this
end Go.Proofs.Ytmnegfhigfipbaa
