/- For every input the law FnExactShortestFor returns true and leaves its arguments as they were: the program's ShortestFor gives the reference's program and code. No condition. -/
import Derived.Test.YtkaaiocbiknipaaZC1
import Derived.Test.YtkaaiocbiknipaaZC2
import Derived.Test.YtkaaiocbiknipaaZC3
import Derived.Test.YtkaaiocbiknipaaZC4
import Derived.Test.YtkaaiocbiknipaaZC5
import Derived.Test.YtkaaiocbiknipaaZC6
import Derived.Test.YtkaaiocbiknipaaZC7
import Derived.Test.YtkaaiocbiknipaaZC8
import Derived.Test.YtkaaiocbiknipaaZC9
import Derived.Test.YtkaaiocbiknipaaZC10
import Derived.Deep.LoopGhost
import Derived.OpenShut
import Derived.Deep.DeepHandedRow
import Derived.Lib.LaidTab
namespace Go.Proofs.Ytkaaiocbiknipaa
open Go.RowKit Go.Sort
/-- the program of n strokes with number k -/
def numP : Nat → Nat → List Ins
  | 0, _ => []
  | n + 1, k => numP n (k / 4) ++ [⟨2 + (k % 4 : Nat), 1⟩]
def addI : Ins := ⟨2, 1⟩
theorem numP_len (n k : Nat) : (numP n k).length = n := by
  induction n generalizing k with
  | zero => rfl
  | succ n ih => simp [numP, ih]
theorem numP_zero (n : Nat) : numP n 0 = List.replicate n addI := by
  induction n with
  | zero => rfl
  | succ n ih =>
    show numP n (0 / 4) ++ [⟨2 + ((0 % 4 : Nat) : Int), 1⟩] = _
    rw [Nat.zero_div, ih, List.replicate_succ']
    rfl
theorem numP_pow (m d x : Nat) : numP (m + d) (x * 4 ^ d) = numP m x ++ List.replicate d addI := by
  induction d with
  | zero => simp
  | succ d ih =>
    show numP (m + d) (x * 4 ^ (d + 1) / 4) ++ [⟨2 + ((x * 4 ^ (d + 1) % 4 : Nat) : Int), 1⟩] = _
    have h1 : x * 4 ^ (d + 1) = 4 * (x * 4 ^ d) := by rw [Nat.pow_succ]; ac_rfl
    rw [h1, Nat.mul_div_cancel_left _ (by decide), Nat.mul_mod_right, ih, List.replicate_succ', List.append_assoc]
    rfl
theorem numP_ok (n k : Nat) (hn : n ≤ 4) : vprog (numP n k) = true := by
  have h : ∀ n k, ∀ x ∈ numP n k, instrOk x.op x.arg = true ∧ x.op ≤ 7 := by
    intro n
    induction n with
    | zero => intro k x hx; cases hx
    | succ n ih =>
      intro k x hx
      rcases List.mem_append.1 hx with hx | hx
      · exact ih _ x hx
      · rw [List.mem_singleton.1 hx]
        have h4 : k % 4 < 4 := Nat.mod_lt _ (by decide)
        have : k % 4 = 0 ∨ k % 4 = 1 ∨ k % 4 = 2 ∨ k % 4 = 3 := by omega
        rcases this with h | h | h | h <;> rw [h] <;> exact ⟨by decide, by decide⟩
  have hd : ∀ (ys : List Ins), (∀ x ∈ ys, instrOk x.op x.arg = true ∧ x.op ≤ 7) → ys.foldl stepI (some 0) = some 0 := by
    intro ys
    induction ys with
    | nil => intro _; rfl
    | cons y ys ih =>
      intro hy
      obtain ⟨h1, h2⟩ := hy y (List.mem_cons_self ..)
      have hs : stepI (some 0) y = some 0 := by
        unfold stepI
        simp only [Option.bind_some, h1, if_true]
        unfold depthStep opens
        rw [if_neg (by omega), if_neg (by simp; omega)]
      rw [List.foldl_cons, hs]
      exact ih (fun x hx => hy x (List.mem_cons_of_mem _ hx))
  unfold vprog progD
  rw [hd _ (h n k), numP_len]
  simp; omega
theorem cellsIns_set (xs : List Ins) (j : Nat) (y : Ins) (h : j < xs.length) : ((cellsIns xs).set (j * 2) (.int .i64 y.op)).set (j * 2 + 1) (.int .i64 y.arg) = cellsIns (xs.set j y) := by
  induction xs generalizing j with
  | nil => simp at h
  | cons x xs ih =>
    have h2 : ∀ (a : Ins) (l : List Ins), cellsIns (a :: l) = .int .i64 a.op :: .int .i64 a.arg :: cellsIns l := fun a l => by simp [cellsIns]
    cases j with
    | zero => simp [h2]
    | succ j =>
      rw [h2, show (j + 1) * 2 = j * 2 + 1 + 1 by omega]
      simp only [List.set_cons_succ]
      rw [ih j (by simpa using h), h2]
theorem set_mid {α : Type} (xs ys : List α) (a b : α) (n : Nat) (h : xs.length = n) : (xs ++ a :: ys).set n b = xs ++ b :: ys := by
  subst h
  rw [List.set_append_right _ _ (Nat.le_refl _), Nat.sub_self]
  rfl
theorem get_mid {α : Type} (xs ys : List α) (a : α) (n : Nat) (h : xs.length = n) (hl : n < (xs ++ a :: ys).length) : (xs ++ a :: ys)[n] = a := by
  subst h
  simp
/-- the list of strokes while the next one is sought -/
def oddP (n m x : Nat) : List Ins := numP m x ++ List.replicate (n - m) addI
theorem oddP_len {n m x : Nat} (h : m ≤ n) : (oddP n m x).length = n := by
  unfold oddP; rw [List.length_append, numP_len, List.length_replicate]; omega
theorem oddP_succ {n m x : Nat} : oddP n (m + 1) x = numP m (x / 4) ++ ⟨2 + ((x % 4 : Nat) : Int), 1⟩ :: List.replicate (n - (m + 1)) addI := by
  show (numP m (x / 4) ++ [⟨2 + ((x % 4 : Nat) : Int), 1⟩]) ++ List.replicate (n - (m + 1)) addI = _
  rw [List.append_assoc]; rfl
theorem oddP_back {n m x : Nat} (h : m + 1 ≤ n) : numP m (x / 4) ++ addI :: List.replicate (n - (m + 1)) addI = oddP n m (x / 4) := by
  unfold oddP; rw [show n - m = (n - (m + 1)) + 1 by omega, List.replicate_succ]
theorem oddP_next {n m x k : Nat} (h : m + 1 ≤ n) (hk : k + 1 = (x + 1) * 4 ^ (n - (m + 1))) (h4 : x % 4 < 3) : numP m (x / 4) ++ ⟨2 + ((x % 4 : Nat) : Int) + 1, 1⟩ :: List.replicate (n - (m + 1)) addI = numP n (k + 1) := by
  have e := numP_pow (m + 1) (n - (m + 1)) (x + 1)
  rw [show m + 1 + (n - (m + 1)) = n by omega, ← hk] at e
  rw [e]
  have h1 : (x + 1) / 4 = x / 4 := by omega
  have h2 : (x + 1) % 4 = x % 4 + 1 := by omega
  show _ = (numP m ((x + 1) / 4) ++ [⟨2 + (((x + 1) % 4 : Nat) : Int), 1⟩]) ++ _
  rw [h1, h2, List.append_assoc]
  congr 1
theorem pow_next {n m x k : Nat} (h : m + 1 ≤ n) (hk : k + 1 = (x + 1) * 4 ^ (n - (m + 1))) (h4 : ¬ x % 4 < 3) : k + 1 = (x / 4 + 1) * 4 ^ (n - m) := by
  have h1 : x + 1 = 4 * (x / 4 + 1) := by omega
  rw [hk, h1, show n - m = (n - (m + 1)) + 1 by omega, Nat.pow_succ]
  ac_rfl
theorem div_pow {m x : Nat} (h : x < 4 ^ (m + 1)) : x / 4 < 4 ^ m := by
  rw [Nat.pow_succ] at h; omega
/-- a stroke that follows leads to a number in range -/
theorem next_lt {n m x k : Nat} (hm : m + 1 ≤ n) (hx : x < 4 ^ (m + 1)) (hk : k + 1 = (x + 1) * 4 ^ (n - (m + 1))) (h4 : x % 4 < 3) : k + 1 < 4 ^ n := by
  have h1 : x + 1 < 4 ^ (m + 1) := by
    rcases Nat.lt_or_ge (x + 1) (4 ^ (m + 1)) with h | h
    · exact h
    · exfalso
      have : x + 1 = 4 ^ (m + 1) := by omega
      rw [Nat.pow_succ] at this
      omega
  have h2 : (4 : Nat) ^ n = 4 ^ (m + 1) * 4 ^ (n - (m + 1)) := by rw [← Nat.pow_add]; congr 1; omega
  rw [hk, h2]
  exact Nat.mul_lt_mul_of_pos_right h1 (Nat.pow_pos (by decide))
theorem Kn.setP {w0 w : World} {mm : List Ent} {g n c : Nat} {xs : List Ins} (h : Kn w0 (rowInsN (some ⟨g, 0, none⟩) n c xs :: mm) w) (j : Nat) (y : Ins) (hj : j < xs.length) :
    Kn w0 (rowInsN (some ⟨g, 0, none⟩) n c (xs.set j y) :: mm) ((w.setCell ⟨g, j * 2, none⟩ (.int .i64 y.op)).setCell ⟨g, j * 2 + 1, none⟩ (.int .i64 y.arg)) := by
  unfold rowInsN at *
  have h1 := (h.rowSt (j * 2) (.int .i64 y.op)).rowSt (j * 2 + 1) (.int .i64 y.arg)
  rw [cellsIns_set xs j y hj] at h1
  exact h1
set_option maxRecDepth 100000 in
set_option maxHeartbeats 3200000 in
theorem l14Next_any {w0 : World} {mm : List Ent} (g n c k : Nat) (w : World) (hn : n ≤ 4) (hk : k < 4 ^ n) (hK : Kn w0 (rowInsN (some ⟨g, 0, none⟩) n c (numP n k) :: mm) w) :
    Calls Try.prog 159 #[.slice (some ⟨g, 0, none⟩) n c] w fun e w' =>
      (k + 1 < 4 ^ n ∧ e = .returned (.bool true) ∧ Kn w0 (rowInsN (some ⟨g, 0, none⟩) n c (numP n (k + 1)) :: mm) w') ∨
      (k + 1 = 4 ^ n ∧ e = .returned (.bool false) ∧ Kn w0 (rowInsN (some ⟨g, 0, none⟩) n c (numP n 0) :: mm) w') := by
  have hK0 : Kn w0 (rowInsN (some ⟨g, 0, none⟩) n c (oddP n n k) :: mm) w := by
    unfold oddP; rw [Nat.sub_self, List.replicate_zero, List.append_nil]; exact hK
  have HST := Lib.hid (show k + 1 = (k + 1) * 4 ^ (n - n) by rw [Nat.sub_self, Nat.pow_zero, Nat.mul_one])
  have HK := Lib.hid hk
  have hgl : g < w.heap.size := Ent.lt hK0.at0 rfl
  clear hK hk
  go_enter Try.func159, Try.ntmps159
  go_wp2_with fail
  go_loopw [3] (fun ii wr => ∃ (m x : Nat), m ≤ n ∧ ii = .int .i64 ((m : Int) - 1) ∧ Hid (x < 4 ^ m ∧ k + 1 = (x + 1) * 4 ^ (n - m)) ∧ Kn w0 (rowInsN (some ⟨g, 0, none⟩) n c (oddP n m x) :: mm) wr) (fun ii _ => (intOf ii + 1).toNat)
  case atStart => exact ⟨n, k, Nat.le_refl _, by go_num, Lib.hid ⟨HK.out, HST.out⟩, hK0⟩
  case round =>
    obtain ⟨m, x, hm, rfl, HX, hK⟩ := hrel
    clear hK0
    rcases m with _ | m
    · have h0 : ¬ (0 : Int) ≤ ((0 : Nat) : Int) - 1 := by omega
      have HF : Hid (k + 1 = 4 ^ n ∧ oddP n 0 x = numP n 0) := by
        obtain ⟨h1, h2⟩ := HX.out
        have hx0 : x = 0 := by rw [Nat.pow_zero] at h1; omega
        refine ⟨by rw [h2, hx0]; simp, ?_⟩
        rw [numP_zero]; unfold oddP; simp [numP]
      go_wp2_with fail
      go_ret
      exact .inr ⟨HF.out.1, rfl, by rw [← HF.out.2]; exact hK⟩
    · rw [show ((m + 1 : Nat) : Int) - 1 = (m : Int) by omega]
      have h0 : (0 : Int) ≤ (m : Int) := by omega
      have hmn : (m : Int) < (n : Int) := by omega
      have hs := oddP_succ (n := n) (m := m) (x := x)
      have hl := oddP_len (x := x) hm
      obtain ⟨P, hP⟩ : ∃ P, oddP n (m + 1) x = P := ⟨_, rfl⟩
      rw [hP] at hs hl hK
      have hpl := numP_len m (x / 4)
      have hgt : P[m]'(by omega) = ⟨2 + ((x % 4 : Nat) : Int), 1⟩ := by
        subst hs
        exact get_mid _ _ _ _ hpl _
      obtain ⟨cg1, cg2⟩ := cellsIns_get P m (by omega)
      rw [hgt] at cg1 cg2
      have hst2 := fun y : Ins => show P.set m y = numP m (x / 4) ++ y :: List.replicate (n - (m + 1)) addI from by subst hs; exact set_mid _ _ _ _ _ hpl
      have HST2 := Lib.hid hst2
      have HPL := Lib.hid hl
      have hgr : g < wr.heap.size := Ent.lt hK.at0 rfl
      have HSP := fun y => Kn.setP hK m y (by omega)
      unfold rowInsN at hK
      obtain ⟨y1, y2⟩ := Kn.rowCell hK cg1
      obtain ⟨y3, y4⟩ := Kn.rowCell hK cg2
      clear hs hst2 hgt cg1 cg2 hpl hP
      obtain ⟨d, hd⟩ : ∃ d : Nat, x % 4 = d := ⟨_, rfl⟩
      have hd4 : d < 4 := by rw [← hd]; exact Nat.mod_lt _ (by decide)
      rw [hd] at y1
      have z1 : wr.cell? ⟨g, m * 2, none⟩ = some (.int .i64 (2 + (d : Int))) := y1
      have z3 : wr.cell? ⟨g, m * 2 + 1, none⟩ = some (.int .i64 1) := y3
      clear y1 y3
      have HD := Lib.hid hd
      clear hd
      by_cases h3 : d < 3
      · have hlt : 2 + (d : Int) < 5 := by omega
        have hK9 := HSP ⟨2 + (d : Int) + 1, 1⟩
        rw [HST2.out] at hK9
        have HE : Hid (numP m (x / 4) ++ ⟨2 + (d : Int) + 1, 1⟩ :: List.replicate (n - (m + 1)) addI = numP n (k + 1) ∧ k + 1 < 4 ^ n) := by
          have e := oddP_next (k := k) hm HX.out.2 (by rw [HD.out]; exact h3)
          rw [HD.out] at e
          exact ⟨e, next_lt hm HX.out.1 HX.out.2 (by rw [HD.out]; exact h3)⟩
        rw [HE.out.1] at hK9
        clear HSP
        go_wp2_with fail
        go_ret
        exact .inl ⟨HE.out.2, rfl, hK9.al_ _⟩
      · have hlt : ¬ 2 + (d : Int) < 5 := by omega
        have hK9 := HSP addI
        rw [HST2.out, oddP_back hm] at hK9
        have HE : Hid (x / 4 < 4 ^ m ∧ k + 1 = (x / 4 + 1) * 4 ^ (n - m)) := ⟨div_pow HX.out.1, pow_next hm HX.out.2 (by rw [HD.out]; exact h3)⟩
        clear HSP
        unfold addI at hK9
        go_wp2_with fail
        go_roundw
        case rel => exact ⟨m, x / 4, by omega, by go_num, HE, hK9.al_ _⟩
        case measure => simp [intOf]
end Go.Proofs.Ytkaaiocbiknipaa

namespace Go.Proofs.Ytkaaiocbiknipaa
open Go.RowKit Go.Sort
/-- whether a program keeps a promise for all inputs -/
noncomputable def sfQ (b : Int) (n1 n2 n3 N : Nat) (kind arg : Int) (L : List Ins) : Bool := decide (failsL (badB L b n1 n2 n3 kind arg) N = [])
/-- the first program of strokes with q has n strokes and the number k -/
structure Found (q : List Ins → Bool) (M n k : Nat) : Prop where
  nM : n ≤ M
  kM : k < 4 ^ n
  yes : q (numP n k) = true
  less : ∀ n', n' < n → ∀ k', k' < 4 ^ n' → q (numP n' k') = false
  same : ∀ k', k' < k → q (numP n k') = false
theorem Found.one {q : List Ins → Bool} {M n k n' k' : Nat} (h : Found q M n k) (h' : Found q M n' k') : n = n' ∧ k = k' := by
  rcases Nat.lt_trichotomy n n' with hn | rfl | hn
  · have := h'.less n hn k h.kM; rw [h.yes] at this; cases this
  · rcases Nat.lt_trichotomy k k' with hk | rfl | hk
    · have := h'.same k hk; rw [h.yes] at this; cases this
    · exact ⟨rfl, rfl⟩
    · have := h.same k' hk; rw [h'.yes] at this; cases this
  · have := h.less n' hn k' h'.kM; rw [h'.yes] at this; cases this
open Classical in
noncomputable def bestP (q : List Ins → Bool) (M : Nat) : Option (List Ins) := if h : ∃ p : Nat × Nat, Found q M p.1 p.2 then some (numP (Classical.choose h).1 (Classical.choose h).2) else none
theorem best_some {q : List Ins → Bool} {M n k : Nat} (h : Found q M n k) : bestP q M = some (numP n k) := by
  have hx : ∃ p : Nat × Nat, Found q M p.1 p.2 := ⟨(n, k), h⟩
  unfold bestP
  rw [dif_pos hx]
  have := (Classical.choose_spec hx).one h
  rw [this.1, this.2]
theorem best_none {q : List Ins → Bool} {M : Nat} (h : ∀ n, n < M + 1 → ∀ k, k < 4 ^ n → q (numP n k) = false) : bestP q M = none := by
  unfold bestP
  rw [dif_neg]
  rintro ⟨⟨n, k⟩, hf⟩
  have h1 := h n (by have := hf.nM; simp at this; omega) k hf.kM
  have h2 := hf.yes
  simp only [] at h2
  rw [h1] at h2
  cases h2
def sfC0 (b z1 z2 z3 kind arg most : Int) : Int := if (isP kind arg && betB most 0 4) = false then 2 else inC b z1 z2 z3
noncomputable def sfB (b z1 z2 z3 kind arg most : Int) : Option (List Ins) := bestP (sfQ b z1.toNat z2.toNat z3.toNat (pw b z1.toNat * pw b z2.toNat).toNat kind arg) most.toNat
noncomputable def sfC (b z1 z2 z3 kind arg most : Int) : Int := if sfC0 b z1 z2 z3 kind arg most ≠ 0 then sfC0 b z1 z2 z3 kind arg most else if (sfB b z1 z2 z3 kind arg most).isSome then 0 else 3
noncomputable def sfL (b z1 z2 z3 kind arg most : Int) : List Ins := if sfC0 b z1 z2 z3 kind arg most ≠ 0 then [] else (sfB b z1 z2 z3 kind arg most).getD []
def SFRet (b z1 z2 z3 kind arg most : Int) (w : World) (e : Ending) (w' : World) : Prop := ∃ A c, e = .returned (.tuple #[.slice A (sfL b z1 z2 z3 kind arg most).length c, .int .i64 (sfC b z1 z2 z3 kind arg most)]) ∧ Kn w [rowIns (.slice A (sfL b z1 z2 z3 kind arg most).length c) (sfL b z1 z2 z3 kind arg most)] w'
theorem sf_bad {b z1 z2 z3 kind arg most : Int} (h : sfC0 b z1 z2 z3 kind arg most ≠ 0) : sfL b z1 z2 z3 kind arg most = [] ∧ sfC b z1 z2 z3 kind arg most = sfC0 b z1 z2 z3 kind arg most := by
  unfold sfL sfC
  rw [if_pos h, if_pos h]
  exact ⟨rfl, rfl⟩
theorem sfB_eq {b : Int} {n1 n2 n3 N M : Nat} {kind arg : Int} (hN : pw b n1 * pw b n2 = (N : Int)) : sfB b n1 n2 n3 kind arg M = bestP (sfQ b n1 n2 n3 N kind arg) M := by
  unfold sfB
  simp only [Int.toNat_natCast, hN]
theorem sf_found {b : Int} {n1 n2 n3 N M n k : Nat} {kind arg : Int} (h : sfC0 b n1 n2 n3 kind arg M = 0) (hN : pw b n1 * pw b n2 = (N : Int)) (hf : Found (sfQ b n1 n2 n3 N kind arg) M n k) : sfL b n1 n2 n3 kind arg M = numP n k ∧ sfC b n1 n2 n3 kind arg M = 0 := by
  have hn : ¬ (sfC0 b n1 n2 n3 kind arg M ≠ 0) := fun h2 => h2 h
  unfold sfL sfC
  rw [if_neg hn, if_neg hn, sfB_eq hN, best_some hf]
  exact ⟨rfl, rfl⟩
theorem sf_none {b : Int} {n1 n2 n3 N M : Nat} {kind arg : Int} (h : sfC0 b n1 n2 n3 kind arg M = 0) (hN : pw b n1 * pw b n2 = (N : Int)) (hf : ∀ n, n < M + 1 → ∀ k, k < 4 ^ n → sfQ b n1 n2 n3 N kind arg (numP n k) = false) : sfL b n1 n2 n3 kind arg M = [] ∧ sfC b n1 n2 n3 kind arg M = 3 := by
  have hn : ¬ (sfC0 b n1 n2 n3 kind arg M ≠ 0) := fun h2 => h2 h
  unfold sfL sfC
  rw [if_neg hn, if_neg hn, sfB_eq hN, best_none hf]
  exact ⟨rfl, rfl⟩
theorem sf_cases (b z1 z2 z3 kind arg most : Int) : sfC0 b z1 z2 z3 kind arg most ≠ 0 ∨ (sfC0 b z1 z2 z3 kind arg most = 0 ∧ inC b z1 z2 z3 = 0 ∧ isP kind arg = true ∧ ∃ n1 n2 n3 N M : Nat, z1 = n1 ∧ z2 = n2 ∧ z3 = n3 ∧ most = M ∧ M ≤ 4 ∧ NmB b n1 n2 n3 ∧ ¬ 256 < pw b n1 * pw b n2 ∧ pw b n1 * pw b n2 = (N : Int) ∧ N ≤ 256) := by
  by_cases h : sfC0 b z1 z2 z3 kind arg most = 0
  · refine .inr ⟨h, ?_⟩
    unfold sfC0 at h
    split at h
    · cases h
    rename_i hm
    have hm : isP kind arg = true ∧ betB most 0 4 = true := by simpa using hm
    have hm2 := betB_iff.1 hm.2
    rcases inC_cases b z1 z2 z3 with h2 | ⟨-, n1, n2, n3, e1, e2, e3, hB, hbig⟩
    · exact absurd h h2
    · have hm0 : 0 ≤ pw b n1 * pw b n2 := Int.mul_nonneg (by have := hB.q1; omega) (by have := hB.q2; omega)
      obtain ⟨N, hN⟩ := Int.eq_ofNat_of_zero_le hm0
      obtain ⟨M, hM⟩ := Int.eq_ofNat_of_zero_le hm2.1
      exact ⟨h, hm.1, n1, n2, n3, N, M, e1, e2, e3, hM, by omega, hB, hbig, hN, by omega⟩
  · exact .inl h
theorem sfL_len (b z1 z2 z3 kind arg most : Int) : (sfL b z1 z2 z3 kind arg most).length ≤ 4 := by
  rcases sf_cases b z1 z2 z3 kind arg most with h | ⟨h, -, -, n1, n2, n3, N, M, rfl, rfl, rfl, rfl, hM, hB, hbig, hN, hN2⟩
  · rw [(sf_bad h).1]; simp
  · by_cases hx : ∃ p : Nat × Nat, Found (sfQ b n1 n2 n3 N kind arg) M p.1 p.2
    · obtain ⟨⟨n, k⟩, hf⟩ := hx
      rw [(sf_found h hN hf).1, numP_len]
      have := hf.nM
      simp at this
      omega
    · have hn : ¬ (sfC0 b n1 n2 n3 kind arg M ≠ 0) := fun h2 => h2 h
      unfold sfL
      rw [if_neg hn, sfB_eq hN]
      unfold bestP
      rw [dif_neg hx]
      simp
set_option maxRecDepth 100000 in
set_option maxHeartbeats 6400000 in
theorem specShortestFor_any (b z1 z2 z3 kind arg most : Int) (w : World) :
    Calls Try.prog 71 #[.int .i64 b, .int .i64 z1, .int .i64 z2, .int .i64 z3, .int .i64 kind, .int .i64 arg, .int .i64 most] w (SFRet b z1 z2 z3 kind arg most w) := by
  unfold SFRet
  have KB0 := (fun W => l00In_any most 0 4 W)
  have KA0 := (fun W => l14Arg_any kind arg W)
  have KS0 := (fun W => l14Size_any b z1 z2 z3 W)
  rcases sf_cases b z1 z2 z3 kind arg most with hb | ⟨h0, hi0, hk0, n1, n2, n3, N, M, rfl, rfl, rfl, rfl, hM, hB, hbig, hN, hN2⟩
  · have HB0 := sf_bad hb
    rcases hn : nmOk b z1 z2 z3 with _ | _
    · have KN := Lib.hid (fun W => specNewMachine_no b z1 z2 z3 W hn)
      have HB := Lib.hid (show sfL b z1 z2 z3 kind arg most = [] ∧ sfC b z1 z2 z3 kind arg most = 2 from ⟨HB0.1, by rw [HB0.2]; unfold sfC0; rw [inC_no hn]; split <;> rfl⟩)
      clear hn hb KB0 KS0 KA0 HB0
      go_enter Try.func71, Try.ntmps71
      go_wp2_with fail
      (with_reducible refine (KN.out _).mono ?_); rintro e w2 ⟨rfl, hw⟩
      have hK2 := (Kn.nil w).keep hw
      go_wp2_with fail
      go_ret2
      refine ⟨none, 0, ?_, ?_⟩
      · rw [HB.out.1, HB.out.2]; rfl
      · rw [HB.out.1]
        exact (hK2.al_ _).nilIns
    obtain ⟨n1, n2, n3, rfl, rfl, rfl, hB⟩ := nmOk_true hn
    have KN := Lib.hid (fun W => specNewMachine_yes W hB)
    rcases ha : isP kind arg with _ | _
    · have HB := Lib.hid (show sfL b n1 n2 n3 kind arg most = [] ∧ sfC b n1 n2 n3 kind arg most = 2 from ⟨HB0.1, by rw [HB0.2]; unfold sfC0; rw [ha]; rfl⟩)
      rw [ha] at KA0
      have KA := Lib.hid KA0
      clear hb KS0 hB hn KB0 KA0 HB0 ha
      go_enter Try.func71, Try.ntmps71
      go_wp2_with fail
      (with_reducible refine (KN.out _).mono ?_); rintro e w2 ⟨E1, g1, E2, g2, E3, g3, rfl, hKn⟩
      go_wp2_with (go_at_call 148; refine (KA.out _).mono ?_; rintro e w' ⟨rfl, rfl⟩)
      go_ret2
      refine ⟨none, 0, ?_, ?_⟩
      · rw [HB.out.1, HB.out.2]; rfl
      · rw [HB.out.1]
        exact ((hKn.bare).al_ _).nilIns
    rw [ha] at KA0
    have KA := Lib.hid KA0
    rcases hm : betB most 0 4 with _ | _
    · have HB := Lib.hid (show sfL b n1 n2 n3 kind arg most = [] ∧ sfC b n1 n2 n3 kind arg most = 2 from ⟨HB0.1, by rw [HB0.2]; unfold sfC0; rw [ha, hm]; rfl⟩)
      rw [hm] at KB0
      have KB := Lib.hid KB0
      clear hm hb KS0 hB hn KB0 KA0 HB0 ha
      go_enter Try.func71, Try.ntmps71
      go_wp2_with fail
      (with_reducible refine (KN.out _).mono ?_); rintro e w2 ⟨E1, g1, E2, g2, E3, g3, rfl, hKn⟩
      go_wp2_with (first | (go_at_call 148; refine (KA.out _).mono ?_; rintro e w' ⟨rfl, rfl⟩) | (go_at_call 107; refine (KB.out _).mono ?_; rintro e w' ⟨rfl, rfl⟩))
      go_ret2
      refine ⟨none, 0, ?_, ?_⟩
      · rw [HB.out.1, HB.out.2]; rfl
      · rw [HB.out.1]
        exact ((hKn.bare).al_ _).nilIns
    · have HC := (show sfC0 b n1 n2 n3 kind arg most = inC b n1 n2 n3 by unfold sfC0; rw [ha, hm]; rfl)
      rw [HC] at hb HB0
      rw [hm] at KB0
      have KB := Lib.hid KB0
      obtain ⟨c, hc⟩ : ∃ c, inC b n1 n2 n3 = c := ⟨_, rfl⟩
      rw [hc] at KS0 hb HB0
      have HB := Lib.hid HB0
      have KS := Lib.hid KS0
      have hcb : (c != 0) = true := by simpa using hb
      have hcb2 : (c == 0) = false := by simpa using hb
      clear hm hb hc HC hB hn KB0 KS0 KA0 ha HB0
      go_enter Try.func71, Try.ntmps71
      go_wp2_with fail
      (with_reducible refine (KN.out _).mono ?_); rintro e w2 ⟨E1, g1, E2, g2, E3, g3, rfl, hKn⟩
      go_wp2_with (first | (go_at_call 148; refine (KA.out _).mono ?_; rintro e w' ⟨rfl, rfl⟩) | (go_at_call 107; refine (KB.out _).mono ?_; rintro e w' ⟨rfl, rfl⟩))
      refine Calls.kn (hKn.bare.al_ _) ?_; intro w3 hK3
      (with_reducible refine (KS.out _).mono ?_); rintro e w4 ⟨rfl, hw⟩
      have hK4 := hK3.keep hw
      go_wp2_with fail
      go_ret2
      refine ⟨none, 0, ?_, ?_⟩
      · rw [HB.out.1, HB.out.2]; rfl
      · rw [HB.out.1]
        exact hK4.nilIns
  have KB := Lib.hid (fun W => calls_val (l00In_any (M : Int) 0 4 W) (congrArg Value.bool (betB_iff.2 (show (0 : Int) ≤ M ∧ (M : Int) ≤ 4 by omega))))
  have KA := Lib.hid (fun W => calls_val (l14Arg_any kind arg W) (congrArg Value.bool hk0))
  have KN := Lib.hid (fun W => specNewMachine_yes W hB)
  have KS := Lib.hid (fun W => calls_val (l14Size_any b n1 n2 n3 W) (congrArg (Value.int .i64) hi0))
  have KF := (fun (n k : Nat) (hn : n ≤ 4) (LA : Option Addr) (lc : Nat) W hr => l14First_any (L := numP n k) (n := n) (lc := lc) (LA := LA) kind arg W hB hN hN2 (numP_ok n k hn) hr hk0)
  have HOK := Lib.hid (fun L => show sfQ b n1 n2 n3 N kind arg L = decide (failsL (badB L b n1 n2 n3 kind arg) N = []) from rfl)
  have HFD := Lib.hid (fun n k => sf_found (M := M) (n := n) (k := k) h0 hN)
  have HNO := Lib.hid (sf_none (M := M) h0 hN)
  have KF := Lib.hid KF
  clear h0 hi0 hk0 hB hbig hN KB0 KS0 KA0
  obtain ⟨q, hq⟩ : ∃ q, sfQ b n1 n2 n3 N kind arg = q := ⟨_, rfl⟩
  have HFD := HFD.out
  have HNO := HNO.out
  have HOK := HOK.out
  rw [hq] at HOK HNO
  simp only [hq] at HFD
  have HFD := Lib.hid HFD
  have HNO := Lib.hid HNO
  have HOK := Lib.hid HOK
  clear hq
  go_enter Try.func71, Try.ntmps71
  go_wp2_with fail
  (with_reducible refine (KN.out _).mono ?_); rintro e w2 ⟨E1, g1, E2, g2, E3, g3, rfl, hKn⟩
  go_wp2_with (first | (go_at_call 148; refine (KA.out _).mono ?_; rintro e w' ⟨rfl, rfl⟩) | (go_at_call 107; refine (KB.out _).mono ?_; rintro e w' ⟨rfl, rfl⟩))
  refine Calls.kn (hKn.bare.al_ _) ?_; intro w3 hK3
  (with_reducible refine (KS.out _).mono ?_); rintro e w4 ⟨rfl, hw⟩
  have hK4 := hK3.keep hw
  go_wp2_with fail
  clear hKn hK3 hw
  go_loopw [18] (fun ii wr => ∃ (n : Nat), n ≤ M + 1 ∧ ii = .int .i64 n ∧ Hid (∀ n', n' < n → ∀ k', k' < 4 ^ n' → q (numP n' k') = false) ∧ Kn w [] wr) (fun ii _ => M + 1 - (intOf ii).toNat)
  case atStart => exact ⟨0, Nat.zero_le _, rfl, Lib.hid (fun n' h => absurd h (Nat.not_lt_zero _)), hK4⟩
  case round =>
    obtain ⟨n, hn, rfl, HLS, hK⟩ := hrel
    clear hK4
    obtain ⟨wo, hwo⟩ : ∃ wo : World, wo = wr := ⟨_, rfl⟩
    subst hwo
    by_cases hnM : n < M + 1
    · have hi1 : (n : Int) ≤ (M : Int) := by omega
      have hn4 : n ≤ 4 := by omega
      go_wp2_with fail
      have hK1 := ((hK.al [] 156).litRow (size := 2) (n := 0) rfl (by decide))
      go_loopw [19, 20] (fun vv kk wr => ∃ (k g c : Nat), k ≤ n ∧ kk = .int .i64 k ∧ vv = .slice (some ⟨g, 0, none⟩) k c ∧ Kn w [rowInsN (some ⟨g, 0, none⟩) k c (List.replicate k addI)] wr) (fun _ kk _ => n - (intOf kk).toNat)
      case atStart => exact ⟨0, wo.heap.size, 0, Nat.zero_le _, rfl, rfl, hK1⟩
      case round =>
        obtain ⟨k, g, c, hk, rfl, rfl, hK2⟩ := hrel
        clear hK1 hK
        by_cases hkn : k < n
        · have hk1 : (k : Int) < (n : Int) := by omega
          have HRP := Lib.hid (show List.replicate (k + 1) addI = List.replicate k addI ++ [⟨2, 1⟩] from List.replicate_succ')
          have hdl : (List.replicate k addI).length = k := List.length_replicate
          obtain ⟨ds, hds⟩ : ∃ ds, List.replicate k addI = ds := ⟨_, rfl⟩
          rw [hds] at hK2 hdl HRP
          have hK3 : Kn w [rowIns (.slice (some ⟨g, 0, none⟩) k c) ds] wr := by unfold rowIns; rw [hdl]; exact hK2
          have HDL := Lib.hid hdl
          have hl9 : ds.length ≤ 100 := by omega
          clear hds hdl hK2
          go_wp2_with (at_builtin; refine kn_pushIns (m := []) (ys := [⟨2, 1⟩]) rfl _ _ rfl _ ds rfl rfl (hK3.al [.int .i64 2, .int .i64 1] 156) (by simp; omega) ?_; intro v3 w3 hK4; obtain ⟨g', c', rfl⟩ := Kn.rowForm hK4 (by simp))
          go_roundw
          case rel =>
            have hl2 : (ds ++ [(⟨2, 1⟩ : Ins)]).length = k + 1 := by rw [List.length_append, HDL.out]; rfl
            refine ⟨k + 1, g', c', by omega, by go_num, by rw [HDL.out], ?_⟩
            rw [HRP.out]
            unfold rowIns at hK4
            rw [hl2] at hK4
            exact hK4
          case measure => simp [intOf]; omega
        · have hk1 : ¬ (k : Int) < (n : Int) := by omega
          obtain rfl : k = n := by omega
          rw [← numP_zero] at hK2
          go_wp2_with fail
          go_loopg [21] (4 ^ k) (fun gk mm wr => (∃ x, mm = .bool true ∧ x < 4 ^ k ∧ gk = 4 ^ k - x ∧ Hid (∀ k', k' < x → q (numP k k') = false) ∧ Kn w [rowInsN (some ⟨g, 0, none⟩) k c (numP k x)] wr) ∨ (mm = .bool false ∧ Hid (∀ k', k' < 4 ^ k → q (numP k k') = false) ∧ Kn w [] wr))
          case atStart => exact .inl ⟨0, rfl, Nat.pow_pos (by decide), rfl, Lib.hid (fun k' h => absurd h (Nat.not_lt_zero _)), hK2⟩
          case round =>
            clear hK2
            rcases hrel with ⟨x, rfl, hx, hgk, HSM, hK3⟩ | ⟨rfl, HSM, hK3⟩
            · have HX := Lib.hid hx
              have HGK := Lib.hid hgk
              have KF1 := KF.out k x hn4 (some ⟨g, 0, none⟩) c
              have HO := HOK.out (numP k x)
              have hhd := head_neg (p := badB (numP k x) b n1 n2 n3 kind arg) (N := N)
              obtain ⟨rs, hrs⟩ : ∃ rs, failsL (badB (numP k x) b n1 n2 n3 kind arg) N = rs := ⟨_, rfl⟩
              rw [hrs] at KF1 hhd HO
              obtain ⟨z, hz⟩ : ∃ z, rs.headD (-1) = z := ⟨_, rfl⟩
              rw [hz] at KF1 hhd
              have KF1 := Lib.hid KF1
              have HO := Lib.hid HO
              clear hrs hz hx hgk
              rcases hhd with ⟨hf, rfl⟩ | ⟨hf, h2, h3, h4⟩
              · have HB := Lib.hid (HFD.out k x ⟨by omega, HX.out, by rw [HO.out, hf]; simp, HLS.out, HSM.out⟩)
                clear hf
                go_wp2_with fail
                (refine (KF1.out _ (hK3.rlInsN (numP_len _ _))).mono ?_); rintro e w5 ⟨rfl, hw⟩
                have hK4 := hK3.keep hw
                clear hw
                go_wp2_with fail
                go_ret2
                refine ⟨some ⟨g, 0, none⟩, c, ?_, ?_⟩
                · rw [HB.out.1, HB.out.2, numP_len]; rfl
                · rw [HB.out.1]
                  unfold rowIns
                  rw [numP_len]
                  exact hK4
              · have HNQ := Lib.hid (show q (numP k x) = false by rw [HO.out]; simpa using hf)
                rw [← h2] at h3 h4
                have hz0 : ¬ z < 0 := by omega
                clear hf h2
                go_wp2_with fail
                (refine (KF1.out _ (hK3.rlInsN (numP_len _ _))).mono ?_); rintro e w5 ⟨rfl, hw⟩
                have hK4 := hK3.keep hw
                clear hw hK3
                go_wp2_with fail
                refine (l14Next_any g k c x _ hn4 HX.out hK4).mono ?_; rintro e w6 (⟨hlt, rfl, hK5⟩ | ⟨heq, rfl, hK5⟩)
                · have HLT := Lib.hid hlt
                  clear hlt
                  go_wp2_with fail
                  go_roundg (4 ^ k - (x + 1))
                  case rel =>
                    refine .inl ⟨x + 1, rfl, HLT.out, rfl, Lib.hid (fun k' h => ?_), hK5⟩
                    rcases Nat.lt_or_ge k' x with h1 | h1
                    · exact HSM.out k' h1
                    · obtain rfl : k' = x := by omega
                      exact HNQ.out
                  case measure => have := HX.out; have := HGK.out; omega
                · have HEQ := Lib.hid heq
                  clear heq
                  go_wp2_with fail
                  go_roundg 0
                  case rel =>
                    refine .inr ⟨rfl, Lib.hid (fun k' h => ?_), hK5.bare⟩
                    rcases Nat.lt_or_ge k' x with h1 | h1
                    · exact HSM.out k' h1
                    · obtain rfl : k' = x := by have := HEQ.out; omega
                      exact HNQ.out
                  case measure => have := HX.out; have := HGK.out; omega
            · go_wp2_with fail
              go_roundw
              case rel =>
                refine ⟨k + 1, by omega, by go_num, Lib.hid (fun n' h => ?_), hK3⟩
                rcases Nat.lt_or_ge n' k with h1 | h1
                · exact HLS.out n' h1
                · obtain rfl : n' = k := by omega
                  exact HSM.out
              case measure => simp [intOf]; omega
    · have hi1 : ¬ (n : Int) ≤ (M : Int) := by omega
      have hnn : n = M + 1 := by omega
      have HB := Lib.hid (HNO.out (by rw [← hnn]; exact HLS.out))
      clear hnn
      go_wp2_with fail
      go_ret2
      refine ⟨none, 0, ?_, ?_⟩
      · rw [HB.out.1, HB.out.2]; rfl
      · rw [HB.out.1]
        exact hK.nilIns
end Go.Proofs.Ytkaaiocbiknipaa

namespace Go.Proofs.Ytkaaiocbiknipaa
open Go.RowKit Go.Sort
/-- a program in memory -/
structure PE where
  g : Nat
  c : Nat
  L : List Ins
def PE.v (p : PE) : Value := .slice (some ⟨p.g, 0, none⟩) p.L.length p.c
theorem peStable (ps : List PE) : ∀ w w' : World, (∀ p ∈ ps, (rowIns p.v p.L).holds w) → w.heap.size ≤ w'.heap.size → (∀ k, (∃ p ∈ ps, p.g = k) → w'.heap[k]? = w.heap[k]?) → ∀ p ∈ ps, (rowIns p.v p.L).holds w' :=
  fun _ _ h hs hb p hp => Ent.stable (h p hp) hs (fun k hk => hb k ⟨p, hp, by cases hk; rfl⟩)
/-- programs that are owned together -/
def peE (ps : List PE) : Ent := .any (fun k => ∃ p ∈ ps, p.g = k) (fun w => ∀ p ∈ ps, (rowIns p.v p.L).holds w) (peStable ps)
/-- the row of their slices -/
def progsN (g n c : Nat) (ps : List PE) : Ent := .row (.slice (some ⟨g, 0, none⟩) n c) 72 1 n (ps.map PE.v)
section
variable {w0 w : World} {m : List Ent} {ps : List PE}
theorem Kn.pePick (h : Kn w0 (peE ps :: m) w) {p : PE} (hp : p ∈ ps) : Kn w0 (rowIns p.v p.L :: m) w := by
  obtain ⟨ha, hb⟩ := List.pairwise_cons.1 h.apart
  refine ⟨h.below, fun x hx => ?_, fun x hx k hk => ?_, List.pairwise_cons.2 ⟨fun x hx k hk => ?_, hb⟩⟩
  · rcases List.mem_cons.1 hx with rfl | hx
    · exact (h.ents (peE ps) (List.mem_cons_self ..)).1 p hp
    · exact h.ents x (List.mem_cons_of_mem _ hx)
  · rcases List.mem_cons.1 hx with rfl | hx
    · exact h.own (peE ps) (List.mem_cons_self ..) k ⟨p, hp, by cases hk; rfl⟩
    · exact h.own x (List.mem_cons_of_mem _ hx) k hk
  · exact ha x hx k ⟨p, hp, by cases hk; rfl⟩
theorem Kn.peNil (h : Kn w0 m w) : Kn w0 (peE [] :: m) w := by
  refine ⟨h.below, fun x hx => ?_, fun x hx k hk => ?_, List.pairwise_cons.2 ⟨fun x hx k hk => ?_, h.apart⟩⟩
  · rcases List.mem_cons.1 hx with rfl | hx
    · exact ⟨fun p hp => (by cases hp), fun k hk => (by obtain ⟨p, hp, -⟩ := hk; cases hp)⟩
    · exact h.ents x hx
  · rcases List.mem_cons.1 hx with rfl | hx
    · obtain ⟨p, hp, -⟩ := hk; cases hp
    · exact h.own x hx k hk
  · obtain ⟨p, hp, -⟩ := hk; cases hp
theorem Kn.peAdd {g c : Nat} {L : List Ins} (h : Kn w0 (rowIns (.slice (some ⟨g, 0, none⟩) L.length c) L :: peE ps :: m) w) : Kn w0 (peE (ps ++ [⟨g, c, L⟩]) :: m) w := by
  obtain ⟨ha, hb⟩ := List.pairwise_cons.1 h.apart
  obtain ⟨hc, hd⟩ := List.pairwise_cons.1 hb
  have e1 := h.ents _ (List.mem_cons_self ..)
  have e2 := h.ents (peE ps) (List.mem_cons_of_mem _ (List.mem_cons_self ..))
  have hf : ∀ k, (∃ p ∈ ps ++ [(⟨g, c, L⟩ : PE)], p.g = k) → (∃ p ∈ ps, p.g = k) ∨ k = g := fun k hk => by
    obtain ⟨p, hp, rfl⟩ := hk
    rcases List.mem_append.1 hp with hp | hp
    · exact .inl ⟨p, hp, rfl⟩
    · rw [List.mem_singleton.1 hp]; exact .inr rfl
  refine ⟨h.below, fun x hx => ?_, fun x hx k hk => ?_, List.pairwise_cons.2 ⟨fun x hx k hk => ?_, hd⟩⟩
  · rcases List.mem_cons.1 hx with rfl | hx
    · refine ⟨fun p hp => ?_, fun k hk => ?_⟩
      · rcases List.mem_append.1 hp with hp | hp
        · exact e2.1 p hp
        · rw [List.mem_singleton.1 hp]; exact e1
      · rcases hf k hk with hk | rfl
        · exact e2.2 k hk
        · exact Ent.lt e1 rfl
    · exact h.ents x (List.mem_cons_of_mem _ (List.mem_cons_of_mem _ hx))
  · rcases List.mem_cons.1 hx with rfl | hx
    · rcases hf k hk with hk | rfl
      · exact h.own (peE ps) (List.mem_cons_of_mem _ (List.mem_cons_self ..)) k hk
      · exact h.own _ (List.mem_cons_self ..) k rfl
    · exact h.own x (List.mem_cons_of_mem _ (List.mem_cons_of_mem _ hx)) k hk
  · rcases hf k hk with hk | rfl
    · exact hc x hx k hk
    · exact ha x (List.mem_cons_of_mem _ hx) k rfl
end
theorem Kn.peCells {w0 w : World} {m : List Ent} {ps : List PE} (h : Kn w0 (peE ps :: m) w) {g c : Nat} {L : List Ins} (hp : (⟨g, c, L⟩ : PE) ∈ ps) : ∀ j u, (cellsIns L)[j]? = some u → w.cell? ((⟨g, 0, none⟩ : Addr).add j) = some u := by
  have h0 : w.ownsRow 0 156 2 (.slice (some ⟨g, 0, none⟩) L.length c) L.length (cellsIns L) := (h.pePick hp).at0
  intro j u hu
  exact h0.cells (g := g) rfl j u hu
theorem tpPP : TP 183 72 (.slice none 0 0) 1 24 := ⟨Try.underlying183, by kernel_rfl, rfl, by decide⟩
/-- the first n programs of s strokes -/
structure PSx (s : Nat) (ps : List PE) (n : Nat) : Prop where
  len : ps.length = n
  at_ : ∀ i (h : i < ps.length), ps[i].L = numP s i
theorem PSx.nil (s : Nat) : PSx s [] 0 := ⟨rfl, fun i h => by simp at h⟩
theorem PSx.snoc {s n : Nat} {ps : List PE} (h : PSx s ps n) {p : PE} (hp : p.L = numP s n) : PSx s (ps ++ [p]) (n + 1) := by
  refine ⟨by rw [List.length_append, h.len]; rfl, fun i hi => ?_⟩
  rw [List.length_append, List.length_singleton] at hi
  rcases Nat.lt_or_ge i ps.length with h1 | h1
  · rw [List.getElem_append_left h1]; exact h.at_ i h1
  · obtain rfl : i = ps.length := by omega
    rw [List.getElem_append_right (Nat.le_refl _)]
    simp only [Nat.sub_self, List.getElem_cons_zero]
    rw [hp, h.len]
theorem numP_ext (s k o : Nat) (ho : o < 4) : numP s k ++ [⟨2 + (o : Int), 1⟩] = numP (s + 1) (4 * k + o) := by
  show _ = numP s ((4 * k + o) / 4) ++ [⟨2 + (((4 * k + o) % 4 : Nat) : Int), 1⟩]
  rw [show (4 * k + o) / 4 = k by omega, show (4 * k + o) % 4 = o by omega]
set_option maxRecDepth 100000 in
set_option maxHeartbeats 12800000 in
theorem ShortestFor_any (b z1 z2 z3 kind arg most : Int) (w : World) :
    Calls Try.prog 72 #[.int .i64 b, .int .i64 z1, .int .i64 z2, .int .i64 z3, .int .i64 kind, .int .i64 arg, .int .i64 most] w (SFRet b z1 z2 z3 kind arg most w) := by
  unfold SFRet
  have KA0 := (fun W => isPromise_any kind arg W)
  have KB0 := (fun W => between_B most 0 4 W)
  rcases sf_cases b z1 z2 z3 kind arg most with hb | ⟨h0, hi0, hk0, n1, n2, n3, N, M, rfl, rfl, rfl, rfl, hM, hB, hbig, hN, hN2⟩
  · have HB0 := sf_bad hb
    rcases ha : isP kind arg with _ | _
    · have HB := Lib.hid (show sfL b z1 z2 z3 kind arg most = [] ∧ sfC b z1 z2 z3 kind arg most = 2 from ⟨HB0.1, by rw [HB0.2]; unfold sfC0; rw [ha]; rfl⟩)
      rw [ha] at KA0
      have KA := Lib.hid KA0
      clear hb KB0 KA0 HB0 ha
      go_enter Try.func72, Try.ntmps72
      go_wp2_with (go_at_call 150; refine (KA.out _).mono ?_; rintro e w' ⟨rfl, rfl⟩)
      go_ret2
      refine ⟨none, 0, ?_, ?_⟩
      · rw [HB.out.1, HB.out.2]; rfl
      · rw [HB.out.1]
        exact (Kn.nil w).nilIns
    rw [ha] at KA0
    have KA := Lib.hid KA0
    rcases hm : betB most 0 4 with _ | _
    · have HB := Lib.hid (show sfL b z1 z2 z3 kind arg most = [] ∧ sfC b z1 z2 z3 kind arg most = 2 from ⟨HB0.1, by rw [HB0.2]; unfold sfC0; rw [ha, hm]; rfl⟩)
      rw [hm] at KB0
      have KB := Lib.hid KB0
      clear hm hb KB0 KA0 HB0 ha
      go_enter Try.func72, Try.ntmps72
      go_wp2_with (first | (go_at_call 150; refine (KA.out _).mono ?_; rintro e w' ⟨rfl, rfl⟩) | (go_at_call 81; refine (KB.out _).mono ?_; rintro e w' ⟨rfl, hw⟩; have hK := (Kn.nil w).keep hw))
      go_ret2
      refine ⟨none, 0, ?_, ?_⟩
      · rw [HB.out.1, HB.out.2]; rfl
      · rw [HB.out.1]
        exact hK.nilIns
    · have HC := (show sfC0 b z1 z2 z3 kind arg most = inC b z1 z2 z3 by unfold sfC0; rw [ha, hm]; rfl)
      rw [HC] at hb HB0
      rw [hm] at KB0
      have KB := Lib.hid KB0
      have KI := (fun W => inputsOf_bad b z1 z2 z3 W hb)
      obtain ⟨c, hc⟩ : ∃ c, inC b z1 z2 z3 = c := ⟨_, rfl⟩
      rw [hc] at KI hb HB0
      have HB := Lib.hid HB0
      have KI := Lib.hid KI
      have hcb : (c != 0) = true := by simpa using hb
      have hcb2 : (c == 0) = false := by simpa using hb
      clear hm hb hc HC KB0 KA0 ha HB0
      go_enter Try.func72, Try.ntmps72
      go_wp2_with (first | (go_at_call 150; refine (KA.out _).mono ?_; rintro e w' ⟨rfl, rfl⟩) | (go_at_call 81; refine (KB.out _).mono ?_; rintro e w' ⟨rfl, hw⟩; have hK := (Kn.nil w).keep hw) | (go_at_call 160; refine (KI.out _).mono ?_; rintro e w'' ⟨rfl, hw2⟩; have hK2 := hK.keep hw2))
      go_ret2
      refine ⟨none, 0, ?_, ?_⟩
      · rw [HB.out.1, HB.out.2]; rfl
      · rw [HB.out.1]
        exact (hK2.al_ _).nilIns
  have KB := Lib.hid (fun W => calls_val (between_B (M : Int) 0 4 W) (congrArg Value.bool (betB_iff.2 (show (0 : Int) ≤ M ∧ (M : Int) ≤ 4 by omega))))
  have KA := Lib.hid (fun W => calls_val (isPromise_any kind arg W) (congrArg Value.bool hk0))
  have KI := (fun W => inputsOf_fine W hB hbig)
  rw [hN] at KI
  have KF := (fun (L : List Ins) (hL : vprog L = true) (LA : Option Addr) (lc : Nat) (E1 E2 E3 : Option Addr) (g1 g2 g3 : Nat) W q1 q2 q3 hr => failures_any (L := L) (n := L.length) (lc := lc) (LA := LA) E1 E2 E3 g1 g2 g3 kind arg 1 W hB hN hN2 q1 q2 q3 hL hr hk0 (by decide))
  have HOK := (fun L => show sfQ b n1 n2 n3 N kind arg L = decide (failsL (badB L b n1 n2 n3 kind arg) N = []) from rfl)
  have HFD := (fun n k => sf_found (M := M) (n := n) (k := k) h0 hN)
  have HNO := (sf_none (M := M) h0 hN)
  obtain ⟨q, hq⟩ : ∃ q, sfQ b n1 n2 n3 N kind arg = q := ⟨_, rfl⟩
  rw [hq] at HOK HNO
  simp only [hq] at HFD
  have HFD := Lib.hid HFD
  have HNO := Lib.hid HNO
  have HOK := Lib.hid HOK
  obtain ⟨x1, hx1⟩ : ∃ x, digD b n1 0 = x := ⟨_, rfl⟩
  obtain ⟨x2, hx2⟩ : ∃ x, digD b n2 0 = x := ⟨_, rfl⟩
  obtain ⟨x3, hx3⟩ : ∃ x, digD b n3 0 = x := ⟨_, rfl⟩
  rw [hx1, hx2, hx3] at KI KF
  have KI := Lib.hid KI
  have KF := Lib.hid KF
  clear h0 hi0 hk0 hB hbig hN KB0 KA0 hq hx1 hx2 hx3
  go_enter Try.func72, Try.ntmps72
  go_wp2_with (first | (go_at_call 150; refine (KA.out _).mono ?_; rintro e w' ⟨rfl, rfl⟩) | (go_at_call 81; refine (KB.out _).mono ?_; rintro e w1 ⟨rfl, hw⟩; have hK := (Kn.nil w).keep hw; clear hw) | (go_at_call 160; refine (KI.out _).mono ?_; rintro e w2 ⟨E1, g1, E2, g2, E3, g3, rfl, hKn⟩; have hK2 := hK.join hKn; clear hK hKn))
  have hK3 := hK2.al [.int .i64 b, .slice E1 x1.length g1, .int .i64 b, .slice E2 x2.length g2, .int .i64 b, .slice E3 x3.length g3, .int .i64 0, .int .i64 (N : Int)] 175
  have hK4 := ((hK3.al [] 156).litRow (size := 2) (n := 0) rfl (by decide)).al [.slice (some ⟨w2.heap.size + 1, 0, none⟩) 0 0] 72
  simp only [World.size_alloc] at hK4
  have hK5 := (hK4.litRow (size := 1) (n := 1) rfl (by decide)).sw1
  have hK6 : Kn w (peE [⟨w2.heap.size + 1, 0, []⟩] :: progsN (w2.heap.size + 1 + 1) 1 1 [⟨w2.heap.size + 1, 0, []⟩] :: [.blk w2.heap.size [.int .i64 b, .slice E1 x1.length g1, .int .i64 b, .slice E2 x2.length g2, .int .i64 b, .slice E3 x3.length g3, .int .i64 0, .int .i64 (N : Int)] 175, rowI E3 g3 x3, rowI E2 g2 x2, rowI E1 g1 x1]) _ := (Kn.peAdd (ps := []) (L := []) (hK5.peNil.sw1))
  have hK7 := hK6.sw1
  clear hK2 hK3 hK4 hK5 hK6
  go_loopw [18, 19] (fun pp ss wr => ∃ (s : Nat) (ps : List PE) (g c P : Nat), s ≤ M ∧ P ≤ 256 ∧ ss = .int .i64 s ∧ pp = .slice (some ⟨g, 0, none⟩) P c ∧ Hid (P = 4 ^ s ∧ PSx s ps P) ∧ Hid (∀ n', n' < s → ∀ k', k' < 4 ^ n' → q (numP n' k') = false) ∧ Kn w (progsN g P c ps :: peE ps :: [.blk w2.heap.size [.int .i64 b, .slice E1 x1.length g1, .int .i64 b, .slice E2 x2.length g2, .int .i64 b, .slice E3 x3.length g3, .int .i64 0, .int .i64 (N : Int)] 175, rowI E3 g3 x3, rowI E2 g2 x2, rowI E1 g1 x1]) wr) (fun _ ss _ => M - (intOf ss).toNat)
  case atStart => exact ⟨0, [⟨w2.heap.size + 1, 0, []⟩], w2.heap.size + 1 + 1, 1, 1, Nat.zero_le _, by decide, rfl, rfl, Lib.hid ⟨rfl, (PSx.nil 0).snoc (p := ⟨w2.heap.size + 1, 0, []⟩) rfl⟩, Lib.hid (fun n' h => absurd h (Nat.not_lt_zero _)), hK7⟩
  case round =>
    obtain ⟨s, ps, g, c, P, hs, hP, rfl, rfl, HPS, HLS, hK⟩ := hrel
    clear hK7
    obtain ⟨wo, hwo⟩ : ∃ wo : World, wo = wr := ⟨_, rfl⟩
    subst hwo
    go_wp2_with fail
    go_loopw [52] (fun kk wr => ∃ (k : Nat), k ≤ P ∧ kk = .int .i64 k ∧ Hid (∀ k', k' < k → q (numP s k') = false) ∧ Kn w (progsN g P c ps :: peE ps :: [.blk w2.heap.size [.int .i64 b, .slice E1 x1.length g1, .int .i64 b, .slice E2 x2.length g2, .int .i64 b, .slice E3 x3.length g3, .int .i64 0, .int .i64 (N : Int)] 175, rowI E3 g3 x3, rowI E2 g2 x2, rowI E1 g1 x1]) wr) (fun kk _ => P - (intOf kk).toNat)
    case atStart => exact ⟨0, Nat.zero_le _, rfl, Lib.hid (fun k' h => absurd h (Nat.not_lt_zero _)), hK⟩
    case round =>
      obtain ⟨k, hk, rfl, HSM, hK2⟩ := hrel
      clear hK
      by_cases hkP : k < P
      · have hk1 : (k : Int) < (P : Int) := by omega
        have hkl : k < ps.length := by rw [HPS.out.2.len]; exact hkP
        obtain ⟨p, hp⟩ : ∃ p, ps[k] = p := ⟨_, rfl⟩
        have hpm : p ∈ ps := by rw [← hp]; exact List.getElem_mem _
        have hpL : p.L = numP s k := by rw [← hp]; exact HPS.out.2.at_ k hkl
        have HPP := Lib.hid (show (ps.map PE.v)[k]? = some (.slice (some ⟨p.g, 0, none⟩) p.L.length p.c) by rw [List.getElem?_map, List.getElem?_eq_getElem hkl, hp]; rfl)
        obtain ⟨pg, pc, L⟩ := p
        replace hpL : L = numP s k := hpL
        obtain ⟨y1, y2⟩ := Kn.rowCell (g := g) (c := c) (n := P) (size := 1) (xs := ps.map PE.v) hK2 HPP.out
        have y1 : wr.cell? ⟨g, k, none⟩ = some (.slice (some ⟨pg, 0, none⟩) L.length pc) := y1
        have HPM := Lib.hid hpm
        have KF1 := KF.out L (by rw [hpL]; exact numP_ok _ _ (by omega)) (some ⟨pg, 0, none⟩) pc E1 E2 E3 g1 g2 g3
        have HO := HOK.out L
        have hto := take_one (xs := failsL (badB L b n1 n2 n3 kind arg) N)
        obtain ⟨rs, hrs⟩ : ∃ rs, (failsL (badB L b n1 n2 n3 kind arg) N).take 1 = rs := ⟨_, rfl⟩
        rw [hrs] at KF1 hto
        have KF1 := Lib.hid KF1
        have HPL := Lib.hid hpL
        have hll : L.length ≤ 100 := by rw [hpL, numP_len]; omega
        clear hp hpm hpL hrs hkl
        rcases hto with ⟨hf, rfl⟩ | ⟨hf, x, rfl⟩
        · have hq1 : q L = true := HO.trans (decide_eq_true hf)
          have hk4 : k < 4 ^ s := Nat.lt_of_lt_of_le hkP (Nat.le_of_eq HPS.out.1)
          have hfd : Found q M s k := ⟨hs, hk4, by rw [← HPL.out]; exact hq1, HLS.out, HSM.out⟩
          have HB := Lib.hid (HFD.out s k hfd)
          clear hq1 hk4 hfd
          clear hf HO
          obtain ⟨a1, a2, a3, -⟩ := hK2.cells
          go_wp2_with fail
          (refine (KF1.out _ (Kn.riv (hK2.sel [5] 99 (by decide) (by decide))) (Kn.riv (hK2.sel [4] 99 (by decide) (by decide))) (Kn.riv (hK2.sel [3] 99 (by decide) (by decide))) ((hK2.drop.pePick HPM.out).rlIns).2).mono ?_); rintro e w4 ⟨FA, fc, rfl, hKf⟩
          have hK3 := hK2.keep hKf.below
          clear hKf a1 a2 a3
          go_wp2_with fail
          go_ret2
          refine ⟨some ⟨pg, 0, none⟩, pc, ?_, ?_⟩
          · rw [HB.out.1, HB.out.2, ← HPL.out]; rfl
          · rw [HB.out.1, ← HPL.out]
            exact (hK3.drop.pePick HPM.out).sel [0] 99 (by decide) (by decide)
        · have hq1 : q L = false := HO.trans (decide_eq_false hf)
          have HNQ := Lib.hid (show q (numP s k) = false by rw [← HPL.out]; exact hq1)
          clear hq1
          clear hf HO
          obtain ⟨a1, a2, a3, -⟩ := hK2.cells
          go_wp2_with fail
          (refine (KF1.out _ (Kn.riv (hK2.sel [5] 99 (by decide) (by decide))) (Kn.riv (hK2.sel [4] 99 (by decide) (by decide))) (Kn.riv (hK2.sel [3] 99 (by decide) (by decide))) ((hK2.drop.pePick HPM.out).rlIns).2).mono ?_); rintro e w4 ⟨FA, fc, rfl, hKf⟩
          have hK3 := hK2.keep hKf.below
          clear hKf a1 a2 a3
          go_wp2_with fail
          go_roundw
          case rel =>
            refine ⟨k + 1, by omega, by go_num, Lib.hid (fun k' h => ?_), hK3⟩
            rcases Nat.lt_or_ge k' k with h1 | h1
            · exact HSM.out k' h1
            · obtain rfl : k' = k := by omega
              exact HNQ.out
          case measure => simp [intOf]; omega
      · have hk1 : ¬ (k : Int) < (P : Int) := by omega
        obtain rfl : P = k := by omega
        by_cases hsM : s = M
        · have hs1 : (s : Int) = (M : Int) := by omega
          have hs2 : ((s : Int) == (M : Int)) = true := by simpa using hs1
          have HB := Lib.hid (HNO.out (fun n hn k' hk' => by
            rcases Nat.lt_or_ge n s with h1 | h1
            · exact HLS.out n h1 k' hk'
            · obtain rfl : n = s := by omega
              exact HSM.out k' (by rw [HPS.out.1]; exact hk')))
          subst hsM
          clear hs1
          go_wp2_with fail
          go_ret2
          refine ⟨none, 0, ?_, ?_⟩
          · rw [HB.out.1, HB.out.2]; rfl
          · rw [HB.out.1]
            exact hK2.bare.nilIns
        · have hs1 : ¬ (s : Int) = (M : Int) := by omega
          have hs2 : ((s : Int) == (M : Int)) = false := by simpa using hs1
          go_wp2_with fail
          obtain ⟨w4, hw4⟩ : ∃ w4 : World, w4 = wr := ⟨_, rfl⟩
          subst hw4
          have hKb := (((hK2.al [] 72).litRow (size := 1) (n := 0) rfl (by decide)).sw2.sw2).peNil
          have hKb : Kn w (progsN w4.heap.size (4 * 0) 0 [] :: peE [] :: progsN g P c ps :: peE ps :: [.blk w2.heap.size [.int .i64 b, .slice E1 x1.length g1, .int .i64 b, .slice E2 x2.length g2, .int .i64 b, .slice E3 x3.length g3, .int .i64 0, .int .i64 (N : Int)] 175, rowI E3 g3 x3, rowI E2 g2 x2, rowI E1 g1 x1]) (w4.alloc (.cells #[] 72)) := hKb.sel [3, 0, 1, 2, 4, 5, 6, 7] 99 (by decide) (by decide)
          go_loopw [22, 71] (fun vv kk wr => ∃ (k g' c' : Nat) (ps' : List PE), k ≤ P ∧ kk = .int .i64 k ∧ vv = .slice (some ⟨g', 0, none⟩) (4 * k) c' ∧ Hid (PSx (s + 1) ps' (4 * k)) ∧ Kn w (progsN g' (4 * k) c' ps' :: peE ps' :: progsN g P c ps :: peE ps :: [.blk w2.heap.size [.int .i64 b, .slice E1 x1.length g1, .int .i64 b, .slice E2 x2.length g2, .int .i64 b, .slice E3 x3.length g3, .int .i64 0, .int .i64 (N : Int)] 175, rowI E3 g3 x3, rowI E2 g2 x2, rowI E1 g1 x1]) wr) (fun _ kk _ => P - (intOf kk).toNat)
          case atStart => exact ⟨0, w4.heap.size, 0, [], Nat.zero_le _, rfl, rfl, Lib.hid (PSx.nil _), hKb⟩
          case round =>
            obtain ⟨k, g', c', ps', hk, rfl, rfl, HQS, hK⟩ := hrel
            clear hKb hK2
            obtain ⟨w5, hw5⟩ : ∃ w5 : World, w5 = wr := ⟨_, rfl⟩
            subst hw5
            by_cases hkP : k < P
            · have hk1 : (k : Int) < (P : Int) := by omega
              have hkl : k < ps.length := by rw [HPS.out.2.len]; exact hkP
              obtain ⟨p, hp⟩ : ∃ p, ps[k] = p := ⟨_, rfl⟩
              have hpm : p ∈ ps := by rw [← hp]; exact List.getElem_mem _
              have hpL : p.L = numP s k := by rw [← hp]; exact HPS.out.2.at_ k hkl
              have HPP := Lib.hid (show (ps.map PE.v)[k]? = some (.slice (some ⟨p.g, 0, none⟩) p.L.length p.c) by rw [List.getElem?_map, List.getElem?_eq_getElem hkl, hp]; rfl)
              obtain ⟨pg, pc, L⟩ := p
              replace hpL : L = numP s k := hpL
              obtain ⟨y1, y2⟩ := Kn.rowCell (g := g) (c := c) (n := P) (size := 1) (xs := ps.map PE.v) (hK.sel [2] 99 (by decide) (by decide)) HPP.out
              have y1 : w5.cell? ⟨g, k, none⟩ = some (.slice (some ⟨pg, 0, none⟩) L.length pc) := y1
              have HPM := Lib.hid hpm
              have HPL := Lib.hid hpL
              have hll : L.length ≤ 100 := by rw [hpL, numP_len]; omega
              clear hp hpm hpL hkl
              go_wp2_with fail
              go_loopw [22, 25] (fun vv oo wr => ∃ (o g' c' : Nat) (ps' : List PE), o ≤ 4 ∧ oo = .int .i64 (2 + (o : Int)) ∧ vv = .slice (some ⟨g', 0, none⟩) (4 * k + o) c' ∧ Hid (PSx (s + 1) ps' (4 * k + o)) ∧ Kn w (progsN g' (4 * k + o) c' ps' :: peE ps' :: progsN g P c ps :: peE ps :: [.blk w2.heap.size [.int .i64 b, .slice E1 x1.length g1, .int .i64 b, .slice E2 x2.length g2, .int .i64 b, .slice E3 x3.length g3, .int .i64 0, .int .i64 (N : Int)] 175, rowI E3 g3 x3, rowI E2 g2 x2, rowI E1 g1 x1]) wr) (fun _ oo _ => 6 - (intOf oo).toNat)
              case atStart => exact ⟨0, g', c', ps', by omega, rfl, rfl, HQS, hK⟩
              case round =>
                obtain ⟨o, g2', c2', qs, ho, rfl, rfl, HQ2, hK2⟩ := hrel
                clear hK y1 y2 HQS
                by_cases ho4 : o < 4
                · have ho1 : 2 + (o : Int) ≤ 5 := by omega
                  have hKa := (hK2.al [] 156).litRow (size := 2) (n := 0) rfl (by decide)
                  have HPC := Lib.hid ((hKa.sel [4] 99 (by decide) (by decide)).peCells HPM.out)
                  have hkb : 4 * k + o ≤ 2000 := by omega
                  have HL1 := Lib.hid (show (L ++ [(⟨2 + (o : Int), 1⟩ : Ins)]).length = L.length + 1 by simp)
                  go_wp2_with (first
                    | (at_builtin; refine kn_appC tpIns rfl _ _ rfl _ 0 [] rfl (ad := ⟨pg, 0, none⟩) (k := L.length) (c := pc) (l := cellsIns L) rfl HPC.out hKa (cellsIns_len L) (cellsIns_one L) (by omega) (by omega) ?_; intro v4 w6 hK4; rw [Nat.zero_add, List.nil_append] at hK4; clear hKa)
                    | (at_builtin; refine kn_pushIns (xs := L) (ys := [⟨2 + (o : Int), 1⟩]) rfl _ _ rfl _ rfl rfl (hK4.al [.int .i64 (2 + (o : Int)), .int .i64 1] 156) (by simp; omega) ?_; intro v7 w7 hK5; obtain ⟨gN, cN, rfl⟩ := Kn.rowForm hK5 (by simp); have hK5 := hK5; rw [HL1.out] at hK5; clear hK4; have hK6 := (hK5.al [.slice (some ⟨gN, 0, none⟩) (L.length + 1) cN] 72).sel [0, 2, 1, 3, 4, 5, 6, 7, 8, 9] 99 (by decide) (by decide))
                    | (at_builtin; refine kn_app tpPP rfl _ _ rfl (.slice (some ⟨g2', 0, none⟩) (4 * k + o) c2') (4 * k + o) (qs.map PE.v) rfl (k := 1) rfl hK6 rfl (fun u hu => by rw [List.mem_singleton.1 hu]; rfl) (by omega) (by omega) ?_; intro v8 w8 hK7; obtain ⟨gz, cz, rfl⟩ := Kn.rowForm hK7 (by omega)))
                  go_roundw
                  case rel =>
                    have hK8 := hK7.sel [1, 2, 0, 3, 4, 5, 6, 7, 8] 99 (by decide) (by decide)
                    rw [← HL1.out] at hK8
                    have hK9 := (Kn.peAdd (g := gN) (c := cN) (L := L ++ [⟨2 + (o : Int), 1⟩]) (ps := qs) hK8).sw1
                    refine ⟨o + 1, gz, cz, qs ++ [⟨gN, cN, L ++ [⟨2 + (o : Int), 1⟩]⟩], by omega, by go_num, rfl, Lib.hid (HQ2.out.snoc ?_), ?_⟩
                    · show L ++ [⟨2 + (o : Int), 1⟩] = _
                      rw [HPL.out]
                      exact numP_ext s k o ho4
                    · unfold progsN
                      rw [List.map_append]
                      exact hK9
                  case measure => simp [intOf]; omega
                · have ho1 : ¬ 2 + (o : Int) ≤ 5 := by omega
                  obtain rfl : o = 4 := by omega
                  go_wp2_with fail
                  go_roundw
                  case rel =>
                    have e4 : 4 * k + 4 = 4 * (k + 1) := by omega
                    rw [e4] at hK2 HQ2
                    exact ⟨k + 1, g2', c2', qs, by omega, by go_num, by rw [e4], HQ2, hK2⟩
                  case measure => simp [intOf]; omega
            · have hk1 : ¬ (k : Int) < (P : Int) := by omega
              obtain rfl : P = k := by omega
              go_wp2_with fail
              go_roundw
              case rel =>
                refine ⟨s + 1, ps', g', c', 4 * P, by omega, ?_, by go_num, rfl, ?_, ?_, hK.sel [0, 1, 4, 5, 6, 7] 99 (by decide) (by decide)⟩
                · have hs4 : s ≤ 3 := by omega
                  have h1 := HPS.out.1
                  have : s = 0 ∨ s = 1 ∨ s = 2 ∨ s = 3 := by omega
                  rcases this with rfl | rfl | rfl | rfl <;> omega
                · refine Lib.hid ⟨?_, HQS.out⟩
                  rw [HPS.out.1, Nat.pow_succ, Nat.mul_comm]
                · refine Lib.hid (fun n' h k' hk' => ?_)
                  rcases Nat.lt_or_ge n' s with h1 | h1
                  · exact HLS.out n' h1 k' hk'
                  · obtain rfl : n' = s := by omega
                    exact HSM.out k' (by rw [HPS.out.1]; exact hk')
              case measure => simp [intOf]; omega
end Go.Proofs.Ytkaaiocbiknipaa

namespace Go.Proofs.Ytkaaiocbiknipaa
open Go.RowKit Go.Sort
set_option maxRecDepth 100000 in
set_option maxHeartbeats 6400000 in
theorem law_ShortestFor (aBase : Int) (aSetting : Int) (aResult : Int) (aCount : Int) (aKind : Int) (aArg : Int) (aMost : Int) (w : World)  :
    Calls Try.prog 13 #[.int .i64 aBase, .int .i64 aSetting, .int .i64 aResult, .int .i64 aCount, .int .i64 aKind, .int .i64 aArg, .int .i64 aMost] w fun e w' => e = .returned (.bool true) ∧ Below w.heap.size w w' := by
  have HID0 := True.intro
  have KS := (fun  W  => specShortestFor_any aBase aSetting aResult aCount aKind aArg aMost W)
  have KI := (fun  W  => ShortestFor_any aBase aSetting aResult aCount aKind aArg aMost W)
  unfold SFRet at KS KI
  have lp := sfL_len aBase aSetting aResult aCount aKind aArg aMost
  obtain ⟨RL_, hRL⟩ : ∃ x : List Ins, sfL aBase aSetting aResult aCount aKind aArg aMost = x := ⟨_, rfl⟩
  rw [hRL] at KS KI lp
  clear hRL
  obtain ⟨kl, hkl⟩ : ∃ n, RL_.length = n := ⟨_, rfl⟩
  unfold rowIns at KI KS
  rw [hkl] at KS KI lp
  have HKL := Lib.hid hkl
  clear hkl
  obtain ⟨RI1, hRI1⟩ : ∃ x, sfC aBase aSetting aResult aCount aKind aArg aMost = x := ⟨_, rfl⟩
  rw [hRI1] at KS KI
  clear hRI1
  have KS := Lib.hid KS
  have KI := Lib.hid KI
  go_enter Try.func13, Try.ntmps13
  have hK := Kn.nil w
  go_wp2_with fail
  refine (KS.out  _ ).mono ?_; rintro e w4 ⟨SP, sp, rfl, hKn⟩
  have hK : Kn w [rowInsN SP kl sp RL_] w4 := hK.join hKn
  clear hKn
  go_wp2_with fail
  refine (KI.out  _ ).mono ?_; rintro e w5 ⟨GP, gp, rfl, hKn⟩
  have hK : Kn w [rowInsN GP kl gp RL_, rowInsN SP kl sp RL_] w5 := hK.join hKn
  clear hKn
  go_wp2_with fail
  refine (eqInstrS_same _ _ _ _ _ _ _ ((hK.sel [0] 99 (by decide) (by decide)).rlInsN HKL.out) ((hK.sel [1] 99 (by decide) (by decide)).rlInsN HKL.out) (by omega)).mono ?_; rintro e w6 ⟨rfl, hw⟩
  have hK : Kn w [rowInsN GP kl gp RL_, rowInsN SP kl sp RL_] w6 := hK.keep hw
  clear hw
  go_wp2_with fail
  refine (markInstrS_kn w _ GP kl gp _ 1 _ hK (by omega) (by omega)).mono ?_; rintro e w7 ⟨rfl, hKn⟩
  have hK : Kn w [.row (.slice GP kl gp) 156 2 kl ((upto 1 (kl * 2)).map (Value.int .i64)), rowInsN SP kl sp RL_] w7 := hKn
  clear hKn
  obtain ⟨pk1, hpk1⟩ : ∃ x : Int, 1 + (kl : Int) * 2 = x := ⟨_, rfl⟩
  have hpk1n : ¬ pk1 < 0 := by omega
  have hpk1b : 0 ≤ pk1 ∧ pk1 ≤ 40000000 := by omega
  rw [hpk1]
  have Hpk1 := Lib.hid hpk1
  clear hpk1
  go_wp2_with fail
  refine (heldInstrS_any GP kl gp 1 w _ [] (hK.sel [0] 99 (by decide) (by decide)) (by omega) (by omega)).mono ?_; rintro e w8 ⟨rfl, hww⟩; subst hww
  rw [Hpk1.out]
  go_wp2_with fail
  refine (KI.out  _ ).mono ?_; rintro e w9 ⟨HP, hp, rfl, hKn⟩
  have hK : Kn w [rowInsN HP kl hp RL_, .row (.slice GP kl gp) 156 2 kl ((upto 1 (kl * 2)).map (Value.int .i64)), rowInsN SP kl sp RL_] w9 := hK.join hKn
  clear hKn
  go_wp2_with fail
  refine (eqInstrS_same _ _ _ _ _ _ _ ((hK.sel [0] 99 (by decide) (by decide)).rlInsN HKL.out) ((hK.sel [2] 99 (by decide) (by decide)).rlInsN HKL.out) (by omega)).mono ?_; rintro e w10 ⟨rfl, hw⟩
  have hK : Kn w [rowInsN HP kl hp RL_, .row (.slice GP kl gp) 156 2 kl ((upto 1 (kl * 2)).map (Value.int .i64)), rowInsN SP kl sp RL_] w10 := hK.keep hw
  clear hw
  go_wp2_with fail
  refine (heldInstrS_any GP kl gp 1 w _ [] (hK.sel [1] 99 (by decide) (by decide)) (by omega) (by omega)).mono ?_; rintro e w11 ⟨rfl, hww⟩; subst hww
  rw [Hpk1.out]
  go_wp2_with fail
  go_ret
  exact ⟨rfl, hK.below⟩
end Go.Proofs.Ytkaaiocbiknipaa

namespace Go.Proofs.Ytkaaiocbiknipaa.fnExactShortestFor
open Go.ChangeShapes Go.WideShapes Go.ChangeAt Go.RowKit
theorem own : ownKnob Try.prog.godebug = none := by kernel_rfl
theorem laidOut : laidOutB Try.prog = true := by kernel_rfl
set_option maxRecDepth 100000 in
theorem contract (H : Type) (enc : TypeId × Value → H) (W : World) (base : Nat) (args : Array Value) (ds gs : List (DataW H)) (before : List MemPlace)
    (hval : ∀ (j : Nat) t v, Try.f13.params[j]? = some t → args[j]? = some v → Value.okWide Try.prog W .any base t v)
    (hW : DataW.Whole enc Try.prog Try.f13.params.toList Rows.fnExactShortestForSpec.vars false W args.toList ds gs before) :
    Calls Try.prog 13 args W fun e W' => ∃ v, e = .returned v ∧ Rows.fnExactShortestForSpec.post enc Try.prog Try.f13 false true false false W args v W' := by
  have hW' := hW
  obtain ⟨p, q, hA0, hV, rfl, hfz, hnd⟩ := hW
  have hA : DataW.TrodAll enc Try.prog W 0 (fun _ => true) true Try.f13.params.toList args.toList ds p := hA0
  rw [Try.params13] at hA hval
  obtain ⟨v0, vs0, d0, ds0, p0, q0, hargs, rfl, rfl, h0, r0⟩ := trodAll_cons hA
  obtain ⟨v1, vs1, d1, ds1, p1, q1, rfl, rfl, rfl, h1, r1⟩ := trodAll_cons r0
  obtain ⟨v2, vs2, d2, ds2, p2, q2, rfl, rfl, rfl, h2, r2⟩ := trodAll_cons r1
  obtain ⟨v3, vs3, d3, ds3, p3, q3, rfl, rfl, rfl, h3, r3⟩ := trodAll_cons r2
  obtain ⟨v4, vs4, d4, ds4, p4, q4, rfl, rfl, rfl, h4, r4⟩ := trodAll_cons r3
  obtain ⟨v5, vs5, d5, ds5, p5, q5, rfl, rfl, rfl, h5, r5⟩ := trodAll_cons r4
  obtain ⟨v6, vs6, d6, ds6, p6, q6, rfl, rfl, rfl, h6, r6⟩ := trodAll_cons r5
  obtain ⟨rfl, rfl, rfl⟩ := trodAll_nil r6
  obtain rfl : args = #[v0, v1, v2, v3, v4, v5, v6] := by cases args; simp_all
  obtain ⟨rfl, rfl⟩ := trodVars_none hV
  clear hA0
  simp only [List.append_nil] at hW'
  have hlt : ∀ x ∈ p0 ++ (p1 ++ (p2 ++ (p3 ++ (p4 ++ (p5 ++ (p6)))))), x.block < W.heap.size := fun x hx => by
    have := hW'.lt x (by simpa using hx)
    simpa using this
  obtain ⟨i0, rfl⟩ := okWide_int Try.underlying2 (hval 0 _ _ rfl rfl)
  have t0 := h0
  have ib0 : -9223372036854775808 ≤ i0 ∧ i0 ≤ 9223372036854775807 := by
    obtain ⟨fuel0, hf0⟩ := h0
    obtain ⟨z, e, hz⟩ := rd_i64 hf0
    have e' : [Value.int .i64 i0] = [.int .i64 z] := e
    injection e' with e'
    injection e' with _ e'
    omega
  obtain ⟨i1, rfl⟩ := okWide_int Try.underlying2 (hval 1 _ _ rfl rfl)
  have t1 := h1
  have ib1 : -9223372036854775808 ≤ i1 ∧ i1 ≤ 9223372036854775807 := by
    obtain ⟨fuel1, hf1⟩ := h1
    obtain ⟨z, e, hz⟩ := rd_i64 hf1
    have e' : [Value.int .i64 i1] = [.int .i64 z] := e
    injection e' with e'
    injection e' with _ e'
    omega
  obtain ⟨i2, rfl⟩ := okWide_int Try.underlying2 (hval 2 _ _ rfl rfl)
  have t2 := h2
  have ib2 : -9223372036854775808 ≤ i2 ∧ i2 ≤ 9223372036854775807 := by
    obtain ⟨fuel2, hf2⟩ := h2
    obtain ⟨z, e, hz⟩ := rd_i64 hf2
    have e' : [Value.int .i64 i2] = [.int .i64 z] := e
    injection e' with e'
    injection e' with _ e'
    omega
  obtain ⟨i3, rfl⟩ := okWide_int Try.underlying2 (hval 3 _ _ rfl rfl)
  have t3 := h3
  have ib3 : -9223372036854775808 ≤ i3 ∧ i3 ≤ 9223372036854775807 := by
    obtain ⟨fuel3, hf3⟩ := h3
    obtain ⟨z, e, hz⟩ := rd_i64 hf3
    have e' : [Value.int .i64 i3] = [.int .i64 z] := e
    injection e' with e'
    injection e' with _ e'
    omega
  obtain ⟨i4, rfl⟩ := okWide_int Try.underlying2 (hval 4 _ _ rfl rfl)
  have t4 := h4
  have ib4 : -9223372036854775808 ≤ i4 ∧ i4 ≤ 9223372036854775807 := by
    obtain ⟨fuel4, hf4⟩ := h4
    obtain ⟨z, e, hz⟩ := rd_i64 hf4
    have e' : [Value.int .i64 i4] = [.int .i64 z] := e
    injection e' with e'
    injection e' with _ e'
    omega
  obtain ⟨i5, rfl⟩ := okWide_int Try.underlying2 (hval 5 _ _ rfl rfl)
  have t5 := h5
  have ib5 : -9223372036854775808 ≤ i5 ∧ i5 ≤ 9223372036854775807 := by
    obtain ⟨fuel5, hf5⟩ := h5
    obtain ⟨z, e, hz⟩ := rd_i64 hf5
    have e' : [Value.int .i64 i5] = [.int .i64 z] := e
    injection e' with e'
    injection e' with _ e'
    omega
  obtain ⟨i6, rfl⟩ := okWide_int Try.underlying2 (hval 6 _ _ rfl rfl)
  have t6 := h6
  have ib6 : -9223372036854775808 ≤ i6 ∧ i6 ≤ 9223372036854775807 := by
    obtain ⟨fuel6, hf6⟩ := h6
    obtain ⟨z, e, hz⟩ := rd_i64 hf6
    have e' : [Value.int .i64 i6] = [.int .i64 z] := e
    injection e' with e'
    injection e' with _ e'
    omega
  have walk : Calls Try.prog 13 #[.int .i64 i0, .int .i64 i1, .int .i64 i2, .int .i64 i3, .int .i64 i4, .int .i64 i5, .int .i64 i6] W fun e w' => e = .returned (.bool true) ∧ Below W.heap.size W w' :=
    law_ShortestFor i0 i1 i2 i3 i4 i5 i6 W 
  refine walk.mono fun e W' ⟨he, hb⟩ => ?_
  subst he
  have u0 := Below.trod laidOut (by kernel_rfl) (of_decide_eq_true (by kernel_rfl)) t0 hb (fun x hx => hlt x (by simp only [List.mem_append]; simp [hx]))
  have u1 := Below.trod laidOut (by kernel_rfl) (of_decide_eq_true (by kernel_rfl)) t1 hb (fun x hx => hlt x (by simp only [List.mem_append]; simp [hx]))
  have u2 := Below.trod laidOut (by kernel_rfl) (of_decide_eq_true (by kernel_rfl)) t2 hb (fun x hx => hlt x (by simp only [List.mem_append]; simp [hx]))
  have u3 := Below.trod laidOut (by kernel_rfl) (of_decide_eq_true (by kernel_rfl)) t3 hb (fun x hx => hlt x (by simp only [List.mem_append]; simp [hx]))
  have u4 := Below.trod laidOut (by kernel_rfl) (of_decide_eq_true (by kernel_rfl)) t4 hb (fun x hx => hlt x (by simp only [List.mem_append]; simp [hx]))
  have u5 := Below.trod laidOut (by kernel_rfl) (of_decide_eq_true (by kernel_rfl)) t5 hb (fun x hx => hlt x (by simp only [List.mem_append]; simp [hx]))
  have u6 := Below.trod laidOut (by kernel_rfl) (of_decide_eq_true (by kernel_rfl)) t6 hb (fun x hx => hlt x (by simp only [List.mem_append]; simp [hx]))
  exact ⟨_, rfl, [d0, d1, d2, d3, d4, d5, d6], [], p0 ++ (p1 ++ (p2 ++ (p3 ++ (p4 ++ (p5 ++ (p6 ++ [])))))), [], p0 ++ (p1 ++ (p2 ++ (p3 ++ (p4 ++ (p5 ++ (p6 ++ [])))))), [], by simpa using hW', trodAll_cons_mk (shut_bool Try.underlying4 _) trodAll_mk0, (trodAll_cons_mk u0 (trodAll_cons_mk u1 (trodAll_cons_mk u2 (trodAll_cons_mk u3 (trodAll_cons_mk u4 (trodAll_cons_mk u5 (trodAll_cons_mk u6 trodAll_mk0))))))), rfl, hb.frame _, fun h => by cases h⟩
theorem reads (os : Os) {H : Type} (enc : TypeId × Value → H) : ∃ places, DataW.whole enc Try.prog ((World.holding Try.prog os ⟨#[], #[], []⟩).forCall (fun _ _ => 0) ⟨#[], #[.int .i64 0, .int .i64 0, .int .i64 0, .int .i64 0, .int .i64 0, .int .i64 0, .int .i64 0], []⟩).memory Try.f13.params.toList Rows.fnExactShortestForSpec.vars false (#[.int .i64 0, .int .i64 0, .int .i64 0, .int .i64 0, .int .i64 0, .int .i64 0, .int .i64 0] : Array Value).toList 8 = some ([.lit (.int .i64 0), .lit (.int .i64 0), .lit (.int .i64 0), .lit (.int .i64 0), .lit (.int .i64 0), .lit (.int .i64 0), .lit (.int .i64 0)], [], places) :=
  ⟨[], by kernel_rfl⟩
set_option maxRecDepth 100000 in
theorem lifted (os : Os) (started : os.Started) (H : Type) (enc : TypeId × Value → H) (F : Stop.Interp) :
    ReturnsInHanded {} Try.checked os 13 .any ((OpenSpec.ofChange Rows.fnExactShortestForSpec).preRow enc Try.prog Try.f13 Rows.fnExactShortestForRow.domain false Rows.fnExactShortestForRow.laid) (((OpenSpec.ofChange Rows.fnExactShortestForSpec).at F).post enc Try.prog Try.f13 false true false false) := by
  obtain ⟨places, hx⟩ := reads os enc
  refine returnsInHanded_of_row (C := Try.checked) (s := OpenSpec.ofChange Rows.fnExactShortestForSpec) own started (by kernel_rfl) Try.func13
    (witness_row_at (enc := enc) (C := Try.checked) false (World.holding Try.prog os ⟨#[], #[], []⟩) #[.int .i64 0, .int .i64 0, .int .i64 0, .int .i64 0, .int .i64 0, .int .i64 0, .int .i64 0] rfl (by kernel_rfl) (by kernel_rfl) (by kernel_rfl)
      (OpenSpec.preRow_of_cond 8 hx (by kernel_rfl) (fun k hk => by cases hk) (by kernel_rfl) (laidMet_of_run' 8 (by kernel_rfl) (by kernel_rfl)))) ?_
  intro W base args ds gs before hval hW _ _ _ _ _ _
  exact contract H enc W base args ds gs before hval hW
set_option maxRecDepth 100000 in
set_option maxHeartbeats 20000000 in
theorem closed : joinedFacts Try.pinned.checked.prog 13 Try.f13 (OpenSpec.ofChange Rows.fnExactShortestForSpec).bare Rows.fnExactShortestForRow = true := by
  unfold joinedFacts
  simp only [Bool.and_eq_true]
  repeat' apply And.intro
  all_goals (as_aux_lemma => kernel_rfl)
theorem named : Try.pinned.checked.prog.funcNamed Rows.fnExactShortestForRow.func = some 13 := by kernel_rfl
theorem said : Rows.FnExactShortestForSaid :=
  OpenClaim.holds_of_cond 13 Try.f13 rfl rfl rfl rfl rfl rfl rfl ⟨rfl, rfl, rfl, rfl, rfl⟩ rfl rfl rfl rfl rfl named Try.func13 closed
    (of_decide_eq_true (by kernel_rfl)) (by unfold Func.isWrapper; first | (rw [if_pos (by decide +kernel)]; kernel_rfl) | (rw [if_neg (by decide +kernel)]; exact ⟨rfl, rfl⟩))
    (fun os started H enc _ F => by rw [OpenClaim.pre_eq_preRow]; exact lifted os started H enc F)
end Go.Proofs.Ytkaaiocbiknipaa.fnExactShortestFor
