/- Part 3: lemmas and contracts of the claim's functions. -/
import Derived.Test.YtmmiahgmdllgdaaZC1
import Derived.Test.YtmmiahgmdllgdaaZC2
import Derived.Deep.DeepCutAuto
import Derived.Laws.AppendOwnNone
import Derived.Test.YtmmiahgmdllgdaaShelf
import Derived.Shelf.SlSortFuncK.WholeK
import Derived.Shelf.GgSortFunc.Tiny
import Derived.Deep.RegionHeld3
import Derived.Deep.CutBlock
namespace Go.Proofs.Ytmmiahgmdllgdaa
open Go.RowKit Go.Sort
/-- what is left of v when k digits are taken -/
def restD (b : Int) : Nat → Int → Int
  | 0, v => v
  | k + 1, v => (restD b k v).tdiv b
/-- the k lowest digits of v -/
def digD (b : Int) : Nat → Int → List Int
  | 0, _ => []
  | k + 1, v => digD b k v ++ [(restD b k v).tmod b]
theorem digD_len (b : Int) (k : Nat) (v : Int) : (digD b k v).length = k := by
  induction k with
  | zero => rfl
  | succ k ih => simp [digD, ih]
theorem restD_bd (b : Int) (hb : 2 ≤ b) (k : Nat) (v : Int) (h0 : 0 ≤ v) (_h1 : v ≤ 9223372036854775807) : 0 ≤ restD b k v ∧ restD b k v ≤ v := by
  induction k with
  | zero => exact ⟨h0, Int.le_refl _⟩
  | succ k ih =>
    simp only [restD]
    rw [Int.tdiv_eq_ediv_of_nonneg ih.1]
    have := Int.ediv_le_self b ih.1
    exact ⟨Int.ediv_nonneg ih.1 (by omega), by omega⟩
section
variable {ops : Array Oper} {rest : List Oper} {o : Oper} {a : Act} {Q : Exit → Act → World → Prop} {w0 w : World} {m : List Ent}
/-- append(s, x..), x a row that is only read -/
theorem kn_appC {t e : TypeId} {z : Value} {size bytes : Nat} (T : TP t e z size bytes) (hgd : o.guard = none) (s x : Operand) (ho : o.op = .call { callee := .builtin .append, args := #[s, x], argTypes := #[t, t] })
    (v : Value) (n : Nat) (xs : List Value) (hs : a.eval s = v) {ad : Addr} {c k : Nat} {l : List Value} (hx : a.eval x = .slice (some ad) k c) (hc : ∀ j u, l[j]? = some u → w.cell? (ad.add j) = some u)
    (hK : Kn w0 (.row v e size n xs :: m) w) (hl : l.length = k * size) (h1 : ∀ u ∈ l, u.oneCell' = true)
    (h63 : n + k ≤ 1000000000000000) (hb : (n + k) * bytes ≤ 140737488355328)
    (h : ∀ v' w', Kn w0 (.row v' e size (n + k) (xs ++ l) :: m) w' → wpList Try.prog ops Q rest (a.put o.dst v') w') : wpList Try.prog ops Q (o :: rest) a w :=
  appG T hgd s x ho 0 v n xs hs hK.at0 ad k c l hx hl hc h1 h63 hb (Nat.zero_le _) (fun v' w' ho' hg hv => h v' w' (hK.grow hg ho' hv))
end
set_option maxRecDepth 100000 in
theorem copyNumbers_any (A : Option Addr) (n c : Nat) (ds : List Int) (w : World) (hr : RI w A n ds) (h0 : 0 < n) (hm : n ≤ 1000000) :
    Calls Try.prog 100 #[.slice A n c] w fun e w' => ∃ A' c', e = .returned (.slice A' n c') ∧ Kn w [rowI A' c' ds] w' := by
  obtain ⟨hl, hc⟩ := hr
  obtain ⟨ad, rfl, hlt, hcell⟩ := hc h0
  have hcell := Lib.hid hcell
  subst hl
  go_enter Try.func100, Try.ntmps100
  go_wp2_with (first
    | (refine wpList.kn ((Kn.nil w).al [] 2) ?_; intro w1 hK1)
    | (at_builtin; refine kn_appC tpI rfl _ _ rfl _ 0 [] rfl (l := ds.map (Value.int .i64)) rfl (fun j u hu => by
        rw [List.getElem?_map] at hu
        obtain ⟨x, hx, rfl⟩ := Option.map_eq_some_iff.1 hu
        rw [hK1.below.cell (by rw [block_of_add]; exact hlt)]
        exact hcell.out j x hx) (hK1.litRow (size := 1) (n := 0) rfl (by decide)) (by simp) (by simp [Value.oneCell']) (by omega) (by omega) ?_; intro v2 w2 hK2; rw [Nat.zero_add] at hK2; obtain ⟨A2, c2, rfl⟩ := row_form hK2.at0))
  go_ret
  rw [List.nil_append] at hK2
  exact ⟨A2, c2, rfl, hK2⟩
end Go.Proofs.Ytmmiahgmdllgdaa

namespace Go.Proofs.Ytmmiahgmdllgdaa
open Go.RowKit Go.Sort
/-! the entry with a number -/
def idxF : List Etr → Int → Int → Int
  | [], _, _ => -1
  | x :: l, num, i => if x.num = num then i else idxF l num (i + 1)
def idxE (L : List Etr) (num : Int) : Int := idxF L num 0
theorem idxF_drop {L : List Etr} {k : Nat} (h : k < L.length) (num i : Int) : idxF (L.drop k) num i = if L[k].num = num then i else idxF (L.drop (k + 1)) num (i + 1) := by
  rw [← List.getElem_cons_drop h]; rfl
theorem idxF_end (L : List Etr) (num i : Int) : idxF (L.drop L.length) num i = -1 := by rw [List.drop_length]; rfl
set_option maxHeartbeats 1600000 in
theorem entryAt_any (A : Option Addr) (n c : Nat) (L : List Etr) (num : Int) (w : World) (hr : RL EtrM 5 w A n L) (hn : n ≤ 9223372036854775807) :
    Calls Try.prog 83 #[.slice A n c, .int .i64 num] w fun e w' => e = .returned (.int .i64 (idxE L num)) ∧ Below w.heap.size w w' := by
  have HL := Lib.hid hr.1
  have HR := Lib.hid (fun W (hW : Below w.heap.size w W) => hr.below steady_EtrM hW)
  obtain ⟨R, hR⟩ : ∃ R, idxE L num = R := ⟨_, rfl⟩
  have HE := Lib.hid (show R = idxF (L.drop 0) num ((0 : Nat) : Int) by rw [← hR]; rfl)
  rw [hR]
  clear hR hr
  go_enter Try.func83, Try.ntmps83
  go_wp2_with fail
  go_loopw [9] (fun ii wr => ∃ k : Nat, k ≤ n ∧ ii = .int .i64 k ∧ Hid (R = idxF (L.drop k) num (k : Int)) ∧ Below w.heap.size w wr) (fun ii _ => n - (intOf ii).toNat)
  case atStart => exact ⟨0, Nat.zero_le _, rfl, HE, Below.refl _ _⟩
  case round =>
    obtain ⟨k, hk, rfl, HA, hbw⟩ := hrel
    by_cases hkn : k < n
    · obtain ⟨ad, hA, hlt, hkl, hx⟩ := (HR.out _ hbw).at_ hkn
      have hdr := idxF_drop hkl num (k : Int)
      obtain ⟨x, hxe⟩ : ∃ x, L[k] = x := ⟨_, rfl⟩
      rw [hxe] at hx hdr
      obtain ⟨XA, xc, -, ⟨c0, c1, c2, c3, c4⟩, -⟩ := hx
      have HD := Lib.hid (HA.out.trans hdr)
      obtain ⟨xn, hxn⟩ : ∃ v, x.num = v := ⟨_, rfl⟩
      rw [hxn] at HD c0
      have i0 : (0 : Int) ≤ (k : Int) := by omega
      have i1 : (k : Int) < (n : Int) := by omega
      subst hA
      clear hxe hdr hxn
      by_cases he : xn = num
      · have HQ := Lib.hid (show R = (k : Int) by rw [HD.out, if_pos he])
        subst he
        go_wp2_with fail
        go_ret
        exact ⟨ret_int HQ.out.symm, by first | exact hbw | exact hbw.alloc hbw.size _⟩
      · have HQ := Lib.hid (show R = idxF (L.drop (k + 1)) num ((k + 1 : Nat) : Int) by rw [HD.out, if_neg he]; rfl)
        have hb1 : (xn == num) = false := by simpa using he
        go_wp2_with fail
        go_roundw
        case rel => exact ⟨k + 1, by omega, by go_num, HQ, by first | exact hbw | exact hbw.alloc hbw.size _⟩
        case measure => simp [intOf] <;> omega
    · have i1 : ¬ (k : Int) < (n : Int) := by omega
      obtain rfl : n = k := by omega
      have HQ := Lib.hid (show R = -1 by rw [HA.out, ← HL.out]; exact idxF_end L num _)
      go_wp2_with fail
      go_ret
      exact ⟨ret_int HQ.out.symm, hbw⟩
set_option maxHeartbeats 1600000 in
theorem l25Find_any (A : Option Addr) (n c : Nat) (L : List Etr) (num : Int) (w : World) (hr : RL EtrM 5 w A n L) (hn : n ≤ 9223372036854775807) :
    Calls Try.prog 78 #[.slice A n c, .int .i64 num] w fun e w' => e = .returned (.int .i64 (idxE L num)) ∧ Below w.heap.size w w' := by
  have HL := Lib.hid hr.1
  have HR := Lib.hid (fun W (hW : Below w.heap.size w W) => hr.below steady_EtrM hW)
  obtain ⟨R, hR⟩ : ∃ R, idxE L num = R := ⟨_, rfl⟩
  have HE := Lib.hid (show R = idxF (L.drop 0) num ((0 : Nat) : Int) by rw [← hR]; rfl)
  rw [hR]
  clear hR hr
  go_enter Try.func78, Try.ntmps78
  go_wp2_with fail
  go_loopw [5] (fun ii wr => ∃ k : Nat, k ≤ n ∧ ii = .int .i64 k ∧ Hid (R = idxF (L.drop k) num (k : Int)) ∧ Below w.heap.size w wr) (fun ii _ => n - (intOf ii).toNat)
  case atStart => exact ⟨0, Nat.zero_le _, rfl, HE, Below.refl _ _⟩
  case round =>
    obtain ⟨k, hk, rfl, HA, hbw⟩ := hrel
    by_cases hkn : k < n
    · obtain ⟨ad, hA, hlt, hkl, hx⟩ := (HR.out _ hbw).at_ hkn
      have hdr := idxF_drop hkl num (k : Int)
      obtain ⟨x, hxe⟩ : ∃ x, L[k] = x := ⟨_, rfl⟩
      rw [hxe] at hx hdr
      obtain ⟨XA, xc, -, ⟨c0, c1, c2, c3, c4⟩, -⟩ := hx
      have HD := Lib.hid (HA.out.trans hdr)
      obtain ⟨xn, hxn⟩ : ∃ v, x.num = v := ⟨_, rfl⟩
      rw [hxn] at HD c0
      have i0 : (0 : Int) ≤ (k : Int) := by omega
      have i1 : (k : Int) < (n : Int) := by omega
      subst hA
      clear hxe hdr hxn
      by_cases he : xn = num
      · have HQ := Lib.hid (show R = (k : Int) by rw [HD.out, if_pos he])
        subst he
        go_wp2_with fail
        go_ret
        exact ⟨ret_int HQ.out.symm, by first | exact hbw | exact hbw.alloc hbw.size _⟩
      · have HQ := Lib.hid (show R = idxF (L.drop (k + 1)) num ((k + 1 : Nat) : Int) by rw [HD.out, if_neg he]; rfl)
        have hb1 : (xn == num) = false := by simpa using he
        go_wp2_with fail
        go_roundw
        case rel => exact ⟨k + 1, by omega, by go_num, HQ, by first | exact hbw | exact hbw.alloc hbw.size _⟩
        case measure => simp [intOf] <;> omega
    · have i1 : ¬ (k : Int) < (n : Int) := by omega
      obtain rfl : n = k := by omega
      have HQ := Lib.hid (show R = -1 by rw [HA.out, ← HL.out]; exact idxF_end L num _)
      go_wp2_with fail
      go_ret
      exact ⟨ret_int HQ.out.symm, hbw⟩
/-! an entry of its own -/
section
variable {ops : Array Oper} {rest : List Oper} {o : Oper} {a : Act} {Q : Exit → Act → World → Prop} {w0 w : World} {m : List Ent}
/-- append(s, x..) of strings, x a row that is only read, nil too -/
theorem kn_appRS (hgd : o.guard = none) (s x : Operand) (ho : o.op = .call { callee := .builtin .append, args := #[s, x], argTypes := #[57, 57] })
    (v : Value) (xs : List ByteArray) (hs : a.eval s = v) {A : Option Addr} {n c : Nat} {ss : List ByteArray} (hx : a.eval x = .slice A n c) (hr : RL StrM 1 w A n ss) (hn : A = none → c = 0)
    (hK : Kn w0 (rowS v xs :: m) w) (hl : xs.length + n ≤ 10000000)
    (h : ∀ v' w', Kn w0 (rowS v' (xs ++ ss) :: m) w' → wpList Try.prog ops Q rest (a.put o.dst v') w') : wpList Try.prog ops Q (o :: rest) a w := by
  rcases A with _ | ad
  · obtain rfl : n = 0 := by
      rcases Nat.eq_zero_or_pos n with h0 | h0
      · exact h0
      · obtain ⟨ad, e, -⟩ := hr.2 h0
        cases e
    obtain rfl := hn rfl
    obtain rfl : ss = [] := List.length_eq_zero_iff.1 hr.1
    obtain ⟨i0, hi, hz0, hz1, hz2⟩ := info_parts tpS.info
    refine wpList_append_own_none hgd s x 57 ho 0 9 i0 1 tpS.under hi v xs.length (xs.map Value.string) hs hK.at0 hx ?_
    refine h v w ?_
    rw [List.append_nil]
    exact hK
  · have hl1 := hr.1
    refine kn_appC tpS hgd s x ho v xs.length (xs.map Value.string) hs (ad := ad) (c := c) (k := n) (l := ss.map Value.string) hx (fun j u hu => ?_) hK (by rw [List.length_map, hl1, Nat.mul_one]) (by simp [Value.oneCell']) (by omega) (by omega) (fun v' w' hK' => h v' w' ?_)
    · rw [List.getElem?_map] at hu
      obtain ⟨y, hy, rfl⟩ := Option.map_eq_some_iff.1 hu
      have hj : j < ss.length := (List.getElem?_eq_some_iff.1 hy).1
      obtain ⟨ad', e, -, hkl, hc⟩ := hr.at_ (show j < n by omega)
      injection e with e
      subst e
      unfold StrM at hc
      rw [Nat.mul_one] at hc
      rw [hc]
      congr 2
      exact (List.getElem?_eq_some_iff.1 hy).2
    · unfold rowS
      rw [List.length_append, hl1, List.map_append]
      exact hK'
end
set_option maxRecDepth 100000 in
set_option maxHeartbeats 1600000 in
theorem copied_any (x : Etr) (A : Option Addr) (c : Nat) (w : World) (hr : RL StrM 1 w A x.words.length x.words) (hn : A = none → c = 0) (hm : x.words.length ≤ 1000000) :
    Calls Try.prog 85 #[.agg #[.int .i64 x.num, .string x.name, .string x.maker, .int .i64 x.year, .slice A x.words.length c]] w fun e w' => ∃ X c', e = .returned (.agg #[.int .i64 x.num, .string x.name, .string x.maker, .int .i64 x.year, .slice X x.words.length c']) ∧ Kn w [rowSN X x.words.length c' x.words] w' := by
  have HR := Lib.hid (fun W (hW : Below w.heap.size w W) => hr.below steady_StrM hW)
  have HN := Lib.hid hn
  clear hr hn
  obtain ⟨g, hg⟩ : ∃ g, w.heap.size = g := ⟨_, rfl⟩
  have K0 := ((Kn.nil w).al [.int .i64 x.num, .string x.name, .string x.maker, .int .i64 x.year, .slice A x.words.length c] 66).al [.int .i64 0, .string ⟨#[]⟩, .string ⟨#[]⟩, .int .i64 0, .slice none 0 0] 66
  simp only [World.size_alloc] at K0
  rw [hg] at K0
  go_enter Try.func85, Try.ntmps85
  go_upto_region 1 with fail
  try simp only [World.size_alloc]
  try simp only [hg]
  refine Code.wp.kn K0 ?_; clear K0 hg; intro w1 K1
  have K2 := (K1.al [] 9).litRow (size := 1) (n := 0) rfl (by decide)
  obtain ⟨a1, a2, a3, d1, d2, d3, -⟩ := K1.cells
  go_upto_region 2 with (at_builtin; refine kn_appRS rfl _ _ rfl _ [] rfl rfl (HR.out _ K2.below) HN.out K2 (by simp; omega) ?_; intro v3 w3 K3; obtain ⟨X, c', rfl⟩ := row_form K3.at0; rw [List.nil_append] at K3; try rw [List.nil_append]; clear a1 a2 a3 d1 d2 d3; obtain ⟨a1, a2, a3, d1, d2, d3, -⟩ := K3.cells)
  refine Code.wp.kn ((K3.front 2 rfl).st 4 (.slice X x.words.length c')) ?_; clear K3 K2 K1 a1 a2 a3 d1 d2 d3; intro w4 K4
  obtain ⟨a1, a2, a3, d1, d2, d3, -⟩ := K4.cells
  go_wp2_with fail
  refine bodyPost.kn (((((K4.front 2 rfl).st 0 (.int .i64 x.num)).st 1 (.string x.name)).st 2 (.string x.maker)).st 3 (.int .i64 x.year) |>.st 4 (.slice X x.words.length c')) ?_; intro w5 K5
  clear a1 a2 a3 d1 d2 d3
  obtain ⟨a1, a2, a3, -⟩ := K5.cells
  exact bodyPost_ret (v := .agg #[.int .i64 x.num, .string x.name, .string x.maker, .int .i64 x.year, .slice X x.words.length c']) (by simp [results, Try.results85, go_sem, a1]) rfl ⟨X, c', rfl, K5.sel [2] 99 (by decide) (by decide)⟩
end Go.Proofs.Ytmmiahgmdllgdaa

namespace Go.Proofs.Ytmmiahgmdllgdaa
open Go.RowKit Go.Sort
theorem tpE : TP 62 66 (.agg #[.int .i64 0, .string ⟨#[]⟩, .string ⟨#[]⟩, .int .i64 0, .slice none 0 0]) 5 72 := ⟨Try.underlying62, by kernel_rfl, rfl, by decide⟩
set_option maxRecDepth 100000 in
set_option maxHeartbeats 1600000 in
theorem l25Own_any (p : Addr) (x : Etr) (w : World) (hp : EtrM w p x) (hlt : p.block < w.heap.size) (hm : x.words.length ≤ 1000000) :
    Calls Try.prog 117 #[.pointer (some p)] w fun e w' => ∃ X c', e = .returned (.agg #[.int .i64 x.num, .string x.name, .string x.maker, .int .i64 x.year, .slice X x.words.length c']) ∧ Kn w [rowSN X x.words.length c' x.words] w' := by
  have HP := Lib.hid (fun W (hW : Below w.heap.size w W) => steady_EtrM w W p x hlt hW hp)
  obtain ⟨A, c, hn, ⟨c0, c1, c2, c3, c4⟩, hr⟩ := hp
  have HC := Lib.hid (fun W (hW : Below w.heap.size w W) => show W.cell? p = some (.int .i64 x.num) ∧ W.cell? ⟨p.block, p.off + 1, none⟩ = some (.string x.name) ∧ W.cell? ⟨p.block, p.off + 2, none⟩ = some (.string x.maker) ∧ W.cell? ⟨p.block, p.off + 3, none⟩ = some (.int .i64 x.year) ∧ W.cell? ⟨p.block, p.off + 4, none⟩ = some (.slice A x.words.length c) from
    ⟨by rw [hW.cell hlt]; exact c0, by rw [hW.cell (by exact hlt)]; exact c1, by rw [hW.cell (by exact hlt)]; exact c2, by rw [hW.cell (by exact hlt)]; exact c3, by rw [hW.cell (by exact hlt)]; exact c4⟩)
  have HR := Lib.hid (fun W (hW : Below w.heap.size w W) => hr.below steady_StrM hW)
  have HN := Lib.hid hn
  clear hr hn HP c0 c1 c2 c3 c4
  obtain ⟨g, hg⟩ : ∃ g, w.heap.size = g := ⟨_, rfl⟩
  have K0 := ((Kn.nil w).al [.int .i64 0, .string ⟨#[]⟩, .string ⟨#[]⟩, .int .i64 0, .slice none 0 0] 66)
  rw [hg] at K0
  go_enter Try.func117, Try.ntmps117
  go_upto_region 1 with fail
  try simp only [hg]
  refine Code.wp.kn K0 ?_; clear K0 hg; intro w1 K1
  have hlt1 : p.block < w1.heap.size := Nat.lt_of_lt_of_le hlt K1.below.size
  obtain ⟨e0, e1, e2, e3, e4⟩ := HC.out _ K1.below
  obtain ⟨g2, hg2⟩ : ∃ g, w1.heap.size = g := ⟨_, rfl⟩
  have K2 := K1.al [.int .i64 x.num, .string x.name, .string x.maker, .int .i64 x.year, .slice A x.words.length c] 66
  rw [hg2] at K2
  go_upto_region 2 with fail
  try simp only [hg2]
  refine Code.wp.kn K2 ?_; clear K1 K2 hg2 e0 e1 e2 e3 e4; intro w2 K2
  have K3 := (K2.al [] 9).litRow (size := 1) (n := 0) rfl (by decide)
  have hlt2 : p.block < w2.heap.size := Nat.lt_of_lt_of_le hlt K2.below.size
  obtain ⟨e0, e1, e2, e3, e4⟩ := HC.out _ K2.below
  obtain ⟨a1, a2, a3, -⟩ := K2.cells
  go_upto_region 3 with (at_builtin; refine kn_appRS rfl _ _ rfl _ [] rfl rfl (HR.out _ K3.below) HN.out K3 (by simp; omega) ?_; intro v3 w3 K4; obtain ⟨X, c', rfl⟩ := row_form K4.at0; rw [List.nil_append] at K4; try rw [List.nil_append]; clear a1 a2 a3; obtain ⟨a1, a2, a3, -⟩ := K4.cells)
  refine Code.wp.kn ((K4.front 1 rfl).st 4 (.slice X x.words.length c')) ?_; clear K4 K3 K2 a1 a2 a3 e0 e1 e2 e3 e4; intro w4 K4
  obtain ⟨a1, a2, a3, d1, d2, d3, -⟩ := K4.cells
  go_wp2_with fail
  refine bodyPost.kn (((((K4.front 2 rfl).st 0 (.int .i64 x.num)).st 1 (.string x.name)).st 2 (.string x.maker)).st 3 (.int .i64 x.year) |>.st 4 (.slice X x.words.length c')) ?_; intro w5 K5
  clear a1 a2 a3 d1 d2 d3
  obtain ⟨a1, a2, a3, -⟩ := K5.cells
  exact bodyPost_ret (v := .agg #[.int .i64 x.num, .string x.name, .string x.maker, .int .i64 x.year, .slice X x.words.length c']) (by simp [results, Try.results117, go_sem, a1]) rfl ⟨X, c', rfl, K5.sel [2] 99 (by decide) (by decide)⟩
section
variable {ops : Array Oper} {rest : List Oper} {o : Oper} {a : Act} {Q : Exit → Act → World → Prop} {w0 w : World} {m : List Ent}
/-- append(s, x) of an entry -/
theorem kn_pushE (hgd : o.guard = none) (s x : Operand) (ho : o.op = .call { callee := .builtin .append, args := #[s, x], argTypes := #[62, 62] })
    (v : Value) (M : List EE) (e : EE) (hs : a.eval s = v) {g c : Nat} {T' : TypeId} (hx : a.eval x = .slice (some ⟨g, 0, none⟩) 1 c)
    (hK : Kn w0 (.blk g e.cells T' :: .row v 66 5 M.length (cellsE M) :: bunA (rowsE M) :: e.row :: m) w) (hl : M.length ≤ 1000000)
    (h : ∀ v' w', Kn w0 (.row v' 66 5 (M ++ [e]).length (cellsE (M ++ [e])) :: bunA (rowsE (M ++ [e])) :: m) w' → wpList Try.prog ops Q rest (a.put o.dst v') w') : wpList Try.prog ops Q (o :: rest) a w := by
  refine kn_app tpE hgd s x ho v M.length (cellsE M) hs hx hK rfl (fun u hu => ?_) (by omega) (by omega) (fun v' w' K => h v' w' ?_)
  · unfold EE.cells at hu
    simp only [List.mem_cons, List.not_mem_nil, or_false] at hu
    rcases hu with rfl | rfl | rfl | rfl | rfl <;> rfl
  · have K2 := ((K.sel [2, 1, 0] 3 (by decide) (by decide)).bunAAdd).sel [1, 0] 2 (by decide) (by decide)
    rw [cellsE_app, rowsE_app, List.length_append]
    have e1 : cellsE [e] = e.cells := by simp [cellsE]
    rw [e1]
    exact K2
end
/-- entries of the call's own -/
def OwnES (L : List Etr) (w : World) (e : Ending) (w' : World) : Prop := ∃ X x, ∃ M : List EE, e = .returned (.slice X M.length x) ∧ M.map EE.t = L ∧ Kn w [.row (.slice X M.length x) 66 5 M.length (cellsE M), bunA (rowsE M)] w'
set_option maxRecDepth 100000 in
set_option maxHeartbeats 3200000 in
theorem copyEntries_any (A : Option Addr) (n c : Nat) (L : List Etr) (w : World) (hr : RL EtrM 5 w A n L) (hn : n ≤ 1000000) (hz : ∀ x ∈ L, x.words.length ≤ 1000000) :
    Calls Try.prog 84 #[.slice A n c] w (OwnES L w) := by
  unfold OwnES
  have HL := Lib.hid hr.1
  have HR := Lib.hid (fun W (hW : Below w.heap.size w W) => hr.below steady_EtrM hW)
  have HZ := Lib.hid hz
  clear hr hz
  obtain ⟨g, hg⟩ : ∃ g, w.heap.size = g := ⟨_, rfl⟩
  have K1 := ((Kn.nil w).bunANil.al [] 66).litRow (size := 5) (n := 0) rfl (by decide)
  rw [hg] at K1
  go_enter Try.func84, Try.ntmps84
  go_upto_region 2 with fail
  try simp only [hg]
  refine Code.wp.kn K1 ?_; clear K1 hg; intro w1 K1
  go_wp2_with fail
  go_loopw [9, 3] (fun ii vv wr => ∃ (k : Nat) (M : List EE), k ≤ n ∧ ii = .int .i64 k ∧ Hid (M.map EE.t = L.take k) ∧ Hid (M.length = k) ∧ Kn w [.row vv 66 5 M.length (cellsE M), bunA (rowsE M)] wr) (fun ii _ _ => n - (intOf ii).toNat)
  case atStart => exact ⟨0, [], Nat.zero_le _, rfl, Lib.hid rfl, Lib.hid rfl, K1⟩
  case round =>
    clear K1
    obtain ⟨k, M, hk, rfl, HM, HML, hK⟩ := hrel
    by_cases hkn : k < n
    · obtain ⟨ad, hA, hlt, hkl, hx⟩ := (HR.out _ hK.below).at_ hkn
      obtain ⟨x, hxe⟩ : ∃ x, L[k] = x := ⟨_, rfl⟩
      have htk := List.take_succ_eq_append_getElem hkl
      have hzx := HZ.out _ (List.getElem_mem hkl)
      rw [hxe] at hx htk hzx
      have HTK := Lib.hid htk
      have i0 : (0 : Int) ≤ (k : Int) := by omega
      have i1 : (k : Int) < (n : Int) := by omega
      have hml : M.length ≤ 1000000 := by have := HML.out; omega
      clear hxe htk
      obtain ⟨XA, xc, hn, ⟨c0, c1, c2, c3, c4⟩, hxr⟩ := hx
      have K2 := hK.al [.int .i64 x.num, .string x.name, .string x.maker, .int .i64 x.year, .slice XA x.words.length xc] 66
      obtain ⟨g, hg⟩ : ∃ g, wr.heap.size = g := ⟨_, rfl⟩
      rw [hg] at K2
      subst hA
      have HXR := Lib.hid (fun W (hW : Below wr.heap.size wr W) => hxr.below steady_StrM hW)
      have hb2 : Below wr.heap.size wr (wr.alloc (.cells #[.int .i64 x.num, .string x.name, .string x.maker, .int .i64 x.year, .slice XA x.words.length xc] 66)) := (Below.refl _ _).alloc (Nat.le_refl _) _
      have KC := copied_any x XA xc _ (hxr.below steady_StrM hb2) hn hzx
      go_upto_region 5 with fail
      try simp only [hg]
      replace KC := Lib.hid KC
      obtain ⟨a1, a2, a3, -⟩ := K2.cells
      clear c0 c1 c2 c3 c4 hxr hg hb2
      go_wp2_with fail
      refine KC.out.mono ?_; rintro e w3 ⟨X, c', rfl, hKn⟩
      have K5 := (K2.join hKn).sel [0, 2, 3] 99 (by decide) (by decide)
      clear K2 hKn KC a1 a2 a3 hK
      have K6 := K5.al [.int .i64 x.num, .string x.name, .string x.maker, .int .i64 x.year, .slice X x.words.length c'] 66
      go_wp2_with (at_builtin; refine kn_pushE rfl _ _ rfl _ M ⟨x, X, c'⟩ rfl rfl (K6.sel [0, 2, 3, 1] 99 (by decide) (by decide)) hml ?_; intro v' w' K7)
      go_roundw
      case rel => exact ⟨k + 1, M ++ [⟨x, X, c'⟩], by omega, by go_num, Lib.hid (by rw [HTK.out, List.map_append, HM.out]; rfl), Lib.hid (by rw [List.length_append, HML.out]; rfl), K7⟩
      case measure => simp [intOf] <;> omega
    · have i1 : ¬ (k : Int) < (n : Int) := by omega
      obtain rfl : n = k := by omega
      obtain ⟨X, xc, rfl⟩ := row_form hK.at0
      have HQ := Lib.hid (show M.map EE.t = L by rw [HM.out, List.take_of_length_le (by have := HL.out; omega)])
      go_wp2_with fail
      go_ret
      exact ⟨X, xc, M, rfl, HQ.out, hK⟩
set_option maxRecDepth 100000 in
set_option maxHeartbeats 3200000 in
theorem l25Copy_any (A : Option Addr) (n c : Nat) (L : List Etr) (w : World) (hr : RL EtrM 5 w A n L) (hn : n ≤ 1000000) (hz : ∀ x ∈ L, x.words.length ≤ 1000000) :
    Calls Try.prog 79 #[.slice A n c] w (OwnES L w) := by
  unfold OwnES
  have HL := Lib.hid hr.1
  have HR := Lib.hid (fun W (hW : Below w.heap.size w W) => hr.below steady_EtrM hW)
  have HZ := Lib.hid hz
  clear hr hz
  obtain ⟨g, hg⟩ : ∃ g, w.heap.size = g := ⟨_, rfl⟩
  have K1 := ((Kn.nil w).bunANil.al [] 66).litRow (size := 5) (n := 0) rfl (by decide)
  rw [hg] at K1
  go_enter Try.func79, Try.ntmps79
  go_upto_region 2 with fail
  try simp only [hg]
  refine Code.wp.kn K1 ?_; clear K1 hg; intro w1 K1
  go_wp2_with fail
  go_loopw [4, 3] (fun ii vv wr => ∃ (k : Nat) (M : List EE), k ≤ n ∧ ii = .int .i64 k ∧ Hid (M.map EE.t = L.take k) ∧ Hid (M.length = k) ∧ Kn w [.row vv 66 5 M.length (cellsE M), bunA (rowsE M)] wr) (fun ii _ _ => n - (intOf ii).toNat)
  case atStart => exact ⟨0, [], Nat.zero_le _, rfl, Lib.hid rfl, Lib.hid rfl, K1⟩
  case round =>
    clear K1
    obtain ⟨k, M, hk, rfl, HM, HML, hK⟩ := hrel
    by_cases hkn : k < n
    · obtain ⟨ad, hA, hlt, hkl, hx⟩ := (HR.out _ hK.below).at_ hkn
      obtain ⟨x, hxe⟩ : ∃ x, L[k] = x := ⟨_, rfl⟩
      have htk := List.take_succ_eq_append_getElem hkl
      have hzx := HZ.out _ (List.getElem_mem hkl)
      rw [hxe] at hx htk hzx
      have HTK := Lib.hid htk
      have i0 : (0 : Int) ≤ (k : Int) := by omega
      have i1 : (k : Int) < (n : Int) := by omega
      have hml : M.length ≤ 1000000 := by have := HML.out; omega
      clear hxe htk
      have KC := Lib.hid (l25Own_any (ad.add (k * 5)) x wr hx (by rw [block_of_add]; exact hlt) hzx)
      subst hA
      go_wp2_with fail
      refine KC.out.mono ?_; rintro e w3 ⟨X, c', rfl, hKn⟩
      have K5 := hK.join hKn
      clear hKn KC hK
      have K6 := K5.al [.int .i64 x.num, .string x.name, .string x.maker, .int .i64 x.year, .slice X x.words.length c'] 66
      go_wp2_with (at_builtin; refine kn_pushE rfl _ _ rfl _ M ⟨x, X, c'⟩ rfl rfl (K6.sel [0, 2, 3, 1] 99 (by decide) (by decide)) hml ?_; intro v' w' K7)
      go_roundw
      case rel => exact ⟨k + 1, M ++ [⟨x, X, c'⟩], by omega, by go_num, Lib.hid (by rw [HTK.out, List.map_append, HM.out]; rfl), Lib.hid (by rw [List.length_append, HML.out]; rfl), K7⟩
      case measure => simp [intOf] <;> omega
    · have i1 : ¬ (k : Int) < (n : Int) := by omega
      obtain rfl : n = k := by omega
      obtain ⟨X, xc, rfl⟩ := row_form hK.at0
      have HQ := Lib.hid (show M.map EE.t = L by rw [HM.out, List.take_of_length_le (by have := HL.out; omega)])
      go_wp2_with fail
      go_ret
      exact ⟨X, xc, M, rfl, HQ.out, hK⟩
end Go.Proofs.Ytmmiahgmdllgdaa

namespace Go.Proofs.Ytmmiahgmdllgdaa
open Go.RowKit Go.Sort Go.Lib Go.Shelf
instance : Inhabited EE := ⟨⟨default, none, 0⟩⟩
def ltE (a b : EE) : Bool := decide (a.t.num < b.t.num)
theorem swo_ltE : SWO ltE := ⟨fun x => by simp [ltE], fun x y z => by simp only [ltE, decide_eq_true_eq]; omega, fun x y z => by simp only [ltE, decide_eq_false_iff_not]; omega⟩
theorem cells5 (e : EE) : e.cells.length = 5 := rfl
theorem flat_get (M : List EE) (j : Nat) (h : j < M.length * 5) : (cellsE M)[j]? = some (flatK EE.cells 5 M.toArray)[j]! := by
  rw [get_flatK _ _ _ _ (by simpa using h)]
  have hk : j / 5 < M.length := by omega
  have h1 : M[j / 5]? = some M[j / 5] := List.getElem?_eq_getElem hk
  have h2 : (M[j / 5]).cells[j % 5]? = some ((M[j / 5]).cells[j % 5]'(by rw [cells5]; omega)) := List.getElem?_eq_getElem _
  have h3 := cellsE_get M (j / 5) _ h1 (j % 5) _ h2
  rw [show j / 5 * 5 + j % 5 = j by omega] at h3
  rw [h3]
  congr 1
  have h4 : M.toArray[j / 5]! = M[j / 5] := by simp [hk]
  rw [h4]
  exact (getElem!_pos (M[j / 5]).cells (j % 5) (by rw [cells5]; omega)).symm
theorem flat_list (M : List EE) : (flatK EE.cells 5 M.toArray).toList = cellsE M := by
  apply List.ext_getElem?
  intro j
  by_cases h : j < M.length * 5
  · rw [flat_get M j h]
    rw [Array.getElem?_toList, Array.getElem?_eq_getElem (by simpa using h)]
    congr 1
    rw [getElem!_pos]
  · rw [List.getElem?_eq_none (show (flatK EE.cells 5 M.toArray).toList.length ≤ j by rw [Array.length_toList, size_flatK]; simp; omega), List.getElem?_eq_none (by rw [cellsE_len]; omega)]
section
variable {w0 w : World} {m es es' : List Ent}
/-- the world behind a sort -/
theorem Kn.putE {Y c : Nat} {M M' : List EE} (h : Kn w0 (.row (.slice (some ⟨Y, 0, none⟩) M.length c) 66 5 M.length (cellsE M) :: m) w) (hl : M'.length = M.length) (n : Nat) (os : Array Obj) :
    Kn w0 (.row (.slice (some ⟨Y, 0, none⟩) M.length c) 66 5 M.length (cellsE M') :: m) (Go.Sort.grow (putRowK EE.cells 5 (Sort.ahead w n) Y 0 M'.toArray) os) := by
  have h0 : w.ownsRow 0 66 5 (.slice (some ⟨Y, 0, none⟩) M.length c) M.length (cellsE M) := h.at0
  have hst : ∀ k, k < w.heap.size → (Go.Sort.grow (putRowK EE.cells 5 (Sort.ahead w n) Y 0 M'.toArray) os).heap[k]? = (w.heap.modify Y (onCells (putCells id 0 (flatK EE.cells 5 M'.toArray))))[k]? := fun k hk => by
    show ((putRowK EE.cells 5 (Sort.ahead w n) Y 0 M'.toArray).heap ++ os)[k]? = _
    rw [Array.getElem?_append_left (by show k < (w.heap.modify Y _).size; simpa using hk)]
    rfl
  refine h.upd ⟨rfl, rfl, rfl, ?_, fun k hk hne => ?_⟩ ?_ (fun k hk => .inl hk)
  · show w.heap.size ≤ ((w.heap.modify Y _) ++ os).size
    simp
  · rw [hst k hk, Array.getElem?_modify, if_neg (fun e => hne (by subst e; rfl))]
  · rcases h0.2 with ⟨hv, -⟩ | ⟨g', cap, cur, hv, hb, hg, h1, h2, h3, h4⟩
    · cases hv
    injection hv with hv hv2 hv3
    injection hv with hv
    injection hv with hv
    subst hv
    subst hv3
    have hlt := (Array.getElem?_eq_some_iff.1 hg).1
    refine ⟨by rw [cellsE_len, hl], .inr ⟨Y, c, putCells id 0 (flatK EE.cells 5 M'.toArray) cur, rfl, Nat.zero_le _, ?_, h1, h2, by simpa [putCells] using h3, ?_⟩⟩
    · rw [hst Y hlt, Array.getElem?_modify, if_pos rfl, hg]; rfl
    · have hcs : M.length * 5 ≤ cur.size := by
        have := congrArg List.length h4
        rw [List.length_take, cellsE_len, Array.length_toList] at this
        omega
      rw [← flat_list]
      apply List.ext_getElem?
      intro j
      by_cases hj : j < M.length * 5
      · rw [List.getElem?_take, if_pos hj, Array.getElem?_toList, Array.getElem?_toList]
        unfold putCells
        rw [Array.getElem?_mapIdx, Array.getElem?_eq_getElem (show j < cur.size by omega), Array.getElem?_eq_getElem (show j < (flatK EE.cells 5 M'.toArray).size by rw [size_flatK]; simpa [hl] using hj)]
        simp only [Option.map_some, Nat.zero_le, true_and, Nat.zero_add, Nat.sub_zero, id]
        rw [if_pos (by rw [size_flatK]; simpa [hl] using hj)]
        congr 1
        rw [getElem!_pos]
      · rw [List.getElem?_eq_none (by rw [List.length_take]; omega), List.getElem?_eq_none (by rw [Array.length_toList, size_flatK]; simp [hl]; omega)]
end
set_option maxHeartbeats 2000000 in
theorem lessE (blk c Bs size : Nat) (W : World) (G : Nat → Int) (hs : W.cell? ⟨Bs, 0, none⟩ = some (.slice (some ⟨blk, 0, none⟩) size c))
    (hc : ∀ t, t < size → W.cell? ⟨blk, 0 + t * 5, none⟩ = some (.int .i64 (G t))) (i j : Nat) (hi : i < size) (hj : j < size) (_hsz : size < 4611686018427387904) :
    Calls Try.prog 87 #[.int .i64 i, .int .i64 j, .pointer (some ⟨Bs, 0, none⟩)] W fun e w' => e = .returned (.bool (decide (G i < G j))) ∧ ∃ q, w' = W.drewN q := by
  have ci := hc i hi
  have cj := hc j hj
  rw [Nat.zero_add] at ci cj
  go_enter Try.func87, Try.ntmps87
  go_wp2
  go_quiet (fail)
  go_wp2
  go_ret
  exact ⟨rfl, nq, rfl⟩
noncomputable def svT : TypeInfo := (Try.prog.info? 62).get (by kernel_rfl)
noncomputable def svE : TypeInfo := (Try.prog.info? 66).get (by kernel_rfl)
theorem svK (n : Nat) (h2 : 2 ≤ n) : Lib.swapperK n svE 25 = 9 := by
  have a : svE.hasPointers = true := by kernel_rfl
  have b : svE.bytes = 72 := by kernel_rfl
  have c : (n == 0) = false := by simp; omega
  have d : (n == 1) = false := by simp; omega
  simp [Lib.swapperK, a, b, c, d]
end Go.Proofs.Ytmmiahgmdllgdaa

namespace Go.Proofs.Ytmmiahgmdllgdaa
open Go.RowKit Go.Sort Go.Lib Go.Shelf
set_option maxRecDepth 100000 in
set_option maxHeartbeats 4000000 in
theorem sort_kn {w0 w : World} {m : List Ent} {gb Y c : Nat} {M : List EE} (hK : Kn w0 (.blk gb [.slice (some ⟨Y, 0, none⟩) M.length c] 62 :: .row (.slice (some ⟨Y, 0, none⟩) M.length c) 66 5 M.length (cellsE M) :: bunA (rowsE M) :: m) w) (h0 : 0 < M.length) (hM : M.length < 4611686018427387904) :
    Calls Try.prog 86 #[.iface 62 (.slice (some ⟨Y, 0, none⟩) M.length c), .func (.func 87) #[] #[.pointer (some ⟨gb, 0, none⟩)]] w fun e w' => e = .returned (.tuple #[]) ∧ ∃ M' : List EE, M'.Perm M ∧ M'.Pairwise (fun a b => ltE b a = false) ∧ Kn w0 (.blk gb [.slice (some ⟨Y, 0, none⟩) M.length c] 62 :: .row (.slice (some ⟨Y, 0, none⟩) M.length c) 66 5 M.length (cellsE M') :: bunA (rowsE M') :: m) w' := by
  by_cases h2 : 2 ≤ M.length
  rotate_left
  · have h1 : M.length = 1 := by omega
    have hT := Any.sort_Slice_tiny Try.laysGg6 62 66 svT svE (by kernel_rfl) (by kernel_rfl) (by kernel_rfl) (by kernel_rfl) 25 (fun _ => by kernel_rfl) (some ⟨Y, 0, none⟩) M.length c (by omega) 132 (by rw [h1]; kernel_rfl) (.func 87) #[] #[.pointer (some ⟨gb, 0, none⟩)] w
    change Calls Try.prog 86 _ _ _ at hT
    refine hT.mono ?_
    rintro e w' ⟨rfl, os, rfl⟩
    refine ⟨rfl, M, List.Perm.refl _, ?_, hK.keep ⟨rfl, rfl, rfl, by show w.heap.size ≤ (w.heap ++ os).size; simp, fun k hk => by show (w.heap ++ os)[k]? = _; rw [Array.getElem?_append_left hk]⟩⟩
    rw [List.pairwise_iff_getElem]
    intro i j hi hj hij
    omega
  have hRW := hK.front 1 rfl
  have hH : HoldsK EE.cells 5 w Y 0 M.toArray := fun j hj => by
    have hj' : j < M.length * 5 := by rw [size_flatK] at hj; simpa using hj
    have h1 := Kn.rowCell hRW (flat_get M j hj')
    rw [Nat.zero_add]
    exact h1
  have hYl : Y < w.heap.size := Ent.lt (hK.ents _ (List.mem_cons_of_mem _ (List.mem_cons_self ..))) (k := Y) rfl
  have hne : gb ≠ Y := fun e => by
    have h1 := (List.pairwise_cons.1 hK.apart).1 _ (List.mem_cons_self ..) gb rfl
    exact h1 (by rw [e]; exact rfl)
  obtain ⟨b1, b2, b3⟩ := hK.blkAt
  have hless : LessReadsK Try.prog 87 #[.pointer (some ⟨gb, 0, none⟩)] EE.cells 5 ltE Y 0 M.toArray.size w := by
    intro mm os dk hs i j hi hj
    have e : sortWorldK EE.cells 5 w Y 0 mm dk os = putRowK EE.cells 5 (Go.Sort.grow (Sort.ahead w mm) os) Y 0 dk := by
      unfold sortWorldK; rw [putRowK_grow _ _ (Sort.ahead w mm) _ Y 0 _ hYl]
    have hHg : HoldsK EE.cells 5 (Go.Sort.grow (Sort.ahead w mm) os) Y 0 M.toArray := holdsK_grow _ _ _ _ Y 0 M.toArray hYl (holdsK_ahead _ _ _ _ _ _ _ hH)
    refine lessE Y c gb M.length _ (fun t => dk[t]!.t.num) ?_ (fun t ht => ?_) i j (by simpa using hi) (by simpa using hj) (by omega)
    · rw [e, cell?_putRowK_other _ _ _ Y 0 dk _ (by exact hne), cell?_grow _ _ _ (by exact b3)]; exact b1 0
    · rw [e]
      have h5 := ((holdsK_putRowK _ _ _ Y 0 M.toArray dk hHg hs).cell (i := t) (c := 0) (by rw [hs]; simpa using ht) (by omega)).1
      exact h5
  have hS := Any.sort_Slice_cells_sorted Try.laysGg6 62 66 svT svE (by kernel_rfl) (by kernel_rfl) (by kernel_rfl) (by kernel_rfl) 25 (fun _ => by kernel_rfl) EE.cells 5 (fun _ => rfl) (by kernel_rfl) (fun _ => by kernel_rfl)
    (fun x v hv => by
      unfold EE.cells at hv
      simp only [List.mem_cons, List.not_mem_nil, or_false] at hv
      rcases hv with rfl | rfl | rfl | rfl | rfl <;> rfl) ltE swo_ltE 87 #[.pointer (some ⟨gb, 0, none⟩)]
    (enters_of Try.func87 (by kernel_rfl) rfl) Y 0 c M.toArray (by simpa using h2) (by simpa using hM) 139 (by rw [svK _ (by simpa using h2)]; kernel_rfl) false
    (fun args W => run_callFunc_extern Try.func139 (by kernel_rfl) (by kernel_rfl) (by kernel_rfl) (e := Extern.ReflectliteSwapper.swap false) (by kernel_rfl) args W) w hless hH hYl
  change Calls Try.prog 86 #[.iface 62 (.slice (some ⟨Y, 0, none⟩) M.length c), .func (.func 87) #[] #[.pointer (some ⟨gb, 0, none⟩)]] _ _ at hS
  refine hS.mono ?_
  rintro e w' ⟨rfl, d', n, os, hp, hso, rfl⟩
  have hsz : d'.size = M.length := by rw [hp.1]; rfl
  have hperm : d'.toList.Perm M := by
    have h1 := hp.2.2
    have e1 : d'.extract 0 M.toArray.size = d' := by rw [← hp.1]; exact Array.extract_size
    rw [e1, Array.extract_size] at h1
    exact h1
  refine ⟨rfl, d'.toList, hperm, ?_, ?_⟩
  · rw [List.pairwise_iff_getElem]
    intro i j hi hj hij
    have hi' : i < d'.size := by simpa using hi
    have hj' : j < d'.size := by simpa using hj
    have := hso i j (Nat.zero_le _) hij (by rw [← hp.1]; exact hj')
    rw [getElem!_pos d' j hj', getElem!_pos d' i hi'] at this
    exact this
  · have h3 := Kn.putE (M' := d'.toList) hRW (by simpa using hsz) n os
    rw [Array.toArray_toList] at h3
    have h4 := h3.sel [1, 0, 2] 3 (by decide) (by decide)
    have h5 := ((h4.front 2 rfl).bunAPerm (es' := rowsE d'.toList) (hperm.symm.map EE.row)).sel [1, 2, 0] 3 (by decide) (by decide)
    exact h5
end Go.Proofs.Ytmmiahgmdllgdaa

namespace Go.Proofs.Ytmmiahgmdllgdaa
open Go.RowKit Go.Sort
/-! an entry that is added, plainly -/
theorem idxF_ge : ∀ (l : List Etr) (num i : Int), 0 ≤ i → idxF l num i = -1 ∨ i ≤ idxF l num i
  | [], _, _, _ => .inl rfl
  | x :: l, num, i, hi => by
    unfold idxF
    split
    · exact .inr (Int.le_refl _)
    · rcases idxF_ge l num (i + 1) (by omega) with h | h
      · exact .inl h
      · exact .inr (by omega)
theorem idxF_not : ∀ (l : List Etr) (num i : Int), 0 ≤ i → idxF l num i < 0 → ∀ y ∈ l, y.num ≠ num
  | [], _, _, _, _, y, hy => by cases hy
  | x :: l, num, i, hi, h, y, hy => by
    unfold idxF at h
    split at h
    · omega
    · rename_i hx
      rcases List.mem_cons.1 hy with rfl | hy
      · exact hx
      · exact idxF_not l num (i + 1) (by omega) h y hy
theorem idxE_bd (L : List Etr) (num : Int) : idxE L num = -1 ∨ 0 ≤ idxE L num := idxF_ge L num 0 (Int.le_refl _)
theorem ents_asc {L : List Etr} (h : entsP L L.length = true) : L.Pairwise (fun a b => a.num < b.num) := by
  have hat : ∀ k, k < L.length → entAt L k = true := fun k hk => List.all_eq_true.1 h k (List.mem_range.2 hk)
  have hstep : ∀ k (h : k + 1 < L.length), (L[k]'(by omega)).num < L[k + 1].num := fun k hk => by
    have h1 := hat (k + 1) hk
    unfold entAt at h1
    rw [decide_eq_false (by omega : ¬ k + 1 = 0), Bool.false_or, Bool.and_eq_true, decide_eq_true_eq] at h1
    have h2 := h1.2
    rw [Nat.add_sub_cancel, List.getD_eq_getElem?_getD, List.getD_eq_getElem?_getD, List.getElem?_eq_getElem hk, List.getElem?_eq_getElem (show k < L.length by omega)] at h2
    exact h2
  have hall : ∀ (d i : Nat) (h : i + d + 1 < L.length), (L[i]'(by omega)).num < L[i + d + 1].num := by
    intro d
    induction d with
    | zero => intro i h; exact hstep i h
    | succ d ih =>
      intro i h
      have h1 := ih i (by omega)
      have h2 := hstep (i + d + 1) (by omega)
      have e : i + (d + 1) + 1 = i + d + 1 + 1 := by omega
      simp only [e]
      omega
  rw [List.pairwise_iff_getElem]
  intro i j hi hj hij
  have h1 := hall (j - i - 1) i (by omega)
  have e : i + (j - i - 1) + 1 = j := by omega
  simp only [e] at h1
  exact h1
def insE (L : List Etr) (x : Etr) : List Etr := (L ++ [x]).mergeSort (fun a b => decide (a.num ≤ b.num))
theorem insE_one {L P : List Etr} {x : Etr} (hL : entsP L L.length = true) (hx : ∀ y ∈ L, y.num ≠ x.num) (hp : P.Perm (L ++ [x])) (hs : P.Pairwise (fun a b => a.num ≤ b.num)) : P = insE L x := by
  have hasc := ents_asc hL
  refine List.Perm.eq_of_pairwise (le := fun a b => a.num ≤ b.num) ?_ hs ?_ (hp.trans (List.mergeSort_perm _ _).symm)
  · intro a b ha hb h1 h2
    have ha := hp.mem_iff.1 ha
    have hb : b ∈ L ++ [x] := (List.mergeSort_perm _ _).mem_iff.1 hb
    have hn : a.num = b.num := Int.le_antisymm h1 h2
    rcases List.mem_append.1 ha with ha | ha <;> rcases List.mem_append.1 hb with hb | hb
    · by_cases he : a = b
      · exact he
      · obtain ⟨i, hi, rfl⟩ := List.getElem_of_mem ha
        obtain ⟨j, hj, rfl⟩ := List.getElem_of_mem hb
        have hp := List.pairwise_iff_getElem.1 hasc
        rcases Nat.lt_trichotomy i j with h | h | h
        · have := hp i j hi hj h; omega
        · subst h; rfl
        · have := hp j i hj hi h; omega
    · rw [List.mem_singleton.1 hb] at hn
      exact absurd hn (hx a ha)
    · rw [List.mem_singleton.1 ha] at hn
      exact absurd hn.symm (hx b hb)
    · rw [List.mem_singleton.1 ha, List.mem_singleton.1 hb]
  · have h := List.pairwise_mergeSort (le := fun (a b : Etr) => decide (a.num ≤ b.num)) (fun a b c h1 h2 => by simp at *; omega) (fun a b => by simp; omega) (L ++ [x])
    exact h.imp (fun h => by simpa using h)
/-- what an entry that is added gives -/
def adC (L : List Etr) (x : Etr) : Int := if entsOk L = false then 1 else if etrOk x = false then 2 else if 0 ≤ idxE L x.num then 4 else if L.length = 50 then 5 else 0
def adL (L : List Etr) (x : Etr) : List Etr := if adC L x = 0 then insE L x else []
theorem ad_bad {L : List Etr} {x : Etr} (h : entsOk L = false) : adC L x = 1 ∧ adL L x = [] := by
  have h1 : adC L x = 1 := by unfold adC; rw [if_pos h]
  exact ⟨h1, by unfold adL; rw [h1, if_neg (by decide)]⟩
theorem ad_range {L : List Etr} {x : Etr} (h : entsOk L = true) (h2 : etrOk x = false) : adC L x = 2 ∧ adL L x = [] := by
  have h1 : adC L x = 2 := by unfold adC; rw [if_neg (by rw [h]; decide), if_pos h2]
  exact ⟨h1, by unfold adL; rw [h1, if_neg (by decide)]⟩
theorem ad_there {L : List Etr} {x : Etr} (h : entsOk L = true) (h2 : etrOk x = true) (h3 : 0 ≤ idxE L x.num) : adC L x = 4 ∧ adL L x = [] := by
  have h1 : adC L x = 4 := by unfold adC; rw [if_neg (by rw [h]; decide), if_neg (by rw [h2]; decide), if_pos h3]
  exact ⟨h1, by unfold adL; rw [h1, if_neg (by decide)]⟩
theorem ad_full {L : List Etr} {x : Etr} (h : entsOk L = true) (h2 : etrOk x = true) (h3 : ¬ 0 ≤ idxE L x.num) (h4 : L.length = 50) : adC L x = 5 ∧ adL L x = [] := by
  have h1 : adC L x = 5 := by unfold adC; rw [if_neg (by rw [h]; decide), if_neg (by rw [h2]; decide), if_neg h3, if_pos h4]
  exact ⟨h1, by unfold adL; rw [h1, if_neg (by decide)]⟩
theorem ad_fine {L : List Etr} {x : Etr} (h : entsOk L = true) (h2 : etrOk x = true) (h3 : ¬ 0 ≤ idxE L x.num) (h4 : ¬ L.length = 50) :
    adC L x = 0 ∧ L.length < 50 ∧ ∀ P : List Etr, P.Perm (L ++ [x]) → P.Pairwise (fun a b => a.num ≤ b.num) → adL L x = P := by
  have h1 : adC L x = 0 := by unfold adC; rw [if_neg (by rw [h]; decide), if_neg (by rw [h2]; decide), if_neg h3, if_neg h4]
  have he := h
  unfold entsOk at he
  rw [Bool.and_eq_true, decide_eq_true_eq] at he
  refine ⟨h1, by omega, fun P hp hs => ?_⟩
  unfold adL
  rw [h1, if_pos rfl]
  exact (insE_one he.1 (idxF_not L x.num 0 (Int.le_refl _) (by unfold idxE at h3; omega)) hp hs).symm
end Go.Proofs.Ytmmiahgmdllgdaa

namespace Go.Proofs.Ytmmiahgmdllgdaa
open Go.RowKit Go.Sort
theorem box5 {w0 w : World} {m : List Ent} {g : Nat} {v0 v1 v2 v3 v4 : Value} {T : TypeId} (h : Kn w0 (.blk g [v0, v1, v2, v3, v4] T :: m) w) :
    w.cell? ⟨g, 0, none⟩ = some v0 ∧ w.cell? ⟨g, 1, none⟩ = some v1 ∧ w.cell? ⟨g, 2, none⟩ = some v2 ∧ w.cell? ⟨g, 3, none⟩ = some v3 ∧ w.cell? ⟨g, 4, none⟩ = some v4 :=
  ⟨h.blkAt.1 0, h.blkAt.1 1, h.blkAt.1 2, h.blkAt.1 3, h.blkAt.1 4⟩
theorem kn_stepE {ops : Array Oper} {o : Oper} {a : Act} {Q : Exit → Act → World → Prop} {w0 w : World} {m : List Ent} {K : Act → World → Prop} {E : Prop} (hgd : o.guard = none) (s x : Operand) (ho : o.op = .call { callee := .builtin .append, args := #[s, x], argTypes := #[62, 62] })
    (v : Value) (M : List EE) (e : EE) (hs : a.eval s = v) {g c : Nat} {T' : TypeId} (hx : a.eval x = .slice (some ⟨g, 0, none⟩) 1 c)
    (hK : Kn w0 (.blk g e.cells T' :: .row v 66 5 M.length (cellsE M) :: bunA (rowsE M) :: e.row :: m) w) (hl : M.length ≤ 1000000)
    (h : ∀ v' w', Kn w0 (.row v' 66 5 (M ++ [e]).length (cellsE (M ++ [e])) :: bunA (rowsE (M ++ [e])) :: m) w' → K (a.put o.dst v') w') : if Region.wanted o (yielded ops a.tmps) = true then Oper.wp Try.prog o a w K Q else E := by
  refine kn_step_app tpE hgd s x ho v M.length (cellsE M) hs hx hK rfl (fun u hu => ?_) (by omega) (by omega) (fun v' w' K => h v' w' ?_)
  · unfold EE.cells at hu
    simp only [List.mem_cons, List.not_mem_nil, or_false] at hu
    rcases hu with rfl | rfl | rfl | rfl | rfl <;> rfl
  · have K2 := ((K.sel [2, 1, 0] 3 (by decide) (by decide)).bunAAdd).sel [1, 0] 2 (by decide) (by decide)
    rw [cellsE_app, rowsE_app, List.length_append]
    have e1 : cellsE [e] = e.cells := by simp [cellsE]
    rw [e1]
    exact K2
theorem etr_words {x : Etr} (h : etrOk x = true) : x.words.length ≤ 1000000 := by
  unfold etrOk etrHead at h
  simp only [Bool.and_eq_true, decide_eq_true_eq] at h
  omega
theorem ents_words {L : List Etr} (h : entsOk L = true) : ∀ y ∈ L, y.words.length ≤ 1000000 := fun y hy => by
  obtain ⟨k, hk, rfl⟩ := List.getElem_of_mem hy
  unfold entsOk at h
  rw [Bool.and_eq_true] at h
  have h1 := List.all_eq_true.1 h.1 k (List.mem_range.2 hk)
  unfold entAt at h1
  rw [Bool.and_eq_true, List.getD_eq_getElem?_getD, List.getElem?_eq_getElem hk] at h1
  exact etr_words h1.1
/-- entries and a code -/
def AERet (L : List Etr) (C : Int) (w : World) (e : Ending) (w' : World) : Prop := ∃ X x, ∃ M : List EE, e = .returned (.tuple #[.slice X M.length x, .int .i64 C]) ∧ M.map EE.t = L ∧ Kn w [.row (.slice X M.length x) 66 5 M.length (cellsE M), bunA (rowsE M)] w'
theorem AERet.none {C : Int} {w w' : World} (h : Below w.heap.size w w') : AERet [] C w (.returned (.tuple #[.slice none 0 0, .int .i64 C])) w' :=
  ⟨Option.none, 0, [], rfl, rfl, ((((Kn.nil w).keep h).bunANil).nilRow 66 5)⟩
set_option maxRecDepth 100000 in
set_option maxHeartbeats 6400000 in
theorem AddEntry_any (B : Option Addr) (n bc : Nat) (L : List Etr) (x : Etr) (A : Option Addr) (c : Nat) (w : World) (hr : RL EtrM 5 w B n L) (hn : n ≤ 1048576) (hz : ∀ x ∈ L, SmE x) (hxr : RL StrM 1 w A x.words.length x.words) (hxn : A = none → c = 0) (hxz : SmE x) :
    Calls Try.prog 28 #[.slice B n bc, .agg #[.int .i64 x.num, .string x.name, .string x.maker, .int .i64 x.year, .slice A x.words.length c]] w (AERet (adL L x) (adC L x) w) := by
  have hLn := hr.1
  have KV := (fun W (hW : Below w.heap.size w W) => ValidEntries_any B n bc L W (hr.below steady_EtrM hW) (by omega) hz)
  have KX := (fun W (hW : Below w.heap.size w W) => validEntry_any x A c W (hxr.below steady_StrM hW) hxz)
  have KF := (fun W (hW : Below w.heap.size w W) => entryAt_any B n bc L x.num W (hr.below steady_EtrM hW) (by omega))
  have KC := (fun (h : n ≤ 1000000) (hm : ∀ y ∈ L, y.words.length ≤ 1000000) W (hW : Below w.heap.size w W) => copyEntries_any B n bc L W (hr.below steady_EtrM hW) h hm)
  have KD := Lib.hid (fun (hxm : x.words.length ≤ 1000000) W (hW : Below w.heap.size w W) => copied_any x A c W (hxr.below steady_StrM hW) hxn hxm)
  have HM1 := (fun h => ents_words (L := L) h)
  have HM2 := (fun h => etr_words (x := x) h)
  unfold OwnES at KC
  have hbd := idxE_bd L x.num
  have F1 := ad_bad (L := L) (x := x)
  have F2 := ad_range (L := L) (x := x)
  have F3 := ad_there (L := L) (x := x)
  have F4 := ad_full (L := L) (x := x)
  have F5 := ad_fine (L := L) (x := x)
  unfold AERet
  obtain ⟨RL_, hRL⟩ : ∃ v, adL L x = v := ⟨_, rfl⟩
  obtain ⟨RC_, hRC⟩ : ∃ v, adC L x = v := ⟨_, rfl⟩
  obtain ⟨b1, hb1⟩ : ∃ v, entsOk L = v := ⟨_, rfl⟩
  obtain ⟨b2, hb2⟩ : ∃ v, etrOk x = v := ⟨_, rfl⟩
  obtain ⟨ix, hix⟩ : ∃ v, idxE L x.num = v := ⟨_, rfl⟩
  simp only [hRL, hRC, hb1, hb2, hix] at KV KX KF hbd F1 F2 F3 F4 F5 HM1 HM2 ⊢
  rw [hLn] at F4 F5
  clear hRL hRC hb1 hb2 hix hr hz hxr hxn hxz
  replace KV := Lib.hid KV
  replace KX := Lib.hid KX
  replace KF := Lib.hid KF
  replace KC := Lib.hid KC
  replace HM1 := Lib.hid HM1
  replace HM2 := Lib.hid HM2
  replace F1 := Lib.hid F1
  replace F2 := Lib.hid F2
  replace F3 := Lib.hid F3
  replace F4 := Lib.hid F4
  replace F5 := Lib.hid F5
  have HLN := Lib.hid hLn
  clear hLn
  have hmf : ∀ (fn : Fn) (first cap : Array Value) (w : World), (Instr.makeFunc fn first cap).run Try.prog w = .ok (.func fn first cap) w := fun _ _ _ _ => rfl
  obtain ⟨g, hg⟩ : ∃ g, w.heap.size = g := ⟨_, rfl⟩
  have K0 := (Kn.nil w).al [.int .i64 x.num, .string x.name, .string x.maker, .int .i64 x.year, .slice A x.words.length c] 66
  rw [hg] at K0
  go_enter Try.func28, Try.ntmps28
  go_upto_region 1 with fail
  try rw [hg]
  refine Code.wp.kn K0 ?_; clear K0 hg; intro w1 K1
  go_wp2_with fail
  refine (KV.out _ K1.below).mono ?_; rintro e w2 ⟨rfl, hw⟩
  have K2 := K1.keep hw
  clear K1 hw
  rcases b1 with _ | _
  · go_wp2_with fail
    go_ret2
    obtain ⟨e1, e2⟩ := F1.out trivial
    rw [e1, e2]
    exact AERet.none K2.below
  obtain ⟨a1, a2, a3⟩ := K2.blkAt
  go_wp2_with fail
  refine (KX.out _ K2.below).mono ?_; rintro e w3 ⟨rfl, hw⟩
  have K3 := K2.keep hw
  clear K2 hw a1 a2 a3
  rcases b2 with _ | _
  · go_wp2_with fail
    go_ret2
    obtain ⟨e1, e2⟩ := F2.out trivial trivial
    rw [e1, e2]
    exact AERet.none K3.below
  obtain ⟨a1, a2, a3⟩ := K3.blkAt
  go_wp2_with fail
  refine (KF.out _ K3.below).mono ?_; rintro e w4 ⟨rfl, hw⟩
  have K4 := K3.keep hw
  clear K3 hw a1 a2 a3
  by_cases h4 : 0 ≤ ix
  · go_wp2_with fail
    go_ret2
    obtain ⟨e1, e2⟩ := F3.out trivial trivial h4
    rw [e1, e2]
    exact AERet.none K4.below
  by_cases h5 : n = 50
  · have i5 : (n : Int) = 50 := by omega
    go_wp2_with fail
    go_ret2
    obtain ⟨e1, e2⟩ := F4.out trivial trivial (by omega) h5
    rw [e1, e2]
    exact AERet.none K4.below
  have i5 : ¬ (n : Int) = 50 := by omega
  obtain ⟨e1, hn50, HP⟩ := F5.out trivial trivial (by omega) h5
  have HP := Lib.hid HP
  subst e1
  replace KC := Lib.hid (KC.out (by omega) (HM1.out trivial))
  replace KD := Lib.hid (KD.out (HM2.out trivial))
  go_wp2_with fail
  have HF := Lib.hid (fun W (h : Kn w [.blk g [.int .i64 x.num, .string x.name, .string x.maker, .int .i64 x.year, .slice A x.words.length c] 66] W) => box5 h)
  have hKd := K4.drew
  have HG := Lib.hid (HF.out _ (hKd.sel [0] 99 (by decide) (by decide)))
  go_cut [6] (fun pp wx => ∃ (g6 : Nat) (Y : Option Addr) (y : Nat) (M : List EE), pp = .pointer (some ⟨g6, 0, none⟩) ∧ M.map EE.t = L ++ [x] ∧ Kn w [.blk g6 [.slice Y M.length y] 62, .row (.slice Y M.length y) 66 5 M.length (cellsE M), bunA (rowsE M)] wx)
  case first =>
    have HLN := HLN.out
    refine wp_region_held_drew (S := fun W => W.cell? ⟨g, 0, none⟩ = some (.int .i64 x.num) ∧ W.cell? ⟨g, 1, none⟩ = some (.string x.name) ∧ W.cell? ⟨g, 2, none⟩ = some (.string x.maker) ∧ W.cell? ⟨g, 3, none⟩ = some (.int .i64 x.year) ∧ W.cell? ⟨g, 4, none⟩ = some (.slice A x.words.length c)) (by kernel_rfl) ?_ (fun hHeld => ?_)
    · exact HG.out
    try dsimp only
    generalize w4.drew = wd at hKd HG hHeld ⊢
    clear K4
    refine wpAnyH_take (i := 0) (v := ?_) rfl (by kernel_rfl) (by kernel_rfl) (by kernel_rfl) (fun _ _ _ h => h) (Or.inl ⟨by rfl, ?_⟩) hHeld ?_
    rotate_left
    · (intro w hSw; (try dsimp only at hSw); go_simp; try with_reducible rfl)
    try simp only [Act.put, List.setIfInBounds_toArray, List.set_cons_zero, List.set_cons_succ, List.getElem_toArray, List.getElem_cons_succ, List.getElem_cons_zero]
    refine wpAnyH_take (i := 2) (v := ?_) rfl (by kernel_rfl) (by kernel_rfl) (by kernel_rfl) (fun _ _ _ h => h) (Or.inl ⟨by rfl, ?_⟩) hHeld ?_
    rotate_left
    · (intro w hSw; (try dsimp only at hSw); go_simp; try with_reducible rfl)
    try simp only [Act.put, List.setIfInBounds_toArray, List.set_cons_zero, List.set_cons_succ, List.getElem_toArray, List.getElem_cons_succ, List.getElem_cons_zero]
    refine wpAnyH_ready (rs := [1, 6]) (by kernel_rfl) (by decide) (AllReadyH.cons (o := _) rfl (fun K hK' => ?_) (AllReadyH.cons (o := _) rfl (fun K hK' => ?_) AllReadyH.nil))
    · skip
      go_simp
      go_at_call 84
      refine (KC.out _ hKd.below).mono ?_
      rintro e wo1 ⟨Y1, yc1, M1, rfl, HMT1, hK⟩
      have KO1 := hKd.join hK
      clear hK
      have HG := Lib.hid (HF.out _ (KO1.sel [2] 99 (by decide) (by decide)))
      refine hK'.out _ _ HG.out (fun hHeld2 => ?_)
      clear hK' K hHeld
      have hHeld := hHeld2
      clear hHeld2
      try simp only [Act.put, List.setIfInBounds_toArray]
      refine wpAnyH_ready (rs := [3, 6]) (by kernel_rfl) (by decide) (AllReadyH.cons (o := _) rfl (fun K hK' => ?_) (AllReadyH.cons (o := _) rfl (fun K hK' => ?_) AllReadyH.nil))
      · skip
        go_simp
        go_at_call 85
        refine (KD.out _ KO1.below).mono ?_
        rintro e wo2 ⟨X2, xc2, rfl, hK⟩
        have KO2 := KO1.join hK
        clear hK
        have HG := Lib.hid (HF.out _ (KO2.sel [3] 99 (by decide) (by decide)))
        refine hK'.out _ _ HG.out (fun hHeld2 => ?_)
        clear hK' K hHeld
        have hHeld := hHeld2
        clear hHeld2
        try simp only [Act.put, List.setIfInBounds_toArray]
        refine wpAnyH_ready (rs := [4, 6]) (by kernel_rfl) (by decide) (AllReadyH.cons (o := _) rfl (fun K hK' => ?_) (AllReadyH.cons (o := _) rfl (fun K hK' => ?_) AllReadyH.nil))
        · skip
          go_simp
          have KO3 := KO2.al [.int .i64 x.num, .string x.name, .string x.maker, .int .i64 x.year, .slice X2 x.words.length xc2] 66
          have HG := Lib.hid (HF.out _ (KO3.sel [4] 99 (by decide) (by decide)))
          refine hK'.out _ _ HG.out (fun hHeld2 => ?_)
          clear hK' K hHeld
          have hHeld := hHeld2
          clear hHeld2
          try simp only [Act.put, List.setIfInBounds_toArray]
          generalize wo2.alloc (.cells #[.int .i64 x.num, .string x.name, .string x.maker, .int .i64 x.year, .slice X2 x.words.length xc2] 66) = wo3 at KO3 hHeld ⊢
          obtain ⟨ge3, hge3⟩ : ∃ g, wo2.heap.size = g := ⟨_, rfl⟩
          rw [hge3] at KO3 ⊢
          clear hge3
          refine wpAnyH_ready (rs := [5, 6]) (by kernel_rfl) (by decide) (AllReadyH.cons (o := _) rfl (fun K hK' => ?_) (AllReadyH.cons (o := _) rfl (fun K hK' => ?_) AllReadyH.nil))
          · skip
            have KO4 := (KO3.sel [0, 2, 3, 1, 4] 99 (by decide) (by decide))
            refine kn_stepE (by rfl) _ _ (by rfl) _ M1 ⟨x, X2, xc2⟩ (by rfl) (by rfl) KO4 (by have h1 := congrArg List.length HMT1; rw [List.length_map] at h1; omega) ?_
            clear KO4
            intro v' wo4 KO4
            obtain ⟨N4, HN4⟩ : ∃ N, M1 ++ [(⟨x, X2, xc2⟩ : EE)] = N := ⟨_, rfl⟩
            rw [HN4] at KO4
            try rw [HN4]
            obtain ⟨Z4, zc4, rfl⟩ := row_form KO4.at0
            have HN4 : N4.map EE.t = L ++ [x] := by rw [← HN4, List.map_append, HMT1]; rfl
            have HG := Lib.hid (HF.out _ (KO4.sel [2] 99 (by decide) (by decide)))
            refine hK'.out _ _ HG.out (fun hHeld2 => ?_)
            clear hK' K hHeld
            have hHeld := hHeld2
            clear hHeld2
            try simp only [Act.put, List.setIfInBounds_toArray]
            refine wpAnyH_ready (rs := [6]) (by kernel_rfl) (by decide) (AllReadyH.cons (o := _) rfl (fun K hK' => ?_) AllReadyH.nil)
            go_simp
            have KO5 := KO4.al [.slice none 0 0] 62
            have HG := Lib.hid (HF.out _ (KO5.sel [3] 99 (by decide) (by decide)))
            refine hK'.out _ _ HG.out (fun hHeld2 => ?_)
            clear hK' K hHeld
            have hHeld := hHeld2
            clear hHeld2
            try simp only [Act.put, List.setIfInBounds_toArray]
            generalize wo4.alloc (.cells #[.slice none 0 0] 62) = wo5 at KO5 hHeld ⊢
            obtain ⟨gg5, hgg5⟩ : ∃ g, wo4.heap.size = g := ⟨_, rfl⟩
            rw [hgg5] at KO5 ⊢
            clear hgg5
            refine wpAnyH_ready (rs := [7]) (by kernel_rfl) (by decide) (AllReadyH.cons (o := _) rfl (fun K hK' => ?_) AllReadyH.nil)
            obtain ⟨s1, s2, s3, -⟩ := (KO5.front 0 rfl).cells
            have KO6 := ((KO5.front 0 rfl).st 0 (.slice Z4 N4.length zc4))
            go_simp
            clear s1 s2 s3
            have HG := Lib.hid (HF.out _ (KO6.sel [3] 99 (by decide) (by decide)))
            refine hK'.out _ _ HG.out (fun hHeld2 => ?_)
            clear hK' K hHeld
            have hHeld := hHeld2
            clear hHeld2
            try simp only [Act.put, List.setIfInBounds_toArray]
            refine wpAnyH_done (by kernel_rfl) ?_ _
            go_wp2_with fail
            go_meet
            exact ⟨_, _, _, _, rfl, HN4, (KO6.sel [0, 1, 2] 99 (by decide) (by decide))⟩
          · skip
            go_simp
            have KO7 := KO3.al [.slice none 0 0] 62
            have HG := Lib.hid (HF.out _ (KO7.sel [5] 99 (by decide) (by decide)))
            refine hK'.out _ _ HG.out (fun hHeld2 => ?_)
            clear hK' K hHeld
            have hHeld := hHeld2
            clear hHeld2
            try simp only [Act.put, List.setIfInBounds_toArray]
            generalize wo3.alloc (.cells #[.slice none 0 0] 62) = wo7 at KO7 hHeld ⊢
            obtain ⟨gg7, hgg7⟩ : ∃ g, wo3.heap.size = g := ⟨_, rfl⟩
            rw [hgg7] at KO7 ⊢
            clear hgg7
            refine wpAnyH_ready (rs := [5]) (by kernel_rfl) (by decide) (AllReadyH.cons (o := _) rfl (fun K hK' => ?_) AllReadyH.nil)
            have KO8 := (KO7.sel [1, 3, 4, 2, 0, 5] 99 (by decide) (by decide))
            refine kn_stepE (by rfl) _ _ (by rfl) _ M1 ⟨x, X2, xc2⟩ (by rfl) (by rfl) KO8 (by have h1 := congrArg List.length HMT1; rw [List.length_map] at h1; omega) ?_
            clear KO8
            intro v' wo8 KO8
            obtain ⟨N8, HN8⟩ : ∃ N, M1 ++ [(⟨x, X2, xc2⟩ : EE)] = N := ⟨_, rfl⟩
            rw [HN8] at KO8
            try rw [HN8]
            obtain ⟨Z8, zc8, rfl⟩ := row_form KO8.at0
            have HN8 : N8.map EE.t = L ++ [x] := by rw [← HN8, List.map_append, HMT1]; rfl
            have HG := Lib.hid (HF.out _ (KO8.sel [3] 99 (by decide) (by decide)))
            refine hK'.out _ _ HG.out (fun hHeld2 => ?_)
            clear hK' K hHeld
            have hHeld := hHeld2
            clear hHeld2
            try simp only [Act.put, List.setIfInBounds_toArray]
            refine wpAnyH_ready (rs := [7]) (by kernel_rfl) (by decide) (AllReadyH.cons (o := _) rfl (fun K hK' => ?_) AllReadyH.nil)
            obtain ⟨s1, s2, s3, -⟩ := (KO8.front 2 rfl).cells
            have KO9 := ((KO8.front 2 rfl).st 0 (.slice Z8 N8.length zc8))
            go_simp
            clear s1 s2 s3
            have HG := Lib.hid (HF.out _ (KO9.sel [3] 99 (by decide) (by decide)))
            refine hK'.out _ _ HG.out (fun hHeld2 => ?_)
            clear hK' K hHeld
            have hHeld := hHeld2
            clear hHeld2
            try simp only [Act.put, List.setIfInBounds_toArray]
            refine wpAnyH_done (by kernel_rfl) ?_ _
            go_wp2_with fail
            go_meet
            exact ⟨_, _, _, _, rfl, HN8, (KO9.sel [0, 1, 2] 99 (by decide) (by decide))⟩
        · skip
          go_simp
          have KO10 := KO2.al [.slice none 0 0] 62
          have HG := Lib.hid (HF.out _ (KO10.sel [4] 99 (by decide) (by decide)))
          refine hK'.out _ _ HG.out (fun hHeld2 => ?_)
          clear hK' K hHeld
          have hHeld := hHeld2
          clear hHeld2
          try simp only [Act.put, List.setIfInBounds_toArray]
          generalize wo2.alloc (.cells #[.slice none 0 0] 62) = wo10 at KO10 hHeld ⊢
          obtain ⟨gg10, hgg10⟩ : ∃ g, wo2.heap.size = g := ⟨_, rfl⟩
          rw [hgg10] at KO10 ⊢
          clear hgg10
          refine wpAnyH_ready (rs := [4]) (by kernel_rfl) (by decide) (AllReadyH.cons (o := _) rfl (fun K hK' => ?_) AllReadyH.nil)
          go_simp
          have KO11 := KO10.al [.int .i64 x.num, .string x.name, .string x.maker, .int .i64 x.year, .slice X2 x.words.length xc2] 66
          have HG := Lib.hid (HF.out _ (KO11.sel [5] 99 (by decide) (by decide)))
          refine hK'.out _ _ HG.out (fun hHeld2 => ?_)
          clear hK' K hHeld
          have hHeld := hHeld2
          clear hHeld2
          try simp only [Act.put, List.setIfInBounds_toArray]
          generalize wo10.alloc (.cells #[.int .i64 x.num, .string x.name, .string x.maker, .int .i64 x.year, .slice X2 x.words.length xc2] 66) = wo11 at KO11 hHeld ⊢
          obtain ⟨ge11, hge11⟩ : ∃ g, wo10.heap.size = g := ⟨_, rfl⟩
          rw [hge11] at KO11 ⊢
          clear hge11
          refine wpAnyH_ready (rs := [5]) (by kernel_rfl) (by decide) (AllReadyH.cons (o := _) rfl (fun K hK' => ?_) AllReadyH.nil)
          have KO12 := (KO11.sel [0, 3, 4, 2, 1, 5] 99 (by decide) (by decide))
          refine kn_stepE (by rfl) _ _ (by rfl) _ M1 ⟨x, X2, xc2⟩ (by rfl) (by rfl) KO12 (by have h1 := congrArg List.length HMT1; rw [List.length_map] at h1; omega) ?_
          clear KO12
          intro v' wo12 KO12
          obtain ⟨N12, HN12⟩ : ∃ N, M1 ++ [(⟨x, X2, xc2⟩ : EE)] = N := ⟨_, rfl⟩
          rw [HN12] at KO12
          try rw [HN12]
          obtain ⟨Z12, zc12, rfl⟩ := row_form KO12.at0
          have HN12 : N12.map EE.t = L ++ [x] := by rw [← HN12, List.map_append, HMT1]; rfl
          have HG := Lib.hid (HF.out _ (KO12.sel [3] 99 (by decide) (by decide)))
          refine hK'.out _ _ HG.out (fun hHeld2 => ?_)
          clear hK' K hHeld
          have hHeld := hHeld2
          clear hHeld2
          try simp only [Act.put, List.setIfInBounds_toArray]
          refine wpAnyH_ready (rs := [7]) (by kernel_rfl) (by decide) (AllReadyH.cons (o := _) rfl (fun K hK' => ?_) AllReadyH.nil)
          obtain ⟨s1, s2, s3, -⟩ := (KO12.front 2 rfl).cells
          have KO13 := ((KO12.front 2 rfl).st 0 (.slice Z12 N12.length zc12))
          go_simp
          clear s1 s2 s3
          have HG := Lib.hid (HF.out _ (KO13.sel [3] 99 (by decide) (by decide)))
          refine hK'.out _ _ HG.out (fun hHeld2 => ?_)
          clear hK' K hHeld
          have hHeld := hHeld2
          clear hHeld2
          try simp only [Act.put, List.setIfInBounds_toArray]
          refine wpAnyH_done (by kernel_rfl) ?_ _
          go_wp2_with fail
          go_meet
          exact ⟨_, _, _, _, rfl, HN12, (KO13.sel [0, 1, 2] 99 (by decide) (by decide))⟩
      · skip
        go_simp
        have KO14 := KO1.al [.slice none 0 0] 62
        have HG := Lib.hid (HF.out _ (KO14.sel [3] 99 (by decide) (by decide)))
        refine hK'.out _ _ HG.out (fun hHeld2 => ?_)
        clear hK' K hHeld
        have hHeld := hHeld2
        clear hHeld2
        try simp only [Act.put, List.setIfInBounds_toArray]
        generalize wo1.alloc (.cells #[.slice none 0 0] 62) = wo14 at KO14 hHeld ⊢
        obtain ⟨gg14, hgg14⟩ : ∃ g, wo1.heap.size = g := ⟨_, rfl⟩
        rw [hgg14] at KO14 ⊢
        clear hgg14
        refine wpAnyH_ready (rs := [3]) (by kernel_rfl) (by decide) (AllReadyH.cons (o := _) rfl (fun K hK' => ?_) AllReadyH.nil)
        go_simp
        go_at_call 85
        refine (KD.out _ KO14.below).mono ?_
        rintro e wo15 ⟨X15, xc15, rfl, hK⟩
        have KO15 := KO14.join hK
        clear hK
        have HG := Lib.hid (HF.out _ (KO15.sel [4] 99 (by decide) (by decide)))
        refine hK'.out _ _ HG.out (fun hHeld2 => ?_)
        clear hK' K hHeld
        have hHeld := hHeld2
        clear hHeld2
        try simp only [Act.put, List.setIfInBounds_toArray]
        refine wpAnyH_ready (rs := [4]) (by kernel_rfl) (by decide) (AllReadyH.cons (o := _) rfl (fun K hK' => ?_) AllReadyH.nil)
        go_simp
        have KO16 := KO15.al [.int .i64 x.num, .string x.name, .string x.maker, .int .i64 x.year, .slice X15 x.words.length xc15] 66
        have HG := Lib.hid (HF.out _ (KO16.sel [5] 99 (by decide) (by decide)))
        refine hK'.out _ _ HG.out (fun hHeld2 => ?_)
        clear hK' K hHeld
        have hHeld := hHeld2
        clear hHeld2
        try simp only [Act.put, List.setIfInBounds_toArray]
        generalize wo15.alloc (.cells #[.int .i64 x.num, .string x.name, .string x.maker, .int .i64 x.year, .slice X15 x.words.length xc15] 66) = wo16 at KO16 hHeld ⊢
        obtain ⟨ge16, hge16⟩ : ∃ g, wo15.heap.size = g := ⟨_, rfl⟩
        rw [hge16] at KO16 ⊢
        clear hge16
        refine wpAnyH_ready (rs := [5]) (by kernel_rfl) (by decide) (AllReadyH.cons (o := _) rfl (fun K hK' => ?_) AllReadyH.nil)
        have KO17 := (KO16.sel [0, 3, 4, 1, 2, 5] 99 (by decide) (by decide))
        refine kn_stepE (by rfl) _ _ (by rfl) _ M1 ⟨x, X15, xc15⟩ (by rfl) (by rfl) KO17 (by have h1 := congrArg List.length HMT1; rw [List.length_map] at h1; omega) ?_
        clear KO17
        intro v' wo17 KO17
        obtain ⟨N17, HN17⟩ : ∃ N, M1 ++ [(⟨x, X15, xc15⟩ : EE)] = N := ⟨_, rfl⟩
        rw [HN17] at KO17
        try rw [HN17]
        obtain ⟨Z17, zc17, rfl⟩ := row_form KO17.at0
        have HN17 : N17.map EE.t = L ++ [x] := by rw [← HN17, List.map_append, HMT1]; rfl
        have HG := Lib.hid (HF.out _ (KO17.sel [3] 99 (by decide) (by decide)))
        refine hK'.out _ _ HG.out (fun hHeld2 => ?_)
        clear hK' K hHeld
        have hHeld := hHeld2
        clear hHeld2
        try simp only [Act.put, List.setIfInBounds_toArray]
        refine wpAnyH_ready (rs := [7]) (by kernel_rfl) (by decide) (AllReadyH.cons (o := _) rfl (fun K hK' => ?_) AllReadyH.nil)
        obtain ⟨s1, s2, s3, -⟩ := (KO17.front 2 rfl).cells
        have KO18 := ((KO17.front 2 rfl).st 0 (.slice Z17 N17.length zc17))
        go_simp
        clear s1 s2 s3
        have HG := Lib.hid (HF.out _ (KO18.sel [3] 99 (by decide) (by decide)))
        refine hK'.out _ _ HG.out (fun hHeld2 => ?_)
        clear hK' K hHeld
        have hHeld := hHeld2
        clear hHeld2
        try simp only [Act.put, List.setIfInBounds_toArray]
        refine wpAnyH_done (by kernel_rfl) ?_ _
        go_wp2_with fail
        go_meet
        exact ⟨_, _, _, _, rfl, HN17, (KO18.sel [0, 1, 2] 99 (by decide) (by decide))⟩
    · skip
      go_simp
      have KO19 := hKd.al [.slice none 0 0] 62
      have HG := Lib.hid (HF.out _ (KO19.sel [1] 99 (by decide) (by decide)))
      refine hK'.out _ _ HG.out (fun hHeld2 => ?_)
      clear hK' K hHeld
      have hHeld := hHeld2
      clear hHeld2
      try simp only [Act.put, List.setIfInBounds_toArray]
      generalize wd.alloc (.cells #[.slice none 0 0] 62) = wo19 at KO19 hHeld ⊢
      obtain ⟨gg19, hgg19⟩ : ∃ g, wd.heap.size = g := ⟨_, rfl⟩
      rw [hgg19] at KO19 ⊢
      clear hgg19
      refine wpAnyH_ready (rs := [1]) (by kernel_rfl) (by decide) (AllReadyH.cons (o := _) rfl (fun K hK' => ?_) AllReadyH.nil)
      go_simp
      go_at_call 84
      refine (KC.out _ KO19.below).mono ?_
      rintro e wo20 ⟨Y20, yc20, M20, rfl, HMT20, hK⟩
      have KO20 := KO19.join hK
      clear hK
      have HG := Lib.hid (HF.out _ (KO20.sel [3] 99 (by decide) (by decide)))
      refine hK'.out _ _ HG.out (fun hHeld2 => ?_)
      clear hK' K hHeld
      have hHeld := hHeld2
      clear hHeld2
      try simp only [Act.put, List.setIfInBounds_toArray]
      refine wpAnyH_ready (rs := [3]) (by kernel_rfl) (by decide) (AllReadyH.cons (o := _) rfl (fun K hK' => ?_) AllReadyH.nil)
      go_simp
      go_at_call 85
      refine (KD.out _ KO20.below).mono ?_
      rintro e wo21 ⟨X21, xc21, rfl, hK⟩
      have KO21 := KO20.join hK
      clear hK
      have HG := Lib.hid (HF.out _ (KO21.sel [4] 99 (by decide) (by decide)))
      refine hK'.out _ _ HG.out (fun hHeld2 => ?_)
      clear hK' K hHeld
      have hHeld := hHeld2
      clear hHeld2
      try simp only [Act.put, List.setIfInBounds_toArray]
      refine wpAnyH_ready (rs := [4]) (by kernel_rfl) (by decide) (AllReadyH.cons (o := _) rfl (fun K hK' => ?_) AllReadyH.nil)
      go_simp
      have KO22 := KO21.al [.int .i64 x.num, .string x.name, .string x.maker, .int .i64 x.year, .slice X21 x.words.length xc21] 66
      have HG := Lib.hid (HF.out _ (KO22.sel [5] 99 (by decide) (by decide)))
      refine hK'.out _ _ HG.out (fun hHeld2 => ?_)
      clear hK' K hHeld
      have hHeld := hHeld2
      clear hHeld2
      try simp only [Act.put, List.setIfInBounds_toArray]
      generalize wo21.alloc (.cells #[.int .i64 x.num, .string x.name, .string x.maker, .int .i64 x.year, .slice X21 x.words.length xc21] 66) = wo22 at KO22 hHeld ⊢
      obtain ⟨ge22, hge22⟩ : ∃ g, wo21.heap.size = g := ⟨_, rfl⟩
      rw [hge22] at KO22 ⊢
      clear hge22
      refine wpAnyH_ready (rs := [5]) (by kernel_rfl) (by decide) (AllReadyH.cons (o := _) rfl (fun K hK' => ?_) AllReadyH.nil)
      have KO23 := (KO22.sel [0, 2, 3, 1, 4, 5] 99 (by decide) (by decide))
      refine kn_stepE (by rfl) _ _ (by rfl) _ M20 ⟨x, X21, xc21⟩ (by rfl) (by rfl) KO23 (by have h1 := congrArg List.length HMT20; rw [List.length_map] at h1; omega) ?_
      clear KO23
      intro v' wo23 KO23
      obtain ⟨N23, HN23⟩ : ∃ N, M20 ++ [(⟨x, X21, xc21⟩ : EE)] = N := ⟨_, rfl⟩
      rw [HN23] at KO23
      try rw [HN23]
      obtain ⟨Z23, zc23, rfl⟩ := row_form KO23.at0
      have HN23 : N23.map EE.t = L ++ [x] := by rw [← HN23, List.map_append, HMT20]; rfl
      have HG := Lib.hid (HF.out _ (KO23.sel [3] 99 (by decide) (by decide)))
      refine hK'.out _ _ HG.out (fun hHeld2 => ?_)
      clear hK' K hHeld
      have hHeld := hHeld2
      clear hHeld2
      try simp only [Act.put, List.setIfInBounds_toArray]
      refine wpAnyH_ready (rs := [7]) (by kernel_rfl) (by decide) (AllReadyH.cons (o := _) rfl (fun K hK' => ?_) AllReadyH.nil)
      obtain ⟨s1, s2, s3, -⟩ := (KO23.front 2 rfl).cells
      have KO24 := ((KO23.front 2 rfl).st 0 (.slice Z23 N23.length zc23))
      go_simp
      clear s1 s2 s3
      have HG := Lib.hid (HF.out _ (KO24.sel [3] 99 (by decide) (by decide)))
      refine hK'.out _ _ HG.out (fun hHeld2 => ?_)
      clear hK' K hHeld
      have hHeld := hHeld2
      clear hHeld2
      try simp only [Act.put, List.setIfInBounds_toArray]
      refine wpAnyH_done (by kernel_rfl) ?_ _
      go_wp2_with fail
      go_meet
      exact ⟨_, _, _, _, rfl, HN23, (KO24.sel [0, 1, 2] 99 (by decide) (by decide))⟩
  case rest =>
    obtain ⟨g6, Y, y, M, rfl, hMT, K5⟩ := hcut
    clear HF HG hKd K4 KC KD
    have hML : M.length = n + 1 := by have := congrArg List.length hMT; rw [List.length_map, List.length_append] at this; have := HLN.out; simp at *; omega
    obtain ⟨gY, yc, hY⟩ := Kn.rowForm (K5.front 1 rfl) (show 0 < M.length by omega)
    injection hY with hY hY2 hY3
    subst hY
    subst hY3
    have K5 := K5.sel [0, 1, 2] 3 (by decide) (by decide)
    have KS := Lib.hid (sort_kn K5 (by omega) (by omega))
    have HMT := Lib.hid hMT
    obtain ⟨a1, a2, a3⟩ := K5.blkAt
    clear hMT
    have HML := Lib.hid hML
    clear hML
    go_wp2_with fail
    refine KS.out.mono ?_; rintro e w6 ⟨rfl, M', hperm, hsort, K6⟩
    have HP1 := Lib.hid (HP.out (M'.map EE.t) (by have := hperm.map EE.t; rw [HMT.out] at this; exact this) (by
      rw [List.pairwise_map]
      refine hsort.imp (fun {a b} h => ?_)
      unfold ltE at h
      rw [decide_eq_false_iff_not] at h
      omega))
    have HL2 := Lib.hid hperm.length_eq
    clear hperm hsort K5 KS a1 a2 a3
    obtain ⟨a1, a2, a3⟩ := K6.blkAt
    go_wp2_with fail
    go_ret2
    refine ⟨_, _, M', by rw [HL2.out]; rfl, HP1.out.symm, ?_⟩
    rw [HL2.out]
    exact K6.sel [1, 2] 99 (by decide) (by decide)
end Go.Proofs.Ytmmiahgmdllgdaa

namespace Go.Proofs.Ytmmiahgmdllgdaa
open Go.RowKit Go.Sort
/-- an entry whose words can be read -/
def EE.reads (e : EE) (w : World) : Prop := (e.X = none → e.x = 0) ∧ RL StrM 1 w e.X e.t.words.length e.t.words
theorem EE.reads.below {e : EE} {w w' : World} (h : e.reads w) (hb : Below w.heap.size w w') : e.reads w' := ⟨h.1, h.2.below steady_StrM hb⟩
theorem addr_aa (a : Addr) (m n : Nat) : (a.add m).add n = a.add (m + n) := by
  unfold Addr.add
  by_cases hm : m = 0 <;> by_cases hn : n = 0 <;> simp [hm, hn, Nat.add_assoc]
/-- a row of entries that is read, as cells -/
theorem rawE {w : World} {ad : Addr} {n : Nat} {L : List Etr} (hr : RL EtrM 5 w (some ad) n L) : ∃ E : List EE, E.map EE.t = L ∧ (∀ j u, (cellsE E)[j]? = some u → w.cell? (ad.add j) = some u) ∧ ∀ e ∈ E, e.reads w := by
  have H : ∀ k, k ≤ L.length → ∃ E : List EE, E.map EE.t = L.take k ∧ (∀ j u, (cellsE E)[j]? = some u → w.cell? (ad.add j) = some u) ∧ ∀ e ∈ E, e.reads w := by
    intro k
    induction k with
    | zero => intro _; exact ⟨[], rfl, fun j u h => by simp [cellsE] at h, fun e h => by cases h⟩
    | succ k ih =>
      intro hk
      obtain ⟨E, h1, h2, h3⟩ := ih (by omega)
      obtain ⟨ad', e, hlt, hkl, A, c, hn, ⟨c0, c1, c2, c3, c4⟩, hw⟩ := hr.at_ (k := k) (by have := hr.1; omega)
      injection e with e
      subst e
      have hEl : E.length = k := by have := congrArg List.length h1; rw [List.length_map, List.length_take] at this; omega
      refine ⟨E ++ [⟨L[k], A, c⟩], by rw [List.map_append, h1, List.take_succ_eq_append_getElem (by omega)]; rfl, fun j u hu => ?_, fun e he => ?_⟩
      · rw [cellsE_app] at hu
        by_cases hj : j < (cellsE E).length
        · rw [List.getElem?_append_left hj] at hu
          exact h2 j u hu
        · rw [List.getElem?_append_right (by omega)] at hu
          have hl := cellsE_len E
          rw [hEl] at hl
          rw [hl] at hu hj
          obtain ⟨i, rfl⟩ : ∃ i, j = k * 5 + i := ⟨j - k * 5, by omega⟩
          rw [Nat.add_sub_cancel_left] at hu
          have hu : (EE.cells ⟨L[k], A, c⟩)[i]? = some u := by simpa [cellsE] using hu
          unfold EE.cells at hu
          rw [← addr_aa]
          generalize ad.add (k * 5) = p at c0 c1 c2 c3 c4 ⊢
          match i, hu with
          | 0, hu => simp only [List.getElem?_cons_zero, Option.some.injEq] at hu; rw [← hu, addr_add_zero]; exact c0
          | 1, hu => simp only [List.getElem?_cons_succ, List.getElem?_cons_zero, Option.some.injEq] at hu; rw [← hu]; exact c1
          | 2, hu => simp only [List.getElem?_cons_succ, List.getElem?_cons_zero, Option.some.injEq] at hu; rw [← hu]; exact c2
          | 3, hu => simp only [List.getElem?_cons_succ, List.getElem?_cons_zero, Option.some.injEq] at hu; rw [← hu]; exact c3
          | 4, hu => simp only [List.getElem?_cons_succ, List.getElem?_cons_zero, Option.some.injEq] at hu; rw [← hu]; exact c4
          | i + 5, hu => simp at hu
      · rcases List.mem_append.1 he with he | he
        · exact h3 e he
        · rw [List.mem_singleton.1 he]
          exact ⟨hn, hw⟩
  obtain ⟨E, h1, h2, h3⟩ := H L.length (Nat.le_refl _)
  exact ⟨E, by rw [h1, List.take_length], h2, h3⟩
theorem cellsE_one (M : List EE) : ∀ u ∈ cellsE M, u.oneCell' = true := fun u hu => by
  unfold cellsE at hu
  obtain ⟨e, -, hu⟩ := List.mem_flatMap.1 hu
  unfold EE.cells at hu
  simp only [List.mem_cons, List.not_mem_nil, or_false] at hu
  rcases hu with rfl | rfl | rfl | rfl | rfl <;> rfl
/-- entries that lie in a row of the call's own, their words elsewhere -/
theorem Kn.rlRaw {w0 w : World} {m : List Ent} {A : Option Addr} {n c : Nat} {M : List EE} (h : Kn w0 (.row (.slice A n c) 66 5 n (cellsE M) :: m) w) (hl : M.length = n) (hm : ∀ e ∈ M, e.reads w) : RL EtrM 5 w A n (M.map EE.t) := by
  have hr : w.ownsRow 0 66 5 (.slice A n c) n (cellsE M) := h.at0
  refine ⟨by rw [List.length_map]; exact hl, fun h0 => ?_⟩
  rcases hr.2 with ⟨hv, hn⟩ | ⟨g, cap, cur, hv, -, hg, -⟩
  · omega
  · injection hv with h1 h2 h3
    refine ⟨_, h1, (Array.getElem?_eq_some_iff.1 hg).1, fun k hk => ?_⟩
    have hk' : k < M.length := by rw [List.length_map] at hk; exact hk
    rw [List.getElem_map]
    have hx : M[k]? = some M[k] := List.getElem?_eq_getElem hk'
    obtain ⟨r0, r1⟩ := hm _ (List.getElem_mem hk')
    rw [h1] at hr
    have hc : ∀ j u, (M[k].cells)[j]? = some u → w.cell? ⟨g, k * 5 + j, none⟩ = some u := fun j u hu => by
      have hq := hr.cells (g := g) rfl _ _ (cellsE_get M k _ hx j u hu)
      rw [add_zero_block] at hq
      exact hq
    rw [add_zero_block]
    exact ⟨_, _, r0, ⟨hc 0 _ rfl, hc 1 _ rfl, hc 2 _ rfl, hc 3 _ rfl, hc 4 _ rfl⟩, r1⟩
section
variable {ops : Array Oper} {rest : List Oper} {o : Oper} {a : Act} {Q : Exit → Act → World → Prop} {w0 w : World} {m : List Ent}
/-- append(s, x..) of entries, x a row that is only read -/
theorem kn_appRE (hgd : o.guard = none) (s x : Operand) (ho : o.op = .call { callee := .builtin .append, args := #[s, x], argTypes := #[62, 62] })
    (v : Value) (q : Nat) (M : List EE) (hs : a.eval s = v) {ad : Addr} {n c : Nat} {E : List EE} (hx : a.eval x = .slice (some ad) n c) (hE : E.length = n) (hc : ∀ j u, (cellsE E)[j]? = some u → w.cell? (ad.add j) = some u)
    (hK : Kn w0 (.row v 66 5 q (cellsE M) :: m) w) (hl : q + n ≤ 1000000)
    (h : ∀ v' w', Kn w0 (.row v' 66 5 (q + n) (cellsE (M ++ E)) :: m) w' → wpList Try.prog ops Q rest (a.put o.dst v') w') : wpList Try.prog ops Q (o :: rest) a w := by
  refine kn_appC tpE hgd s x ho v q (cellsE M) hs (ad := ad) (c := c) (k := n) (l := cellsE E) hx hc hK (by rw [cellsE_len, hE]) (cellsE_one E) (by omega) (by omega) (fun v' w' K => h v' w' ?_)
  rw [cellsE_app]
  exact K
theorem kn_appRE0 (hgd : o.guard = none) (s x : Operand) (ho : o.op = .call { callee := .builtin .append, args := #[s, x], argTypes := #[62, 62] })
    (v : Value) (q : Nat) (M : List EE) (hs : a.eval s = v) (hx : a.eval x = .slice none 0 0)
    (hK : Kn w0 (.row v 66 5 q (cellsE M) :: m) w)
    (h : wpList Try.prog ops Q rest (a.put o.dst v) w) : wpList Try.prog ops Q (o :: rest) a w := by
  obtain ⟨i0, hi, hz0, hz1, hz2⟩ := info_parts tpE.info
  exact wpList_append_own_none hgd s x 62 ho 0 66 i0 5 tpE.under hi v q (cellsE M) hs hK.at0 hx h
end
theorem ins_perm {L : List Etr} (x : Etr) (k : Nat) : (L.take k ++ [x] ++ L.drop k).Perm (L ++ [x]) := by
  have h1 : (L.take k ++ [x] ++ L.drop k).Perm (L.take k ++ (L.drop k ++ [x])) := by
    rw [List.append_assoc]
    exact List.Perm.append_left _ List.perm_append_comm
  rw [← List.append_assoc, List.take_append_drop] at h1
  exact h1
theorem ins_sorted {L : List Etr} {x : Etr} {k : Nat} (hL : entsP L L.length = true) (hk : k ≤ L.length) (h1 : ∀ i (h : i < L.length), k ≤ i → x.num < L[i].num) (h2 : ∀ j (h : j < L.length), j + 1 = k → L[j].num ≤ x.num) : (L.take k ++ [x] ++ L.drop k).Pairwise (fun a b => a.num ≤ b.num) := by
  have hasc := ents_asc hL
  have hle : L.Pairwise (fun a b => a.num ≤ b.num) := hasc.imp (fun h => Int.le_of_lt h)
  have hp := List.pairwise_iff_getElem.1 hasc
  have hlow : ∀ y ∈ L.take k, y.num ≤ x.num := fun y hy => by
    obtain ⟨i, hi, rfl⟩ := List.getElem_of_mem hy
    rw [List.length_take] at hi
    rw [List.getElem_take]
    have h3 := h2 (k - 1) (by omega) (by omega)
    rcases Nat.lt_or_ge i (k - 1) with h4 | h4
    · have := hp i (k - 1) (by omega) (by omega) h4; omega
    · obtain rfl : i = k - 1 := by omega
      exact h3
  have hhigh : ∀ y ∈ L.drop k, x.num ≤ y.num := fun y hy => by
    obtain ⟨i, hi, rfl⟩ := List.getElem_of_mem hy
    rw [List.length_drop] at hi
    rw [List.getElem_drop]
    exact Int.le_of_lt (h1 (k + i) (by omega) (by omega))
  rw [List.append_assoc, List.pairwise_append]
  refine ⟨hle.sublist (List.take_sublist _ _), ?_, fun a ha b hb => ?_⟩
  · rw [List.singleton_append, List.pairwise_cons]
    exact ⟨hhigh, hle.sublist (List.drop_sublist _ _)⟩
  · rcases List.mem_append.1 hb with hb | hb
    · rw [List.mem_singleton.1 hb]; exact hlow a ha
    · exact Int.le_trans (hlow a ha) (hhigh b hb)
end Go.Proofs.Ytmmiahgmdllgdaa

namespace Go.Proofs.Ytmmiahgmdllgdaa
open Go.RowKit Go.Sort
set_option maxRecDepth 100000 in
set_option maxHeartbeats 6400000 in
theorem specAddEntry_any (B : Option Addr) (n bc : Nat) (L : List Etr) (x : Etr) (A : Option Addr) (c : Nat) (w : World) (hr : RL EtrM 5 w B n L) (hn : n ≤ 1048576) (hnc : n ≤ bc) (hB : B = none → bc = 0) (hbc : bc ≤ 9223372036854775807) (hz : ∀ x ∈ L, SmE x) (hxr : RL StrM 1 w A x.words.length x.words) (hxn : A = none → c = 0) (hxz : SmE x) :
    Calls Try.prog 25 #[.slice B n bc, .agg #[.int .i64 x.num, .string x.name, .string x.maker, .int .i64 x.year, .slice A x.words.length c]] w (AERet (adL L x) (adC L x) w) := by
  have hLn := hr.1
  have KV := (fun W (hW : Below w.heap.size w W) => l25Ok_any B n bc L W (hr.below steady_EtrM hW) (by omega) hz)
  have KX := (fun g W (h0 : Kn w [.blk g [.int .i64 x.num, .string x.name, .string x.maker, .int .i64 x.year, .slice A x.words.length c] 66] W) => (l25One_any ⟨g, 0, none⟩ x W ⟨A, c, hxn, by
    obtain ⟨a1, -, -⟩ := h0.blkAt
    exact ⟨a1 0, a1 1, a1 2, a1 3, a1 4⟩, hxr.below steady_StrM h0.below⟩ hxz).mono fun e w' h => (⟨h.1, drewN_Bw h.2⟩ : _ ∧ Below W.heap.size W w'))
  have KF := (fun W (hW : Below w.heap.size w W) => l25Find_any B n bc L x.num W (hr.below steady_EtrM hW) (by omega))
  have HR := Lib.hid (fun W (hW : Below w.heap.size w W) => hr.below steady_EtrM hW)
  have HXR := Lib.hid (fun W (hW : Below w.heap.size w W) => hxr.below steady_StrM hW)
  have HXN := Lib.hid hxn
  have hbd := idxE_bd L x.num
  have F1 := ad_bad (L := L) (x := x)
  have F2 := ad_range (L := L) (x := x)
  have F3 := ad_there (L := L) (x := x)
  have F4 := ad_full (L := L) (x := x)
  have F5 := ad_fine (L := L) (x := x)
  have HM1 := (fun h => ents_words (L := L) h)
  have HM2 := (fun h => etr_words (x := x) h)
  have HM3 := (fun (h : entsOk L = true) => show entsP L L.length = true by unfold entsOk at h; rw [Bool.and_eq_true] at h; exact h.1)
  unfold AERet
  obtain ⟨RL_, hRL⟩ : ∃ v, adL L x = v := ⟨_, rfl⟩
  obtain ⟨RC_, hRC⟩ : ∃ v, adC L x = v := ⟨_, rfl⟩
  obtain ⟨b1, hb1⟩ : ∃ v, entsOk L = v := ⟨_, rfl⟩
  obtain ⟨b2, hb2⟩ : ∃ v, etrOk x = v := ⟨_, rfl⟩
  obtain ⟨ix, hix⟩ : ∃ v, idxE L x.num = v := ⟨_, rfl⟩
  simp only [hRL, hRC, hb1, hb2, hix] at KV KX KF hbd F1 F2 F3 F4 F5 HM1 HM2 HM3 ⊢
  rw [hLn] at F4 F5
  clear hRL hRC hb1 hb2 hix hr hz hxr hxn hxz
  replace KV := Lib.hid KV
  replace KX := Lib.hid KX
  replace KF := Lib.hid KF
  replace HM1 := Lib.hid HM1
  replace HM2 := Lib.hid HM2
  replace HM3 := Lib.hid HM3
  replace F1 := Lib.hid F1
  replace F2 := Lib.hid F2
  replace F3 := Lib.hid F3
  replace F4 := Lib.hid F4
  replace F5 := Lib.hid F5
  have HLN := Lib.hid hLn
  have HBN := Lib.hid hB
  clear hLn hB
  obtain ⟨g, hg⟩ : ∃ g, w.heap.size = g := ⟨_, rfl⟩
  have K0 := (Kn.nil w).al [.int .i64 x.num, .string x.name, .string x.maker, .int .i64 x.year, .slice A x.words.length c] 66
  rw [hg] at K0
  go_enter Try.func25, Try.ntmps25
  go_upto_region 1 with fail
  try rw [hg]
  refine Code.wp.kn K0 ?_; clear K0 hg; intro w1 K1
  go_wp2_with fail
  refine (KV.out _ K1.below).mono ?_; rintro e w2 ⟨rfl, hw⟩
  have K2 := K1.keep hw
  clear K1 hw
  rcases b1 with _ | _
  · go_wp2_with fail
    go_ret2
    obtain ⟨e1, e2⟩ := F1.out trivial
    rw [e1, e2]
    exact AERet.none K2.below
  obtain ⟨a1, a2, a3⟩ := K2.blkAt
  go_wp2_with fail
  refine (KX.out _ _ K2).mono ?_; rintro e w3 ⟨rfl, hw⟩
  have K3 := K2.keep hw
  clear K2 hw a1 a2 a3
  rcases b2 with _ | _
  · go_wp2_with fail
    go_ret2
    obtain ⟨e1, e2⟩ := F2.out trivial trivial
    rw [e1, e2]
    exact AERet.none K3.below
  obtain ⟨a1, a2, a3⟩ := K3.blkAt
  go_wp2_with fail
  refine (KF.out _ K3.below).mono ?_; rintro e w4 ⟨rfl, hw⟩
  have K4 := K3.keep hw
  clear K3 hw a1 a2 a3
  by_cases h4 : 0 ≤ ix
  · go_wp2_with fail
    go_ret2
    obtain ⟨e1, e2⟩ := F3.out trivial trivial h4
    rw [e1, e2]
    exact AERet.none K4.below
  by_cases h5 : n = 50
  · have i5 : (50 : Int) ≤ (n : Int) := by omega
    go_wp2_with fail
    go_ret2
    obtain ⟨e1, e2⟩ := F4.out trivial trivial (by omega) h5
    rw [e1, e2]
    exact AERet.none K4.below
  obtain ⟨e1, hn50, HP⟩ := F5.out trivial trivial (by omega) h5
  have i5 : ¬ (50 : Int) ≤ (n : Int) := by omega
  have HP := Lib.hid HP
  subst e1
  have hasc := HM3.out trivial
  have HAS := Lib.hid hasc
  clear hasc
  rcases B with _ | ad
  · obtain rfl : bc = 0 := HBN.out rfl
    obtain rfl : n = 0 := by omega
    have hL0 := List.eq_nil_of_length_eq_zero HLN.out
    subst hL0
    have HRR := HP.out [x] (by simp) (by simp)
    have HXX := HM2.out trivial
    clear HBN F1 F2 F3 F4 F5 KV KX KF hbd
    have HK14 := Lib.hid (fun v (w' : World) (K : Kn w (.row v 66 5 1 (cellsE [⟨x, A, c⟩]) :: [.blk g [.int .i64 x.num, .string x.name, .string x.maker, .int .i64 x.year, .slice A x.words.length c] 66]) w') => show ∃ Z z, v = .slice Z 1 z ∧ Calls Try.prog 79 #[.slice Z 1 z] w' (OwnES RL_ w') by
      obtain ⟨Z, z, rfl⟩ := row_form K.at0
      refine ⟨Z, z, rfl, ?_⟩
      have hr := K.rlRaw rfl (fun e he => by rw [List.mem_singleton.1 he]; exact ⟨HXN.out, HXR.out _ K.below⟩)
      rw [HRR]
      exact l25Copy_any Z _ z _ w' hr (by omega) (fun y hy => by rw [List.mem_singleton.1 hy]; exact HXX))
    clear HRR HXX
    go_wp2_with fail
    go_loopw [6] (fun kk wr => kk = .int .i64 0 ∧ Kn w [.blk g [.int .i64 x.num, .string x.name, .string x.maker, .int .i64 x.year, .slice A x.words.length c] 66] wr) (fun _ _ => 0)
    case atStart => exact ⟨rfl, K4⟩
    case round =>
      clear K4
      obtain ⟨rfl, hK⟩ := hrel
      go_wp2_with fail
      go_quiet (fail)
      go_upto_region 12 with fail
      refine Code.wp.kn (hK.drewN nq) ?_; clear hK; intro w5 K5
      have K6 := (K5.al [] 66).litRow (size := 5) (n := 0) rfl (by decide)
      clear K5
      go_upto_region 13 with (at_builtin; refine kn_appRE0 rfl _ _ rfl _ 0 [] rfl rfl K6 ?_)
      refine Code.wp.kn K6 ?_; clear K6; intro w7 K7
      obtain ⟨a1, a2, a3, a4, a5⟩ := box5 (K7.sel [1] 99 (by decide) (by decide))
      have K8 := (K7.al [.int .i64 x.num, .string x.name, .string x.maker, .int .i64 x.year, .slice A x.words.length c] 66)
      clear K7
      go_upto_region 14 with (at_builtin; refine kn_app tpE rfl _ _ rfl _ 0 [] rfl rfl K8 rfl (by simp [Value.oneCell']) (by omega) (by omega) ?_; clear K8; intro v9 w9 K9)
      clear a1 a2 a3 a4 a5
      have K9 : Kn w [.row v9 66 5 1 (cellsE [⟨x, A, c⟩]), .blk g [.int .i64 x.num, .string x.name, .string x.maker, .int .i64 x.year, .slice A x.words.length c] 66] w9 := K9.sel [0, 1] 99 (by decide) (by decide)
      obtain ⟨Z10, z10, rfl, KC⟩ := HK14.out v9 w9 K9
      unfold OwnES at KC
      go_wp2_with (at_builtin; refine kn_appRE0 rfl _ _ rfl _ 1 (M := [⟨x, A, c⟩]) rfl rfl K9 ?_)
      refine KC.mono ?_; rintro e w11 ⟨X, xx, M, rfl, hM, hKn⟩
      have K11 := (K9.join hKn).sel [0, 1] 99 (by decide) (by decide)
      clear K9 KC hKn
      go_wp2_with fail
      go_ret2
      exact ⟨X, xx, M, rfl, hM, K11⟩
  clear HBN F1 F2 F3 F4 F5 KV KX KF hbd
  obtain ⟨E, hE1, hE2, hE3⟩ := rawE (HR.out w (Below.refl _ _))
  have hEl : E.length = n := by have := congrArg List.length hE1; rw [List.length_map] at this; rw [this]; exact HLN.out
  have hlt5 : ad.block < w.heap.size ∨ n = 0 := by
    rcases Nat.eq_zero_or_pos n with h | h
    · exact .inr h
    · obtain ⟨ad', e, h1, -⟩ := (HR.out w (Below.refl _ _)).2 h
      injection e with e
      subst e
      exact .inl h1
  have HC := Lib.hid (fun W (hW : Below w.heap.size w W) i j u (hu : (cellsE E)[i + j]? = some u) => show W.cell? ((ad.add i).add j) = some u by
    rw [addr_aa, hW.cell (by
      rw [block_of_add]
      rcases hlt5 with h | h
      · exact h
      · have h2 := (List.getElem?_eq_some_iff.1 hu).1
        rw [cellsE_len, hEl, h] at h2
        omega)]
    exact hE2 _ u hu)
  have HRD := Lib.hid (fun W (hW : Below w.heap.size w W) e (he : e ∈ E) => (hE3 e he).below hW)
  have HE1 := Lib.hid hE1
  have HEL := Lib.hid hEl
  clear hE1 hE2 hE3 hEl hlt5
  go_upto_block 0 with (fail)
  go_cut [6] (fun kk wx => ∃ (k : Nat), k ≤ n ∧ kk = .int .i64 (k : Int) ∧ Hid ((L.take k ++ [x] ++ L.drop k).Pairwise (fun a b => a.num ≤ b.num)) ∧ Kn w [.blk g [.int .i64 x.num, .string x.name, .string x.maker, .int .i64 x.year, .slice A x.words.length c] 66] wx)
  case rest =>
    clear K4
    obtain ⟨k, hk, rfl, HS, hK⟩ := hcut
    go_upto_region 12 with fail
    refine Code.wp.kn hK ?_; clear hK; intro w5 K5
    have ht1 : (E.take k).length = k := by rw [List.length_take, HEL.out]; omega
    have ht2 : (E.drop k).length = n - k := by rw [List.length_drop, HEL.out]
    have hcat : cellsE (E.take k) ++ cellsE (E.drop k) = cellsE E := by rw [← cellsE_app, List.take_append_drop]
    have hl1 : (cellsE (E.take k)).length = k * 5 := by rw [cellsE_len, ht1]
    have HC1 := Lib.hid (fun W (hW : Below w.heap.size w W) j u (hu : (cellsE (E.take k))[j]? = some u) => show W.cell? (ad.add j) = some u by
      have h1 := HC.out W hW 0 j u (by
        rw [Nat.zero_add, ← hcat, List.getElem?_append_left]
        · exact hu
        · exact (List.getElem?_eq_some_iff.1 hu).1)
      rw [addr_add_zero] at h1
      exact h1)
    have HC2 := Lib.hid (fun W (hW : Below w.heap.size w W) j u (hu : (cellsE (E.drop k))[j]? = some u) => show W.cell? ((ad.add (k * 5)).add j) = some u from HC.out W hW (k * 5) j u (by
        rw [← hcat, List.getElem?_append_right (by omega), hl1, Nat.add_sub_cancel_left]
        exact hu))
    have HT1 := Lib.hid ht1
    have HT2 := Lib.hid ht2
    clear hcat hl1 ht1 ht2
    have hkn5 : (k : Int) ≤ (bc : Int) := by omega
    have hkn6 : k ≤ bc := by omega
    have hkn7 : (0 : Int) ≤ (k : Int) := by omega
    have hkn8 : (k : Int) ≤ (n : Int) := by omega
    have K6 := (K5.al [] 66).litRow (size := 5) (n := 0) rfl (by decide)
    clear K5
    go_upto_region 13 with (at_builtin; refine kn_appRE rfl _ _ rfl _ 0 [] rfl rfl HT1.out (HC1.out _ K6.below) K6 (by omega) ?_; clear K6; intro v7 w7 K7)
    rw [Nat.zero_add, List.nil_append] at K7
    obtain ⟨Z7, z7, rfl⟩ := row_form K7.at0
    obtain ⟨a1, a2, a3, a4, a5⟩ := box5 (K7.sel [1] 99 (by decide) (by decide))
    have K8 := (K7.al [.int .i64 x.num, .string x.name, .string x.maker, .int .i64 x.year, .slice A x.words.length c] 66)
    clear K7
    go_upto_region 14 with (at_builtin; refine kn_app tpE rfl _ _ rfl _ k (cellsE (E.take k)) rfl rfl K8 rfl (by simp [Value.oneCell']) (by omega) (by omega) ?_; clear K8; intro v9 w9 K9)
    clear a1 a2 a3 a4 a5
    have K9 : Kn w [.row v9 66 5 (k + 1) (cellsE (E.take k ++ [⟨x, A, c⟩])), .blk g [.int .i64 x.num, .string x.name, .string x.maker, .int .i64 x.year, .slice A x.words.length c] 66] w9 := by
      rw [cellsE_app]; exact K9.sel [0, 1] 99 (by decide) (by decide)
    obtain ⟨Z9, z9, rfl⟩ := row_form K9.at0
    have HXR9 := Lib.hid (fun W (hW : Below w.heap.size w W) e (he : e ∈ E.take k ++ [⟨x, A, c⟩] ++ E.drop k) => show e.reads W by
      rcases List.mem_append.1 he with he | he
      · rcases List.mem_append.1 he with he | he
        · exact HRD.out W hW e (List.mem_of_mem_take he)
        · rw [List.mem_singleton.1 he]; exact ⟨HXN.out, HXR.out W hW⟩
      · exact HRD.out W hW e (List.mem_of_mem_drop he))
    have HMM := Lib.hid (show (E.take k ++ [⟨x, A, c⟩] ++ E.drop k : List EE).map EE.t = L.take k ++ [x] ++ L.drop k by
      rw [List.map_append, List.map_append, List.map_take, List.map_drop, HE1.out]; rfl)
    have HML := Lib.hid (show (E.take k ++ [⟨x, A, c⟩] ++ E.drop k : List EE).length = k + 1 + (n - k) by
      rw [List.length_append, List.length_append, HT1.out, HT2.out]; rfl)
    have HRR := HP.out _ (ins_perm x k) HS.out
    have HWW := Lib.hid (show ∀ y ∈ L.take k ++ [x] ++ L.drop k, y.words.length ≤ 1000000 from fun y hy => by
      rcases List.mem_append.1 hy with hy | hy
      · rcases List.mem_append.1 hy with hy | hy
        · exact HM1.out trivial y (List.mem_of_mem_take hy)
        · rw [List.mem_singleton.1 hy]; exact HM2.out trivial
      · exact HM1.out trivial y (List.mem_of_mem_drop hy))
    have HK14 := Lib.hid (fun v (w' : World) (K : Kn w (.row v 66 5 (k + 1 + (n - k)) (cellsE (E.take k ++ [⟨x, A, c⟩] ++ E.drop k)) :: [.blk g [.int .i64 x.num, .string x.name, .string x.maker, .int .i64 x.year, .slice A x.words.length c] 66]) w') => show ∃ Z z, v = .slice Z (k + 1 + (n - k)) z ∧ Calls Try.prog 79 #[.slice Z (k + 1 + (n - k)) z] w' (OwnES RL_ w') by
      obtain ⟨Z, z, rfl⟩ := row_form K.at0
      refine ⟨Z, z, rfl, ?_⟩
      have hr := K.rlRaw HML.out (HXR9.out _ K.below)
      rw [HMM.out] at hr
      rw [HRR]
      exact l25Copy_any Z _ z _ w' hr (by omega) HWW.out)
    clear HXR9 HML HMM HRR HWW HP HS
    by_cases hkb : k = bc
    · have hdr := List.eq_nil_of_length_eq_zero (show (E.drop k).length = 0 by rw [HT2.out]; omega)
      have hnk : n - k = 0 := by omega
      have HK15 := Lib.hid (fun v (w' : World) (K : Kn w (.row v 66 5 (k + 1 + 0) (cellsE (E.take k ++ [⟨x, A, c⟩] ++ [])) :: [.blk g [.int .i64 x.num, .string x.name, .string x.maker, .int .i64 x.year, .slice A x.words.length c] 66]) w') => show ∃ Z z, v = .slice Z (k + 1) z ∧ Calls Try.prog 79 #[.slice Z (k + 1) z] w' (OwnES RL_ w') by
        have h := HK14.out v w' (by rw [hdr, hnk]; exact K)
        rw [hnk, Nat.add_zero] at h
        exact h)
      have e1 : k = n := by omega
      clear hdr hnk HC1 HC2 HT1 HT2 HK14 HC HRD HE1 HEL
      subst hkb
      subst e1
      go_wp2_with (at_builtin; refine kn_appRE (n := 0) (E := []) rfl _ _ rfl _ (k + 1) _ rfl rfl rfl (fun j u hu => by simp [cellsE] at hu) K9 (by omega) ?_; intro v10 w10 K10; obtain ⟨Z10, z10, rfl, KC⟩ := HK15.out v10 w10 K10)
      unfold OwnES at KC
      refine KC.mono ?_; rintro e w11 ⟨X, xx, M, rfl, hM, hKn⟩
      have K11 := (K10.join hKn).sel [0, 1] 99 (by decide) (by decide)
      clear K10 KC hKn
      go_wp2_with fail
      go_ret2
      exact ⟨X, xx, M, rfl, hM, K11⟩
    · have hkb2 : ¬ (k : Int) = (bc : Int) := by omega
      go_wp2_with (at_builtin; refine kn_appRE rfl _ _ rfl _ (k + 1) _ rfl rfl HT2.out (HC2.out _ K9.below) K9 (by omega) ?_; clear K9; intro v10 w10 K10; obtain ⟨Z10, z10, rfl, KC⟩ := HK14.out v10 w10 K10)
      unfold OwnES at KC
      refine KC.mono ?_; rintro e w11 ⟨X, xx, M, rfl, hM, hKn⟩
      have K11 := (K10.join hKn).sel [0, 1] 99 (by decide) (by decide)
      clear K10 KC hKn
      go_wp2_with fail
      go_ret2
      exact ⟨X, xx, M, rfl, hM, K11⟩
  go_wp2_with fail
  go_loopw [6] (fun kk wr => ∃ (k : Nat), k ≤ n ∧ kk = .int .i64 (k : Int) ∧ Hid (∀ i (h : i < L.length), k ≤ i → x.num < L[i].num) ∧ Kn w [.blk g [.int .i64 x.num, .string x.name, .string x.maker, .int .i64 x.year, .slice A x.words.length c] 66] wr) (fun kk _ => (intOf kk).toNat)
  case atStart => exact ⟨n, Nat.le_refl _, rfl, Lib.hid (fun i h hi => by have := HLN.out; omega), K4⟩
  case round =>
    clear K4
    obtain ⟨k, hk, rfl, HGT, hK⟩ := hrel
    obtain ⟨a1, a2, a3⟩ := hK.blkAt
    rcases Nat.eq_zero_or_pos k with hk0 | hk0
    · have HS := Lib.hid (ins_sorted (k := k) HAS.out (by have := HLN.out; omega) HGT.out (fun j _ hj => by omega))
      have i1 : ¬ (0 : Int) < (k : Int) := by omega
      have i2 : decide ((0 : Int) < (k : Int)) = false := decide_eq_false i1
      have i3 : ¬ 0 < k := by omega
      have i4 : decide (0 < k) = false := decide_eq_false i3
      clear hk0
      go_wp2_with fail
      go_quiet (fail)
      go_wp2_with fail
      go_meet
      exact ⟨k, hk, rfl, HS, hK.drewN _⟩
    · obtain ⟨j, hj⟩ : ∃ j, k - 1 = j := ⟨_, rfl⟩
      obtain ⟨ad', hA, hlt, hkl, hx⟩ := (HR.out _ hK.below).at_ (show j < n by omega)
      injection hA with hA
      subst hA
      obtain ⟨y, hy⟩ : ∃ y, L[j] = y := ⟨_, rfl⟩
      rw [hy] at hx
      obtain ⟨YA, yc, -, ⟨c0, -⟩, -⟩ := hx
      obtain ⟨yn, hyn⟩ : ∃ v, y.num = v := ⟨_, rfl⟩
      obtain ⟨xn, hxn⟩ : ∃ v, x.num = v := ⟨_, rfl⟩
      have hwj : IntKind.i64.wrap ((k : Int) - 1) = (j : Int) := by rw [wrapI64 (by omega)]; omega
      have j0 : (0 : Int) ≤ (j : Int) := by omega
      have j1 : (j : Int) < (n : Int) := by omega
      have j2 : (0 : Int) < (k : Int) := by omega
      have j3 : decide ((0 : Int) < (k : Int)) = true := decide_eq_true j2
      by_cases hcmp : x.num < y.num
      · have HNX := Lib.hid (show ∀ i (h : i < L.length), j ≤ i → x.num < L[i].num from fun i h hi => by
          rcases Nat.lt_or_ge i k with h1 | h1
          · obtain rfl : i = j := by omega
            rw [hy]; exact hcmp
          · exact HGT.out i h h1)
        have hc2 : decide (x.num < y.num) = true := decide_eq_true hcmp
        have HJ := Lib.hid hj
        clear hj hyn hxn hy
        go_wp2_with fail
        go_quiet (fail)
        go_wp2_with fail
        go_roundw
        case rel => exact ⟨j, by omega, by go_num, HNX, hK.drewN _⟩
        case measure => have := HJ.out; simp [intOf] <;> omega
      · have HS := Lib.hid (ins_sorted (k := k) HAS.out (by have := HLN.out; omega) HGT.out (fun i _ hi => by
          obtain rfl : i = j := by omega
          rw [hy]; omega))
        have hc2 : decide (x.num < y.num) = false := decide_eq_false hcmp
        clear hj hyn hxn hy
        go_wp2_with fail
        go_quiet (fail)
        go_wp2_with fail
        go_meet
        exact ⟨k, hk, rfl, HS, hK.drewN _⟩
end Go.Proofs.Ytmmiahgmdllgdaa

namespace Go.Proofs.Ytmmiahgmdllgdaa
open Go.RowKit Go.Sort
/-! entries in the statements' own shape: sizes, copies, sameness -/
def costE (x : Etr) : Int := x.name.size + x.maker.size + x.words.length + totS x.words
def totE (L : List Etr) : Int := (L.map costE).sum
theorem totS_nn (l : List ByteArray) : 0 ≤ totS l := by
  unfold totS
  induction l with
  | nil => simp
  | cons x l ih => rw [List.map_cons, List.sum_cons]; omega
theorem costE_nn (x : Etr) : 0 ≤ costE x := by
  have := totS_nn x.words
  unfold costE; omega
theorem totE_nn (l : List Etr) : 0 ≤ totE l := by
  unfold totE
  induction l with
  | nil => simp
  | cons x l ih => rw [List.map_cons, List.sum_cons]; have := costE_nn x; omega
theorem totE_snoc (l : List Etr) (x : Etr) : totE (l ++ [x]) = totE l + costE x := by unfold totE; simp
theorem costE_mem {l : List Etr} {x : Etr} (h : x ∈ l) : costE x ≤ totE l := by
  obtain ⟨a, b, rfl⟩ := List.append_of_mem h
  have h1 := totE_nn a
  have h2 := totE_nn b
  unfold totE at *
  rw [List.map_append, List.map_cons, List.sum_append, List.sum_cons]
  omega
set_option maxRecDepth 100000 in
set_option maxHeartbeats 1600000 in
theorem szEntry_any (x : Etr) (A : Option Addr) (c : Nat) (left : Int) (w : World) (hr : RL StrM 1 w A x.words.length x.words) (hs : SmE x) (h1 : 0 ≤ left) (h2 : left ≤ 1048576) :
    Calls Try.prog 24 #[.agg #[.int .i64 x.num, .string x.name, .string x.maker, .int .i64 x.year, .slice A x.words.length c], .int .i64 left] w fun e w' => ∃ v : Int, e = .returned (.int .i64 v) ∧ -1 ≤ v ∧ (0 ≤ v → v + costE x = left) ∧ Below w.heap.size w w' := by
  have KS := Lib.hid (fun (l : Int) W (hW : Below w.heap.size w W) h1 h2 => szStringS_any A x.words.length c x.words l W (hr.below steady_StrM hW) hs.words h1 h2 hs.len)
  have HC := Lib.hid (show costE x = x.name.size + x.maker.size + x.words.length + totS x.words from rfl)
  have hn := hs.name
  have hm := hs.maker
  have HTN := Lib.hid (totS_nn x.words)
  clear hr hs
  have K0 := (Kn.nil w).al [.int .i64 x.num, .string x.name, .string x.maker, .int .i64 x.year, .slice A x.words.length c] 59
  obtain ⟨g, hg⟩ : ∃ g, w.heap.size = g := ⟨_, rfl⟩
  rw [hg] at K0
  go_enter Try.func24, Try.ntmps24
  go_upto_region 1 with fail
  try rw [hg]
  refine Code.wp.kn K0 ?_; clear K0 hg; intro w1 K1
  obtain ⟨a1, a2, a3⟩ := K1.blkAt
  by_cases hb1 : left - (x.name.size : Int) < 0
  · go_wp2_with fail
    go_ret
    refine ⟨-1, rfl, by omega, fun h => by omega, K1.below⟩
  by_cases hb2 : left - (x.name.size : Int) - (x.maker.size : Int) < 0
  · go_wp2_with fail
    go_ret
    refine ⟨-1, rfl, by omega, fun h => by omega, K1.below⟩
  go_wp2_with fail
  refine (KS.out _ _ K1.below (by omega) (by omega)).mono ?_; rintro e w2 ⟨rfl, hw⟩
  subst hw
  have hc := HC.out
  have htn := HTN.out
  obtain ⟨T, hT⟩ : ∃ T, totS x.words = T := ⟨_, rfl⟩
  obtain ⟨N, hN⟩ : ∃ N, x.words.length = N := ⟨_, rfl⟩
  rw [hT] at hc htn ⊢
  rw [hN] at hc ⊢
  by_cases hb3 : (N : Int) + T ≤ left - (x.name.size : Int) - (x.maker.size : Int)
  · rw [if_pos hb3]
    have hb4 : ¬ left - (x.name.size : Int) - (x.maker.size : Int) - N - T < 0 := by omega
    have HC3 := Lib.hid (show left - (x.name.size : Int) - (x.maker.size : Int) - N - T + costE x = left by omega)
    clear hc
    go_wp2_with fail
    go_ret
    exact ⟨_, rfl, by omega, fun _ => HC3.out, K1.below⟩
  · rw [if_neg hb3]
    clear hc hb3
    go_wp2_with fail
    go_ret
    exact ⟨-1, rfl, by omega, fun h => by omega, K1.below⟩
set_option maxRecDepth 100000 in
set_option maxHeartbeats 1600000 in
theorem szEntryS_any (A : Option Addr) (n c : Nat) (L : List Etr) (left : Int) (w : World) (hr : RL EtrM 5 w A n L) (hs : ∀ x ∈ L, SmE x) (h1 : 0 ≤ left) (h2 : left ≤ 1048576) (hn : n ≤ 9223372036854775807) :
    Calls Try.prog 23 #[.slice A n c, .int .i64 left] w fun e w' => ∃ v : Int, e = .returned (.int .i64 v) ∧ -1 ≤ v ∧ (0 ≤ v → v + n + totE L = left) ∧ Below w.heap.size w w' := by
  have HL := Lib.hid hr.1
  have HR := Lib.hid (fun W (hW : Below w.heap.size w W) => hr.below steady_EtrM hW)
  have HZ := Lib.hid hs
  clear hr hs
  by_cases h : left - (n : Int) < 0
  · go_enter Try.func23, Try.ntmps23
    go_wp2_with fail
    go_ret
    exact ⟨-1, rfl, by omega, fun h => by omega, Below.refl _ _⟩
  go_enter Try.func23, Try.ntmps23
  go_wp2_with fail
  go_loopw [5, 1] (fun i lf wr => ∃ (k : Nat) (v : Int), k ≤ n ∧ i = .int .i64 k ∧ lf = .int .i64 v ∧ 0 ≤ v ∧ v ≤ left ∧ Hid (v + n + totE (L.take k) = left) ∧ Below w.heap.size w wr) (fun i _ _ => n - (intOf i).toNat)
  case atStart => exact ⟨0, _, Nat.zero_le _, rfl, rfl, by omega, by omega, Lib.hid (by simp [totE]), Below.refl _ _⟩
  case round =>
    obtain ⟨k, v, hk, rfl, rfl, hv0, hv1, HV, hb⟩ := hrel
    by_cases hkn : k < n
    · obtain ⟨ad, hA, hlt, hkl, hx⟩ := (HR.out _ hb).at_ hkn
      have hzx := HZ.out _ (List.getElem_mem hkl)
      have htk := List.take_succ_eq_append_getElem hkl
      obtain ⟨x, hxe⟩ : ∃ x, L[k] = x := ⟨_, rfl⟩
      rw [hxe] at hx hzx htk
      obtain ⟨XA, xc, -, ⟨c0, c1, c2, c3, c4⟩, hxr⟩ := hx
      have KE := Lib.hid (szEntry_any x XA xc v wr hxr hzx hv0 (by omega))
      have HTK := Lib.hid (show totE (L.take (k + 1)) = totE (L.take k) + costE x by rw [htk, totE_snoc])
      have i0 : (0 : Int) ≤ (k : Int) := by omega
      have i1 : (k : Int) < (n : Int) := by omega
      subst hA
      clear hxe htk hxr hzx
      go_wp2_with fail
      refine KE.out.mono ?_; rintro e w2 ⟨v2, rfl, hv2, hv3, hw⟩
      have hb2 := hb.trans (hw.mono hb.size)
      clear c0 c1 c2 c3 c4 hw hb
      by_cases hneg : v2 < 0
      · clear hv3
        go_wp2_with fail
        go_ret
        exact ⟨-1, rfl, by omega, fun h => by omega, hb2⟩
      · have HV2 := Lib.hid (show v2 + n + totE (L.take (k + 1)) = left by have h1 := HV.out; have h2 := HTK.out; have h3 := hv3 (by omega); omega)
        have hv4 : v2 ≤ left := by have h1 := costE_nn x; have h3 := hv3 (by omega); omega
        clear hv3 HV
        go_wp2_with fail
        go_roundw
        case rel => exact ⟨k + 1, v2, by omega, by go_num, rfl, by omega, hv4, Lib.hid HV2.out, hb2⟩
        case measure => simp [intOf] <;> omega
    · have i1 : ¬ (k : Int) < (n : Int) := by omega
      have HQ := Lib.hid (show v + n + totE L = left by have h := HV.out; rw [List.take_of_length_le (by have := HL.out; omega)] at h; exact h)
      go_wp2_with fail
      go_ret
      exact ⟨v, rfl, by omega, fun _ => HQ.out, hb⟩
set_option maxRecDepth 100000 in
set_option maxHeartbeats 1600000 in
theorem toEntry_kn (x : Etr) (A : Option Addr) (c : Nat) (w : World) (hr : RL StrM 1 w A x.words.length x.words) (hm : x.words.length ≤ 1048576) :
    Calls Try.prog 27 #[.agg #[.int .i64 x.num, .string x.name, .string x.maker, .int .i64 x.year, .slice A x.words.length c]] w fun e w' => ∃ X c', e = .returned (.agg #[.int .i64 x.num, .string x.name, .string x.maker, .int .i64 x.year, .slice X x.words.length c']) ∧ Kn w [rowSN X x.words.length c' x.words] w' := by
  have KS := Lib.hid (fun W (hW : Below w.heap.size w W) => toStringS_kn A x.words.length c x.words W (hr.below steady_StrM hW) hm)
  clear hr
  have K0 := (((Kn.nil w).al [.int .i64 x.num, .string x.name, .string x.maker, .int .i64 x.year, .slice A x.words.length c] 59).al [.int .i64 0, .string ⟨#[]⟩, .string ⟨#[]⟩, .int .i64 0, .slice none 0 0] 66).al [.int .i64 0, .string ⟨#[]⟩, .string ⟨#[]⟩, .int .i64 0, .slice none 0 0] 66
  simp only [World.size_alloc] at K0
  obtain ⟨g, hg⟩ : ∃ g, w.heap.size = g := ⟨_, rfl⟩
  rw [hg] at K0
  go_enter Try.func27, Try.ntmps27
  go_upto_region 2 with fail
  try simp only [hg]
  refine Code.wp.kn K0 ?_; clear K0 hg; intro w1 K1
  obtain ⟨a1, a2, a3, d1, d2, d3, e1, e2, e3, -⟩ := K1.cells
  go_upto_region 6 with fail
  refine Code.wp.kn ((((K1.st 0 (.int .i64 x.num)).st 1 (.string x.name)).st 2 (.string x.maker)).st 3 (.int .i64 x.year)) ?_; clear K1 a1 a2 a3 d1 d2 d3 e1 e2 e3; intro w2 K2
  obtain ⟨a1, a2, a3, d1, d2, d3, e1, e2, e3, -⟩ := K2.cells
  go_wp2_with fail
  refine (KS.out _ K2.below).mono ?_; rintro e w3 ⟨X, c', rfl, hKn⟩
  have K3 := K2.join hKn
  clear K2 hKn a1 a2 a3 d1 d2 d3 e1 e2 e3
  obtain ⟨a1, a2, a3, d1, d2, d3, e1, e2, e3, -⟩ := K3.cells
  go_upto_region 7 with fail
  refine Code.wp.kn ((K3.front 1 rfl).st 4 (.slice X x.words.length c')) ?_; clear K3 a1 a2 a3 d1 d2 d3 e1 e2 e3; intro w4 K4
  obtain ⟨a1, a2, a3, d1, d2, d3, e1, e2, e3, -⟩ := K4.cells
  go_wp2_with fail
  refine bodyPost.kn ((((((K4.front 2 rfl).st 0 (.int .i64 x.num)).st 1 (.string x.name)).st 2 (.string x.maker)).st 3 (.int .i64 x.year)).st 4 (.slice X x.words.length c')) ?_; intro w5 K5
  clear K4 a1 a2 a3 d1 d2 d3 e1 e2 e3
  obtain ⟨a1, a2, a3, -⟩ := K5.cells
  exact bodyPost_ret (v := .agg #[.int .i64 x.num, .string x.name, .string x.maker, .int .i64 x.year, .slice X x.words.length c']) (by simp [results, Try.results27, go_sem, a1]) rfl ⟨X, c', rfl, K5.sel [2] 99 (by decide) (by decide)⟩
set_option maxRecDepth 100000 in
set_option maxHeartbeats 1600000 in
theorem eqEntry_same (x : Etr) (A X : Option Addr) (c c' : Nat) (w : World) (hr : RL StrM 1 w A x.words.length x.words) (hs : RL StrM 1 w X x.words.length x.words) (hm : x.words.length ≤ 1048576) :
    Calls Try.prog 30 #[.agg #[.int .i64 x.num, .string x.name, .string x.maker, .int .i64 x.year, .slice A x.words.length c], .agg #[.int .i64 x.num, .string x.name, .string x.maker, .int .i64 x.year, .slice X x.words.length c']] w fun e w' => e = .returned (.bool true) ∧ Below w.heap.size w w' := by
  have KS := Lib.hid (fun W (hW : Below w.heap.size w W) => eqS_same A X x.words.length c c' x.words W (hr.below steady_StrM hW) (hs.below steady_StrM hW) hm)
  clear hr hs
  have K0 := ((Kn.nil w).al [.int .i64 x.num, .string x.name, .string x.maker, .int .i64 x.year, .slice A x.words.length c] 66).al [.int .i64 x.num, .string x.name, .string x.maker, .int .i64 x.year, .slice X x.words.length c'] 66
  simp only [World.size_alloc] at K0
  obtain ⟨g, hg⟩ : ∃ g, w.heap.size = g := ⟨_, rfl⟩
  rw [hg] at K0
  have h1 : (x.name.toList == x.name.toList) = true := by simp
  have h2 : (x.maker.toList == x.maker.toList) = true := by simp
  go_enter Try.func30, Try.ntmps30
  go_upto_region 1 with fail
  try simp only [hg]
  refine Code.wp.kn K0 ?_; clear K0 hg; intro w1 K1
  obtain ⟨a1, a2, a3, d1, d2, d3, -⟩ := K1.cells
  go_wp2_with fail
  refine (KS.out _ K1.below).mono ?_; rintro e w2 ⟨rfl, hw⟩
  have K2 := K1.keep hw
  clear K1 hw a1 a2 a3 d1 d2 d3
  go_wp2_with fail
  go_ret
  exact ⟨rfl, K2.below⟩
end Go.Proofs.Ytmmiahgmdllgdaa
