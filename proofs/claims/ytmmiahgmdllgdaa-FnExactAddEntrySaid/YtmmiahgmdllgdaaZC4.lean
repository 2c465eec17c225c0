/- Part 4: lemmas and contracts of the claim's functions. -/
import Derived.Test.YtmmiahgmdllgdaaZC1
import Derived.Test.YtmmiahgmdllgdaaZC2
import Derived.Test.YtmmiahgmdllgdaaZC3
import Derived.Deep.RegionHeld3
import Derived.Deep.Slices
import Derived.SliceStrings
import Derived.ChangeMaps5
namespace Go.Proofs.Ytmmiahgmdllgdaa
open Go.RowKit Go.Sort
theorem info_entry : (Try.prog.info? 66).map (fun i => (i.zero, i.size, i.bytes)) = some (some (.agg #[.int .i64 0, .string ⟨#[]⟩, .string ⟨#[]⟩, .int .i64 0, .slice none 0 0]), 5, 72) := by kernel_rfl
theorem set0 {P R : List Value} {n : Nat} (h : P.length = n) (v : Value) : (P ++ R).set n v = P ++ R.set 0 v := by
  rw [List.set_append_right _ _ (by omega), show n - P.length = 0 by omega]
theorem setJ {P R : List Value} {n : Nat} (h : P.length = n) (j : Nat) (v : Value) : (P ++ R).set (n + j) v = P ++ R.set j v := by
  rw [List.set_append_right _ _ (by omega), show n + j - P.length = j by omega]
theorem get0 {P R : List Value} {n : Nat} (h : P.length = n) : (P ++ R)[n]? = R[0]? := by
  rw [List.getElem?_append_right (by omega), show n - P.length = 0 by omega]
theorem getJ {P R : List Value} {n : Nat} (h : P.length = n) (j : Nat) : (P ++ R)[n + j]? = R[j]? := by
  rw [List.getElem?_append_right (by omega), show n + j - P.length = j by omega]
theorem list5 {Q : List Value} (h : 5 ≤ Q.length) : ∃ a b c d e R, Q = a :: b :: c :: d :: e :: R := by
  match Q, h with
  | a :: b :: c :: d :: e :: R, _ => exact ⟨a, b, c, d, e, R, rfl⟩
theorem Kn.rlEN {w0 w : World} {m : List Ent} {A : Option Addr} {n c : Nat} {M : List EE} (h : Kn w0 (.row (.slice A n c) 66 5 n (cellsE M) :: bunA (rowsE M) :: m) w) (hl : M.length = n) : RL EtrM 5 w A n (M.map EE.t) := by
  subst hl
  obtain ⟨A', c', e, hr⟩ := Kn.rlE h
  injection e with e1 e2 e3
  subst e1
  exact hr
theorem cells5_below {w w' : World} {p : Addr} {v0 v1 v2 v3 v4 : Value} (h : Below w.heap.size w w') (hp : p.block < w.heap.size) (hc : w.cell? p = some v0 ∧ w.cell? ⟨p.block, p.off + 1, none⟩ = some v1 ∧ w.cell? ⟨p.block, p.off + 2, none⟩ = some v2 ∧ w.cell? ⟨p.block, p.off + 3, none⟩ = some v3 ∧ w.cell? ⟨p.block, p.off + 4, none⟩ = some v4) :
    w'.cell? p = some v0 ∧ w'.cell? ⟨p.block, p.off + 1, none⟩ = some v1 ∧ w'.cell? ⟨p.block, p.off + 2, none⟩ = some v2 ∧ w'.cell? ⟨p.block, p.off + 3, none⟩ = some v3 ∧ w'.cell? ⟨p.block, p.off + 4, none⟩ = some v4 := by
  obtain ⟨h0, h1, h2, h3, h4⟩ := hc
  exact ⟨(h.cell hp).trans h0, (h.cell (p := ⟨p.block, p.off + 1, none⟩) hp).trans h1, (h.cell (p := ⟨p.block, p.off + 2, none⟩) hp).trans h2, (h.cell (p := ⟨p.block, p.off + 3, none⟩) hp).trans h3, (h.cell (p := ⟨p.block, p.off + 4, none⟩) hp).trans h4⟩
set_option maxRecDepth 100000 in
set_option maxHeartbeats 3200000 in
theorem toEntryS_kn (A : Option Addr) (n c : Nat) (L : List Etr) (w : World) (hr : RL EtrM 5 w A n L) (hm : n ≤ 1048576) (hw : ∀ x ∈ L, x.words.length ≤ 1048576) :
    Calls Try.prog 26 #[.slice A n c] w fun e w' => ∃ g, ∃ M : List EE, e = .returned (.slice (some ⟨g, 0, none⟩) n n) ∧ M.length = n ∧ M.map EE.t = L ∧ Kn w [.row (.slice (some ⟨g, 0, none⟩) n n) 66 5 n (cellsE M), bunA (rowsE M)] w' := by
  have HL := Lib.hid hr.1
  have HR := Lib.hid (fun W (hW : Below w.heap.size w W) => hr.below steady_EtrM hW)
  have HW := Lib.hid hw
  obtain ⟨i0, hi, hz0, hz1, hz2⟩ := info_parts info_entry
  clear hr hw
  go_enter Try.func26, Try.ntmps26
  go_wp2_with (at_make; refine wpList_make_full _ rfl _ _ 62 rfl w.heap.size 66 i0 _ 5 Try.underlying62 hi hz0 hz1 _ _ _ _ n rfl rfl rfl rfl (by rw [hz2]; omega) (by unfold maxLen; omega) (Nat.le_refl _) ?_; intro w1 hown1 hg1)
  have hb1 : Below w.heap.size w w1 := (Below.refl _ _).grown hg1 (Nat.le_refl _) (by simp)
  obtain ⟨cs0, hcs0⟩ : ∃ cs, cs = (List.replicate n [.int .i64 0, .string ⟨#[]⟩, .string ⟨#[]⟩, .int .i64 0, .slice none 0 0] : List (List Value)).flatten := ⟨_, rfl⟩
  have hK1 : Kn w [.row (.slice (some ⟨w.heap.size, 0, none⟩) n n) 66 5 n _] w1 := (Kn.nil w).add (e := .row (.slice (some ⟨w.heap.size, 0, none⟩) n n) 66 5 n _) hb1 (by
    refine ⟨hown1.1, ?_⟩
    rcases hown1.2 with hn | ⟨g, cap, cur, e, hbg, rest⟩
    · exact .inl hn
    · exact .inr ⟨g, cap, cur, e, Nat.zero_le _, rest⟩) (fun k hk => by
    have hk' : (Value.slice (some ⟨w.heap.size, 0, none⟩) n n).ownBlock = some k := hk
    simp only [Value.ownBlock, Option.some.injEq] at hk'
    omega)
  have hK1 := (hK1.bunANil).sel [1, 0] 2 (by decide) (by decide)
  clear hg1 hown1 hb1 hi hz0 hz1 hz2 hcs0
  obtain ⟨g, hg⟩ : ∃ g, w.heap.size = g := ⟨_, rfl⟩
  rw [hg] at hK1
  try rw [hg]
  clear hg
  go_loopw [4] (fun i wr => ∃ (k : Nat) (M : List EE) (R : List Value), k ≤ n ∧ i = .int .i64 k ∧ M.length = k ∧ Hid (M.map EE.t = L.take k) ∧ Kn w [.row (.slice (some ⟨g, 0, none⟩) n n) 66 5 n (cellsE M ++ R), bunA (rowsE M)] wr) (fun i _ => n - (intOf i).toNat)
  case atStart => exact ⟨0, [], _, Nat.zero_le _, rfl, rfl, Lib.hid rfl, hK1⟩
  case round =>
    clear hK1
    obtain ⟨k, M, R, hk, rfl, hM, HMT, hK⟩ := hrel
    have hcl : (cellsE M ++ R).length = n * 5 := (show wr.ownsRow 0 66 5 _ n _ from hK.at0).1
    have hP : (cellsE M).length = k * 5 := by rw [cellsE_len, hM]
    rw [List.length_append, hP] at hcl
    by_cases hkn : k < n
    · obtain ⟨ad, hA, hlt, hkl, hx⟩ := (HR.out _ hK.below).at_ hkn
      have hzx := HW.out _ (List.getElem_mem hkl)
      have htk := List.take_succ_eq_append_getElem hkl
      obtain ⟨x, hxe⟩ : ∃ x, L[k] = x := ⟨_, rfl⟩
      rw [hxe] at hx hzx htk
      have HTK := Lib.hid htk
      obtain ⟨XA, xc, -, ⟨c0, c1, c2, c3, c4⟩, hxr⟩ := hx
      have KE := Lib.hid (toEntry_kn x XA xc wr hxr hzx)
      obtain ⟨q0, q1, q2, q3, q4, R', rfl⟩ := list5 (Q := R) (by omega)
      have i0 : (0 : Int) ≤ (k : Int) := by omega
      have i1 : (k : Int) < (n : Int) := by omega
      have HPP := Lib.hid hP
      subst hA
      clear hxe htk hxr hzx hcl hP
      go_wp2_with (go_at_call 27; refine KE.out.mono ?_; rintro e w2 ⟨X, c', rfl, hKn⟩; have hK2 := (hK.join hKn).sel [1, 2, 0] 3 (by decide) (by decide); clear hK hKn c0 c1 c2 c3 c4; obtain ⟨y0, z0⟩ := Kn.rowCell hK2 (j := k * 5) (u := q0) (by rw [get0 HPP.out]; rfl); obtain ⟨y1, z1⟩ := Kn.rowCell hK2 (j := k * 5 + 1) (u := q1) (by rw [getJ HPP.out]; rfl); obtain ⟨y2, z2⟩ := Kn.rowCell hK2 (j := k * 5 + 2) (u := q2) (by rw [getJ HPP.out]; rfl); obtain ⟨y3, z3⟩ := Kn.rowCell hK2 (j := k * 5 + 3) (u := q3) (by rw [getJ HPP.out]; rfl); obtain ⟨y4, z4⟩ := Kn.rowCell hK2 (j := k * 5 + 4) (u := q4) (by rw [getJ HPP.out]; rfl))
      go_roundw
      case rel =>
        refine ⟨k + 1, M ++ [⟨x, X, c'⟩], R', by omega, by go_num, by rw [List.length_append, hM]; rfl, Lib.hid (by rw [HTK.out, List.map_append, HMT.out]; rfl), ?_⟩
        have h5 := ((((hK2.rowSt (k * 5) (.int .i64 x.num)).rowSt (k * 5 + 1) (.string x.name)).rowSt (k * 5 + 2) (.string x.maker)).rowSt (k * 5 + 3) (.int .i64 x.year)).rowSt (k * 5 + 4) (.slice X x.words.length c')
        rw [set0 HPP.out, setJ HPP.out, setJ HPP.out, setJ HPP.out, setJ HPP.out] at h5
        have h6 := ((h5.sel [2, 1, 0] 3 (by decide) (by decide)).bunAAdd (e := EE.row ⟨x, X, c'⟩) (es := rowsE M)).sel [1, 0] 2 (by decide) (by decide)
        rw [cellsE_app, rowsE_app, List.append_assoc]
        exact h6
      case measure => simp [intOf]; omega
    · obtain rfl : R = [] := List.eq_nil_of_length_eq_zero (by omega)
      have hi1 : ¬ (k : Int) < (n : Int) := by omega
      have HQ := Lib.hid (show M.map EE.t = L by rw [HMT.out, List.take_of_length_le (by have := HL.out; omega)])
      have hmn : M.length = n := by omega
      rw [List.append_nil] at hK
      clear hcl hP
      go_wp2_with fail
      go_ret
      exact ⟨g, rfl, M, hmn, HQ.out, hK⟩
set_option maxRecDepth 100000 in
set_option maxHeartbeats 3200000 in
theorem eqEntryS_same (A B : Option Addr) (n c d : Nat) (L : List Etr) (w : World) (hr : RL EtrM 5 w A n L) (hs : RL EtrM 5 w B n L) (hm : n ≤ 1048576) (hw : ∀ x ∈ L, x.words.length ≤ 1048576) :
    Calls Try.prog 29 #[.slice A n c, .slice B n d] w fun e w' => e = .returned (.bool true) ∧ Below w.heap.size w w' := by
  have HR := Lib.hid (fun W (hW : Below w.heap.size w W) => hr.below steady_EtrM hW)
  have HS := Lib.hid (fun W (hW : Below w.heap.size w W) => hs.below steady_EtrM hW)
  have HW := Lib.hid hw
  clear hr hs hw
  go_enter Try.func29, Try.ntmps29
  go_wp2_with fail
  go_loopw [5] (fun i wr => ∃ (k : Nat), k ≤ n ∧ i = .int .i64 k ∧ Kn w [] wr) (fun i _ => n - (intOf i).toNat)
  case atStart => exact ⟨0, Nat.zero_le _, rfl, Kn.nil w⟩
  case round =>
    obtain ⟨k, hk, rfl, hK⟩ := hrel
    by_cases hkn : k < n
    · obtain ⟨ad, hA, hlt, hkl, hx⟩ := (HR.out _ hK.drew.below).at_ hkn
      obtain ⟨bd, hB, hlt2, hkl2, hy⟩ := (HS.out _ hK.drew.below).at_ hkn
      have hzx := HW.out _ (List.getElem_mem hkl)
      obtain ⟨x, hxe⟩ : ∃ x, L[k] = x := ⟨_, rfl⟩
      rw [hxe] at hx hy hzx
      obtain ⟨XA, xc, -, hc, hxr⟩ := hx
      obtain ⟨YA, yc, -, hd, hyr⟩ := hy
      have HG := Lib.hid (And.intro hc hd)
      have HP := Lib.hid (fun W (hW : Below wr.drew.heap.size wr.drew W) => And.intro (cells5_below hW (by rw [block_of_add]; exact hlt) hc) (cells5_below hW (by rw [block_of_add]; exact hlt2) hd))
      have KT := Lib.hid (fun W (hW : Below wr.drew.heap.size wr.drew W) => eqEntry_same x XA YA xc yc W (hxr.below steady_StrM hW) (hyr.below steady_StrM hW) hzx)
      have hi0 : (0 : Int) ≤ (k : Int) := by omega
      have hi1 : (k : Int) < (n : Int) := by omega
      subst hA
      subst hB
      clear hxe hc hd hlt hlt2 hxr hyr hzx
      go_wp2_with fail
      go_region_held3 (fun W => (W.cell? (ad.add (k * 5)) = some (.int .i64 x.num) ∧ W.cell? ⟨(ad.add (k * 5)).block, (ad.add (k * 5)).off + 1, none⟩ = some (.string x.name) ∧ W.cell? ⟨(ad.add (k * 5)).block, (ad.add (k * 5)).off + 2, none⟩ = some (.string x.maker) ∧ W.cell? ⟨(ad.add (k * 5)).block, (ad.add (k * 5)).off + 3, none⟩ = some (.int .i64 x.year) ∧ W.cell? ⟨(ad.add (k * 5)).block, (ad.add (k * 5)).off + 4, none⟩ = some (.slice XA x.words.length xc)) ∧ W.cell? (bd.add (k * 5)) = some (.int .i64 x.num) ∧ W.cell? ⟨(bd.add (k * 5)).block, (bd.add (k * 5)).off + 1, none⟩ = some (.string x.name) ∧ W.cell? ⟨(bd.add (k * 5)).block, (bd.add (k * 5)).off + 2, none⟩ = some (.string x.maker) ∧ W.cell? ⟨(bd.add (k * 5)).block, (bd.add (k * 5)).off + 3, none⟩ = some (.int .i64 x.year) ∧ W.cell? ⟨(bd.add (k * 5)).block, (bd.add (k * 5)).off + 4, none⟩ = some (.slice YA x.words.length yc)) (first | exact HG.out) (first
        | (go_at_call 30; (refine (KT.out _ (Below.refl _ _)).mono ?_); rintro e w3 ⟨rfl, hw⟩; have hK2 := hK.drew.keep hw; clear HG; have hq := HP.out _ hw; have HG := Lib.hid hq))
      all_goals
        go_wp2_with fail
        go_roundw
        case rel => exact ⟨k + 1, by omega, by go_num, hK2⟩
        case measure => simp [intOf]; omega
    · have hi1 : ¬ (k : Int) < (n : Int) := by omega
      go_wp2_with fail
      go_ret
      exact ⟨rfl, hK.below⟩
set_option maxRecDepth 100000 in
set_option maxHeartbeats 1600000 in
theorem markEntry_kn (w0 : World) (m : List Ent) (x : Etr) (A : Option Addr) (c : Nat) (k : Int) (w : World) (hK : Kn w0 (rowSN A x.words.length c x.words :: m) w) (h0 : 1 ≤ k) (hk : k + x.words.length ≤ 40000000) :
    Calls Try.prog 32 #[.agg #[.int .i64 x.num, .string x.name, .string x.maker, .int .i64 x.year, .slice A x.words.length c], .int .i64 k] w fun e w' => e = .returned (.int .i64 (k + x.words.length)) ∧ Kn w0 (rowSN A x.words.length c (marksS k x.words.length) :: m) w' := by
  have hKa := (hK.al [.int .i64 x.num, .string x.name, .string x.maker, .int .i64 x.year, .slice A x.words.length c] 59)
  obtain ⟨g, hg⟩ : ∃ g, w.heap.size = g := ⟨_, rfl⟩
  have hKa := (hK.al [.int .i64 x.num, .string x.name, .string x.maker, .int .i64 x.year, .slice A x.words.length c] 66).sel [0, 1] 2 (by decide) (by decide)
  rw [hg] at hKa
  clear hK
  go_enter Try.func32, Try.ntmps32
  go_upto_region 1 with fail
  try rw [hg]
  refine Code.wp.kn hKa ?_; clear hKa hg; intro w1 K1
  obtain ⟨a1, a2, a3⟩ := K1.blkAt
  have KM := Lib.hid (markS_kn w0 (.blk g [.int .i64 x.num, .string x.name, .string x.maker, .int .i64 x.year, .slice A x.words.length c] 66 :: m) A x.words.length c x.words k w1 (K1.sel [1, 0] 2 (by decide) (by decide)) h0 hk)
  go_wp2_with fail
  refine KM.out.mono ?_; rintro e w2 ⟨rfl, K2⟩
  go_wp2_with fail
  go_ret
  exact ⟨rfl, K2.sel [0] 2 (by decide) (by decide)⟩
end Go.Proofs.Ytmmiahgmdllgdaa

namespace Go.Proofs.Ytmmiahgmdllgdaa
open Go.RowKit Go.Sort
/-! marks of entries -/
def mkR (k : Int) (x : Etr) : Etr := ⟨k, mkT (k + 1), mkT (k + 1 + 1), k + 1 + 1 + 1, marksS (k + 1 + 1 + 1 + 1) x.words.length⟩
def stepE (k : Int) (x : Etr) : Int := k + 1 + 1 + 1 + 1 + x.words.length
def endL : Int → List Etr → Int | k, [] => k | k, x :: l => endL (stepE k x) l
def markL : Int → List Etr → List Etr | _, [] => [] | k, x :: l => mkR k x :: markL (stepE k x) l
def markM : Int → List EE → List EE | _, [] => [] | k, e :: l => ⟨mkR k e.t, e.X, e.x⟩ :: markM (stepE k e.t) l
def wsum (L : List Etr) : Int := (L.map (fun x => (x.words.length : Int))).sum
theorem wsum_cons (x : Etr) (l : List Etr) : wsum (x :: l) = x.words.length + wsum l := by unfold wsum; simp
theorem wsum_app (l m : List Etr) : wsum (l ++ m) = wsum l + wsum m := by unfold wsum; simp
theorem wsum_nn : ∀ l : List Etr, 0 ≤ wsum l
  | [] => by simp [wsum]
  | x :: l => by rw [wsum_cons]; have := wsum_nn l; omega
theorem endL_eq : ∀ (k : Int) (l : List Etr), endL k l = k + 4 * l.length + wsum l
  | k, [] => by simp [endL, wsum]
  | k, x :: l => by
    rw [endL, endL_eq, wsum_cons, List.length_cons]
    unfold stepE
    omega
theorem endL_snoc : ∀ (k : Int) (l : List Etr) (x : Etr), endL k (l ++ [x]) = stepE (endL k l) x
  | k, [], x => rfl
  | k, y :: l, x => by rw [List.cons_append, endL, endL, endL_snoc]
theorem markL_len : ∀ (k : Int) (l : List Etr), (markL k l).length = l.length
  | k, [] => rfl
  | k, x :: l => by rw [markL, List.length_cons, List.length_cons, markL_len]
theorem markL_get : ∀ (k : Int) (l : List Etr) (i : Nat) (h : i < (markL k l).length) (h' : i < l.length), (markL k l)[i] = mkR (endL k (l.take i)) l[i]
  | k, x :: l, 0, h, h' => rfl
  | k, x :: l, i + 1, h, h' => by
    have := markL_get (stepE k x) l i (by rw [markL_len]; simpa using h') (by simpa using h')
    simp only [markL, List.getElem_cons_succ, List.take_succ_cons, endL]
    exact this
theorem markM_t : ∀ (k : Int) (M : List EE), (markM k M).map EE.t = markL k (M.map EE.t)
  | k, [] => rfl
  | k, e :: l => by simp [markM, markL, markM_t]
theorem markM_len : ∀ (k : Int) (l : List EE), (markM k l).length = l.length
  | k, [] => rfl
  | k, x :: l => by rw [markM, List.length_cons, List.length_cons, markM_len]
theorem markM_snoc : ∀ (k : Int) (l : List EE) (e : EE), markM k (l ++ [e]) = markM k l ++ [⟨mkR (endL k (l.map EE.t)) e.t, e.X, e.x⟩]
  | k, [], e => rfl
  | k, y :: l, e => by rw [List.cons_append, markM, markM, markM_snoc]; rfl
theorem markText_ii (u : Int) (w : World) (h0 : 0 < u) (h1 : u ≤ 100000000) :
    Calls Try.prog 89 #[.int .i64 u] w fun e w' => e = .returned (.string (mkT u)) ∧ Below w.heap.size w w' := by
  obtain ⟨n, rfl⟩ : ∃ n : Nat, u = (n : Int) := ⟨u.toNat, by omega⟩
  exact markText_any n w (by omega) (by omega)
set_option maxRecDepth 100000 in
set_option maxHeartbeats 6400000 in
theorem markEntryS_kn (w0 : World) (m : List Ent) (X : Option Addr) (n c : Nat) (M : List EE) (k : Int) (w : World) (hK : Kn w0 (.row (.slice X n c) 66 5 n (cellsE M) :: bunA (rowsE M) :: m) w) (hl : M.length = n) (h0 : 1 ≤ k) (hk : k + 4 * n + wsum (M.map EE.t) ≤ 40000000) :
    Calls Try.prog 31 #[.slice X n c, .int .i64 k] w fun e w' => e = .returned (.int .i64 (endL k (M.map EE.t))) ∧ Kn w0 (.row (.slice X n c) 66 5 n (cellsE (markM k M)) :: bunA (rowsE (markM k M)) :: m) w' := by
  rcases Nat.eq_zero_or_pos n with hn | hn
  · subst hn
    obtain rfl : M = [] := List.eq_nil_of_length_eq_zero hl
    go_enter Try.func31, Try.ntmps31
    go_wp2_with fail
    go_loopw [1, 5] (fun kk i wr => i = .int .i64 0 ∧ kk = .int .i64 k ∧ w = wr) (fun _ i _ => 0)
    case atStart => exact ⟨rfl, rfl, rfl⟩
    case round =>
      obtain ⟨rfl, rfl, rfl⟩ := hrel
      go_wp2_with fail
      go_ret
      exact ⟨ret_int rfl, hK⟩
  obtain ⟨g, c', hv⟩ := Kn.rowForm hK hn
  injection hv with hv1 hv2 hv3
  subst hv1
  clear hv2 hv3
  have hnb : n ≤ 10000000 := by have := wsum_nn (M.map EE.t); omega
  go_enter Try.func31, Try.ntmps31
  go_wp2_with fail
  go_loopw [1, 5] (fun kk ii wr => ∃ (i : Nat) (q : Int) (P R : List EE), i ≤ n ∧ ii = .int .i64 (i : Int) ∧ kk = .int .i64 q ∧ Hid (M = P ++ R) ∧ P.length = i ∧ Hid (q = endL k (P.map EE.t)) ∧ Kn w0 (.row (.slice (some ⟨g, 0, none⟩) n c) 66 5 n (cellsE (markM k P) ++ cellsE R) :: bunA (rowsE R ++ rowsE (markM k P)) :: m) wr) (fun _ ii _ => n - (intOf ii).toNat)
  case atStart => exact ⟨0, k, [], M, Nat.zero_le _, rfl, rfl, Lib.hid rfl, rfl, Lib.hid rfl, by simpa [markM, rowsE, cellsE] using hK⟩
  case round =>
    clear hK
    obtain ⟨i, q, P, R, hi, rfl, rfl, HM, hP, HQ, hK⟩ := hrel
    have hRl : P.length + R.length = n := by have := congrArg List.length HM.out; rw [List.length_append] at this; omega
    by_cases hin : i < n
    · obtain ⟨e, R', rfl⟩ : ∃ e R', R = e :: R' := by
        cases R with
        | nil => simp at hRl; omega
        | cons e R' => exact ⟨e, R', rfl⟩
      obtain ⟨⟨nm, na, mk, yr, ws⟩, EX, ex⟩ := e
      obtain ⟨wl, hwl⟩ : ∃ v, ws.length = v := ⟨_, rfl⟩
      have hqb : 1 ≤ q ∧ q + 4 + (wl : Int) ≤ 40000000 := by
        have h1 := HQ.out
        rw [endL_eq, List.length_map] at h1
        have h2 : wsum (M.map EE.t) = wsum (P.map EE.t) + (wl + wsum (R'.map EE.t)) := by
          rw [HM.out, List.map_append, wsum_app, List.map_cons, wsum_cons, hwl]
        have h3 := wsum_nn (P.map EE.t)
        have h4 := wsum_nn (R'.map EE.t)
        omega
      obtain ⟨qb1, qb2⟩ := hqb
      have hcP : (cellsE (markM k P)).length = i * 5 := by rw [cellsE_len, markM_len, hP]
      have HPP := Lib.hid hcP
      have hK : Kn w0 (.row (.slice (some ⟨g, 0, none⟩) n c) 66 5 n (cellsE (markM k P) ++ (.int .i64 nm :: .string na :: .string mk :: .int .i64 yr :: .slice EX ws.length ex :: cellsE R')) :: rowSN EX ws.length ex ws :: bunA (rowsE R' ++ rowsE (markM k P)) :: m) wr := (Kn.bunAOut (e := EE.row ⟨⟨nm, na, mk, yr, ws⟩, EX, ex⟩) (hK.sel [1, 0] 2 (by decide) (by decide))).sel [2, 0, 1] 3 (by decide) (by decide)
      rw [hwl] at hK
      have HWL := Lib.hid hwl
      have i0 : (0 : Int) ≤ (i : Int) := by omega
      have i1 : (i : Int) < (n : Int) := by omega
      clear hcP hwl hRl
      obtain ⟨y0, z0⟩ := Kn.rowCell hK (j := i * 5) (u := .int .i64 nm) (by rw [get0 HPP.out]; rfl)
      have hK1 := hK.rowSt (i * 5) (.int .i64 q)
      rw [set0 HPP.out] at hK1
      simp only [List.set_cons_zero, List.set_cons_succ] at hK1
      go_upto_region 6 with fail
      refine Code.wp.kn hK1 ?_; clear hK hK1 y0 z0; intro w1 hK1
      have KM := Lib.hid (fun W => markText_ii (q + 1) W (by omega) (by omega))
      go_upto_region 7 with (go_at_call 89; refine (KM.out _).mono ?_; rintro e w2 ⟨rfl, hw⟩; have hK2 := hK1.keep hw; obtain ⟨y0, z0⟩ := Kn.rowCell hK2 (j := i * 5 + 1) (u := .string na) (by rw [getJ HPP.out]; rfl))
      have hK3 := hK2.rowSt (i * 5 + 1) (.string (mkT (q + 1)))
      rw [setJ HPP.out] at hK3
      simp only [List.set_cons_zero, List.set_cons_succ] at hK3
      refine Code.wp.kn hK3 ?_; clear hK1 hK2 hK3 hw y0 z0 KM; intro w3 hK3
      have KM := Lib.hid (fun W => markText_ii (q + 1 + 1) W (by omega) (by omega))
      go_upto_region 9 with (go_at_call 89; refine (KM.out _).mono ?_; rintro e w4 ⟨rfl, hw⟩; have hK4 := hK3.keep hw; obtain ⟨y0, z0⟩ := Kn.rowCell hK4 (j := i * 5 + 2) (u := .string mk) (by rw [getJ HPP.out]; rfl))
      have hK5 := hK4.rowSt (i * 5 + 2) (.string (mkT (q + 1 + 1)))
      rw [setJ HPP.out] at hK5
      simp only [List.set_cons_zero, List.set_cons_succ] at hK5
      refine Code.wp.kn hK5 ?_; clear hK3 hK4 hK5 hw y0 z0 KM; intro w5 hK5
      obtain ⟨y0, z0⟩ := Kn.rowCell hK5 (j := i * 5 + 3) (u := .int .i64 yr) (by rw [getJ HPP.out]; rfl)
      have hK6 := hK5.rowSt (i * 5 + 3) (.int .i64 (q + 1 + 1 + 1))
      rw [setJ HPP.out] at hK6
      simp only [List.set_cons_zero, List.set_cons_succ] at hK6
      go_upto_region 12 with fail
      refine Code.wp.kn hK6 ?_; clear hK5 hK6 y0 z0; intro w6 hK6
      obtain ⟨y0, z0⟩ := Kn.rowCell hK6 (j := i * 5 + 4) (u := .slice EX wl ex) (by rw [getJ HPP.out]; rfl)
      have KM := markS_kn w0 _ EX wl ex ws (q + 1 + 1 + 1 + 1) w6 (hK6.sel [1, 0, 2] 3 (by decide) (by decide)) (by omega) (by omega)
      have KM := Lib.hid KM
      go_wp2_with fail
      refine KM.out.mono ?_; rintro e w7 ⟨rfl, hK7⟩
      clear KM hK6 y0 z0
      go_wp2_with fail
      go_roundw
      case rel =>
        refine ⟨i + 1, _, P ++ [⟨⟨nm, na, mk, yr, ws⟩, EX, ex⟩], R', by omega, by go_num, rfl, Lib.hid (by rw [HM.out]; simp), by rw [List.length_append, hP]; rfl, Lib.hid ?_, ?_⟩
        · rw [List.map_append, List.map_cons, List.map_nil, endL_snoc, ← HQ.out]
          unfold stepE
          rw [HWL.out]
        · rw [markM_snoc, ← HQ.out]
          have h8 := ((hK7.sel [0, 2, 1] 3 (by decide) (by decide)).bunAAdd (es := rowsE R' ++ rowsE (markM k P))).sel [1, 0] 2 (by decide) (by decide)
          rw [cellsE_app, rowsE_app, List.append_assoc, ← List.append_assoc (rowsE R')]
          have e1 : cellsE [(⟨mkR q ⟨nm, na, mk, yr, ws⟩, EX, ex⟩ : EE)] = [.int .i64 q, .string (mkT (q + 1)), .string (mkT (q + 1 + 1)), .int .i64 (q + 1 + 1 + 1), .slice EX wl ex] := by
            simp [cellsE, EE.cells, mkR, marksS_len, HWL.out]
          have e2 : rowsE [(⟨mkR q ⟨nm, na, mk, yr, ws⟩, EX, ex⟩ : EE)] = [rowSN EX wl ex (marksS (q + 1 + 1 + 1 + 1) wl)] := by
            simp [rowsE, EE.row, mkR, marksS_len, HWL.out]
          rw [e1, e2]
          exact h8
      case measure => simp [intOf]; omega
    · obtain rfl : R = [] := List.eq_nil_of_length_eq_zero (by omega)
      have hi1 : ¬ (i : Int) < (n : Int) := by omega
      have hm := HM.out
      rw [List.append_nil] at hm
      subst hm
      have HQ2 := Lib.hid HQ.out
      have hK : Kn w0 (.row (.slice (some ⟨g, 0, none⟩) n c) 66 5 n (cellsE (markM k M)) :: bunA (rowsE (markM k M)) :: m) wr := by simpa [rowsE, cellsE] using hK
      clear hRl
      go_wp2_with fail
      go_ret
      exact ⟨ret_int HQ2.out, hK⟩
set_option maxRecDepth 100000 in
set_option maxHeartbeats 6400000 in
theorem heldEntryS_any (A : Option Addr) (n c : Nat) (L : List Etr) (k : Int) (w : World) (hr : RL EtrM 5 w A n (markL k L)) (h0 : 1 ≤ k) (hk : k + 4 * n + wsum L ≤ 40000000) :
    Calls Try.prog 33 #[.slice A n c, .int .i64 k] w fun e w' => e = .returned (.int .i64 (endL k L)) ∧ Below w.heap.size w w' := by
  have hnb : n ≤ 10000000 := by have := wsum_nn L; omega
  have HL := Lib.hid (show L.length = n by have := hr.1; rw [markL_len] at this; exact this)
  have HR := Lib.hid (fun W (hW : Below w.heap.size w W) => hr.below steady_EtrM hW)
  clear hr
  go_enter Try.func33, Try.ntmps33
  go_wp2_with fail
  go_loopw [1, 5] (fun kk ii wr => ∃ (i : Nat) (q : Int), i ≤ n ∧ ii = .int .i64 (i : Int) ∧ kk = .int .i64 q ∧ Hid (q = endL k (L.take i)) ∧ Below w.heap.size w wr) (fun _ ii _ => n - (intOf ii).toNat)
  case atStart => exact ⟨0, k, Nat.zero_le _, rfl, rfl, Lib.hid rfl, Below.refl _ _⟩
  case round =>
    obtain ⟨i, q, hi, rfl, rfl, HQ, hb⟩ := hrel
    by_cases hin : i < n
    · obtain ⟨ad, hA, hlt, hkl, hx⟩ := (HR.out _ hb).at_ hin
      have hkl2 : i < L.length := by have := HL.out; omega
      rw [markL_get k L i hkl hkl2, ← HQ.out] at hx
      obtain ⟨ws, hws⟩ : ∃ v, L[i].words.length = v := ⟨_, rfl⟩
      have HNX := Lib.hid (show endL k (L.take (i + 1)) = q + 1 + 1 + 1 + 1 + ws by
        rw [List.take_succ_eq_append_getElem hkl2, endL_snoc, ← HQ.out]
        unfold stepE
        rw [hws])
      have hqb : 1 ≤ q ∧ q + 4 + (ws : Int) ≤ 40000000 := by
        have h1 := HQ.out
        rw [endL_eq, List.length_take] at h1
        have h2 : wsum L = wsum (L.take i) + (ws + wsum (L.drop (i + 1))) := by
          conv => lhs; rw [← List.take_append_drop i L, List.drop_eq_getElem_cons hkl2, wsum_app, wsum_cons, hws]
        have h3 := wsum_nn (L.take i)
        have h4 := wsum_nn (L.drop (i + 1))
        have h5 := HL.out
        omega
      obtain ⟨qb1, qb2⟩ := hqb
      obtain ⟨XA, xc, -, hc, hxr⟩ := hx
      have hml : (mkR q L[i]).words.length = ws := by rw [← hws]; exact marksS_len _ _
      rw [hml] at hc hxr
      have hxr2 : RL StrM 1 wr XA ws (marksS (q + 1 + 1 + 1 + 1) ws) := by rw [← hws]; rw [← hws] at hxr; exact hxr
      have HRX := Lib.hid (fun W (hW : Below wr.heap.size wr W) => heldS_any XA ws xc (q + 1 + 1 + 1 + 1) W (hxr2.below steady_StrM hW) (by omega) (by omega))
      have hc2 : wr.cell? (ad.add (i * 5)) = some (.int .i64 q) ∧ wr.cell? ⟨(ad.add (i * 5)).block, (ad.add (i * 5)).off + 1, none⟩ = some (.string (mkT (q + 1))) ∧ wr.cell? ⟨(ad.add (i * 5)).block, (ad.add (i * 5)).off + 2, none⟩ = some (.string (mkT (q + 1 + 1))) ∧ wr.cell? ⟨(ad.add (i * 5)).block, (ad.add (i * 5)).off + 3, none⟩ = some (.int .i64 (q + 1 + 1 + 1)) ∧ wr.cell? ⟨(ad.add (i * 5)).block, (ad.add (i * 5)).off + 4, none⟩ = some (.slice XA ws xc) := hc
      have HC := Lib.hid (fun W (hW : Below wr.heap.size wr W) => cells5_below hW (by rw [block_of_add]; exact hlt) hc2)
      obtain ⟨c0, -⟩ := HC.out _ (Below.refl _ _)
      have i0 : (0 : Int) ≤ (i : Int) := by omega
      have i1 : (i : Int) < (n : Int) := by omega
      subst hA
      clear hkl hxr hxr2 hc hc2 hml hws hlt hkl2
      go_wp2_with fail
      have KM := Lib.hid (fun W => markText_ii (q + 1) W (by omega) (by omega))
      obtain ⟨T1, hT1⟩ : ∃ T, mkT (q + 1) = T := ⟨_, rfl⟩
      obtain ⟨T2, hT2⟩ : ∃ T, mkT (q + 1 + 1) = T := ⟨_, rfl⟩
      have hTT1 : (T1.toList == T1.toList) = true := by simp
      have hTT2 : (T2.toList == T2.toList) = true := by simp
      rw [hT1] at KM
      rw [hT1, hT2] at HC
      have hbd := (Below.refl wr.heap.size wr).drew
      have HG := Lib.hid (HC.out _ hbd).2.1
      clear c0
      go_region_held3 (fun W => W.cell? ⟨(ad.add (i * 5)).block, (ad.add (i * 5)).off + 1, none⟩ = some (.string T1)) (first | with_reducible exact HG.out | exact HG.out) (
        (go_at_call 89; (refine (KM.out _).mono ?_); rintro e w1 ⟨rfl, hw⟩; have hw2 := hbd.trans (hw.mono hbd.size); clear HG; have HG := Lib.hid (HC.out _ hw2).2.1))
      all_goals
        have hbd2 := hw2.drew
        have HG := Lib.hid (HC.out _ hbd2).2.2.1
        have KM2 := Lib.hid (fun W => markText_ii (q + 1 + 1) W (by omega) (by omega))
        rw [hT2] at KM2
        go_wp2_with fail
        go_region_held3 (fun W => W.cell? ⟨(ad.add (i * 5)).block, (ad.add (i * 5)).off + 2, none⟩ = some (.string T2)) (first | with_reducible exact HG.out | exact HG.out) (
          (go_at_call 89; (refine (KM2.out _).mono ?_); rintro e w3 ⟨rfl, hw⟩; have hw4 := hbd2.trans (hw.mono hbd2.size); clear HG; have HG := Lib.hid (HC.out _ hw4).2.2.1))
        all_goals
          obtain ⟨-, -, -, e3, e4⟩ := HC.out _ hw4
          go_wp2_with fail
          refine (HRX.out _ hw4).mono ?_; rintro e w5 ⟨rfl, hw5⟩
          have hb5 := hb.trans ((hw4.trans (hw5.mono hw4.size)).mono hb.size)
          clear e3 e4 hT1 hT2
          go_wp2_with fail
          go_roundw
          case rel => exact ⟨i + 1, _, by omega, by go_num, rfl, Lib.hid HNX.out.symm, hb5⟩
          case measure => simp [intOf]; omega
    · have hi1 : ¬ (i : Int) < (n : Int) := by omega
      have HQ2 := Lib.hid (show q = endL k L by rw [HQ.out, List.take_of_length_le (by have := HL.out; omega)])
      go_wp2_with fail
      go_ret
      exact ⟨ret_int HQ2.out, hb⟩
end Go.Proofs.Ytmmiahgmdllgdaa

namespace Go.Proofs.Ytmmiahgmdllgdaa
open Go.RowKit Go.Sort
/-! the law of AddEntry -/
theorem wsum_perm {a b : List Etr} (h : a.Perm b) : wsum a = wsum b := by
  unfold wsum
  have h1 := h.map (fun x : Etr => (x.words.length : Int))
  generalize a.map (fun x : Etr => (x.words.length : Int)) = p at h1 ⊢
  generalize b.map (fun x : Etr => (x.words.length : Int)) = q at h1 ⊢
  induction h1 with
  | nil => rfl
  | cons x _ ih => rw [List.sum_cons, List.sum_cons, ih]
  | swap x y l => simp only [List.sum_cons]; omega
  | trans _ _ h1 h2 => rw [h1, h2]
theorem wsum_le : ∀ L : List Etr, wsum L ≤ totE L
  | [] => by simp [wsum, totE]
  | x :: l => by
    have h1 := wsum_le l
    have h2 : totE (x :: l) = costE x + totE l := by unfold totE; simp
    have h3 := totS_nn x.words
    rw [wsum_cons, h2]
    unfold costE
    omega
theorem adL_size (L : List Etr) (x : Etr) : (adL L x).length ≤ L.length + 1 ∧ wsum (adL L x) ≤ wsum L + x.words.length := by
  unfold adL
  split
  · have h : (insE L x).Perm (L ++ [x]) := List.mergeSort_perm _ _
    refine ⟨by rw [h.length_eq, List.length_append]; simp, ?_⟩
    rw [wsum_perm h, wsum_app]
    simp [wsum]
  · have := wsum_nn L
    simp [wsum] at *
    omega
theorem adL_len (L : List Etr) (x : Etr) : (adL L x).length ≤ 50 := by
  unfold adL
  split
  · rename_i h
    have h : (if entsOk L = false then (1 : Int) else if etrOk x = false then 2 else if 0 ≤ idxE L x.num then 4 else if L.length = 50 then 5 else 0) = 0 := h
    have hp : (insE L x).Perm (L ++ [x]) := List.mergeSort_perm _ _
    rw [hp.length_eq, List.length_append]
    by_cases h1 : entsOk L = false
    · rw [if_pos h1] at h; omega
    rw [if_neg h1] at h
    by_cases h2 : etrOk x = false
    · rw [if_pos h2] at h; omega
    rw [if_neg h2] at h
    by_cases h3 : 0 ≤ idxE L x.num
    · rw [if_pos h3] at h; omega
    rw [if_neg h3] at h
    by_cases h4 : L.length = 50
    · rw [if_pos h4] at h; omega
    have h5 : entsOk L = true := by simpa using h1
    unfold entsOk at h5
    rw [Bool.and_eq_true, decide_eq_true_eq] at h5
    have : [x].length = 1 := rfl
    omega
  · simp
theorem adL_mem {L : List Etr} {x y : Etr} (h : y ∈ adL L x) : y ∈ L ∨ y = x := by
  unfold adL at h
  split at h
  · have hp : (insE L x).Perm (L ++ [x]) := List.mergeSort_perm _ _
    rcases List.mem_append.1 (hp.mem_iff.1 h) with h | h
    · exact .inl h
    · exact .inr (List.mem_singleton.1 h)
  · cases h
theorem AERet.n {L : List Etr} {C : Int} {w w' : World} {e : Ending} (h : AERet L C w e w') : ∃ X x, ∃ M : List EE, e = .returned (.tuple #[.slice X L.length x, .int .i64 C]) ∧ M.length = L.length ∧ M.map EE.t = L ∧ Kn w [.row (.slice X L.length x) 66 5 L.length (cellsE M), bunA (rowsE M)] w' := by
  obtain ⟨X, x, M, he, hM, hK⟩ := h
  have hl : M.length = L.length := by rw [← hM, List.length_map]
  rw [hl] at he hK
  exact ⟨X, x, M, he, hl, hM, hK⟩
set_option maxRecDepth 100000 in
set_option maxHeartbeats 6400000 in
theorem law_AddEntry (B : Option Addr) (n bc : Nat) (L : List Etr) (x : Etr) (A : Option Addr) (c : Nat) (w : World) (hr : RL EtrM 5 w B n L) (hxr : RL StrM 1 w A x.words.length x.words) (hn : n ≤ 9223372036854775807) (hz : ∀ x ∈ L, SmE x) (hxz : SmE x) :
    Calls Try.prog 4 #[.slice B n bc, .agg #[.int .i64 x.num, .string x.name, .string x.maker, .int .i64 x.year, .slice A x.words.length c]] w fun e w' => e = .returned (.bool true) ∧ Below w.heap.size w w' := by
  have hLn := hr.1
  have K0 := (Kn.nil w).al [.int .i64 x.num, .string x.name, .string x.maker, .int .i64 x.year, .slice A x.words.length c] 59
  obtain ⟨g0, hg⟩ : ∃ g, w.heap.size = g := ⟨_, rfl⟩
  rw [hg] at K0
  go_enter Try.func4, Try.ntmps4
  go_upto_region 2 with fail
  try rw [hg]
  refine Code.wp.kn K0 ?_; clear K0 hg; intro w1 K1
  have KZ := Lib.hid (szEntryS_any B n bc L 1048576 w1 (hr.below steady_EtrM K1.below) hz (by omega) (by omega) hn)
  go_wp2_with fail
  refine KZ.out.mono ?_; rintro e w2 ⟨v, rfl, hv0, hv1, hw⟩
  have K2 := K1.keep hw
  clear KZ K1 hw
  by_cases hneg : v < 0
  · clear hv1
    go_wp2_with fail
    go_ret
    exact ⟨rfl, K2.below⟩
  have hv1 := hv1 (by omega)
  have htn := totE_nn L
  obtain ⟨a1, a2, a3, a4, a5⟩ := box5 K2
  have KZ := Lib.hid (szEntry_any x A c v w2 (hxr.below steady_StrM K2.below) hxz (by omega) (by omega))
  have HV1 := Lib.hid hv1
  have HTN := Lib.hid htn
  clear hv1 htn
  go_wp2_with fail
  refine KZ.out.mono ?_; rintro e w3 ⟨v2, rfl, hv2, hv3, hw⟩
  have K3 := K2.keep hw
  clear KZ K2 hw a1 a2 a3 a4 a5
  by_cases hneg2 : v2 < 0
  · clear hv3
    go_wp2_with fail
    go_ret
    exact ⟨rfl, K3.below⟩
  have hv3 := hv3 (by omega)
  have hv1 := HV1.out
  have htn := HTN.out
  have hcx := costE_nn x
  have hn1 : n ≤ 1048576 := by omega
  have hcw : ∀ y : Etr, (y.words.length : Int) ≤ costE y := fun y => by have := totS_nn y.words; unfold costE; omega
  have hw1 : ∀ y ∈ L, y.words.length ≤ 1048576 := fun y hy => by have h1 := costE_mem hy; have h2 := hcw y; omega
  have hx1 : x.words.length ≤ 1048576 := by have := hcw x; omega
  have hws : wsum L ≤ 1048576 := by have := wsum_le L; omega
  obtain ⟨s1, s2⟩ := adL_size L x
  have s3 := adL_len L x
  have hwR1 : ∀ y ∈ adL L x, y.words.length ≤ 1048576 := fun y hy => by
    rcases adL_mem hy with h | h
    · exact hw1 y h
    · rw [h]; exact hx1
  rw [hLn] at s1
  have hend8 := endL_eq 1 L
  have hendR := endL_eq 1 (adL L x)
  have TS := Lib.hid (fun W (hW : Below w.heap.size w W) => toEntryS_kn B n bc L W (hr.below steady_EtrM hW) hn1 hw1)
  have TX := Lib.hid (fun W (hW : Below w.heap.size w W) => toEntry_kn x A c W (hxr.below steady_StrM hW) hx1)
  have KS := (fun g X xc W (h1 : RL EtrM 5 W (some ⟨g, 0, none⟩) n L) (h2 : RL StrM 1 W X x.words.length x.words) (h3 : X = none → xc = 0) => (specAddEntry_any (some ⟨g, 0, none⟩) n n L x X xc W h1 (by omega) (Nat.le_refl _) (fun h => by cases h) (by omega) hz h2 h3 hxz).mono (fun _ _ h => h.n))
  have KI := (fun g X xc W (h1 : RL EtrM 5 W (some ⟨g, 0, none⟩) n L) (h2 : RL StrM 1 W X x.words.length x.words) (h3 : X = none → xc = 0) => (AddEntry_any (some ⟨g, 0, none⟩) n n L x X xc W h1 (by omega) hz h2 h3 hxz).mono (fun _ _ h => h.n))
  obtain ⟨RR, hRR⟩ : ∃ v, adL L x = v := ⟨_, rfl⟩
  obtain ⟨RC, hRC⟩ : ∃ v, adC L x = v := ⟨_, rfl⟩
  simp only [hRR, hRC] at KS KI s1 s2 s3 hwR1 hendR
  obtain ⟨kl, hkl⟩ : ∃ v, RR.length = v := ⟨_, rfl⟩
  simp only [hkl] at KS KI s1 s3 hendR
  have hwR := wsum_nn RR
  have hwL := wsum_nn L
  obtain ⟨E8, hE8⟩ : ∃ v, endL 1 L = v := ⟨_, rfl⟩
  obtain ⟨ER, hER⟩ : ∃ v, endL 1 RR = v := ⟨_, rfl⟩
  rw [hE8, hLn] at hend8
  rw [hER] at hendR
  have hb8 : 1 + 4 * (n : Int) + wsum L ≤ 40000000 := by omega
  have hbR : 1 + 4 * (kl : Int) + wsum RR ≤ 40000000 := by omega
  have hbX : E8 + (x.words.length : Int) ≤ 40000000 := by omega
  have e81 : 1 ≤ E8 := by omega
  have eR1 : 1 ≤ ER := by omega
  have hkl6 : kl ≤ 1048576 := by omega
  have HWR := Lib.hid hwR1
  replace KS := Lib.hid KS
  replace KI := Lib.hid KI
  have HB8 := Lib.hid hb8
  have HBR := Lib.hid hbR
  have HE8 := Lib.hid hE8
  have HER := Lib.hid hER
  have HLN := Lib.hid hLn
  have HKL := Lib.hid hkl
  have HW1 := Lib.hid hw1
  clear hRR hRC hr hxr hz hxz hcw hv1 htn hcx hws s1 s2 s3 hwR1 hwR hwL hend8 hendR hb8 hbR hE8 hER hLn hkl hw1 HV1 HTN hv3 hn
  have HG := Lib.hid (box5 K3.drew)
  go_upto_region 8 with fail
  go_cut [6, 7] (fun oo cc wx => ∃ (Z6 : Option Addr) (z6 : Nat) (M6 : List EE), oo = .slice Z6 kl z6 ∧ cc = .int .i64 RC ∧ Hid (M6.map EE.t = RR) ∧ Kn w [.row (.slice Z6 kl z6) 66 5 kl (cellsE M6), bunA (rowsE M6), .blk g0 [.int .i64 x.num, .string x.name, .string x.maker, .int .i64 x.year, .slice A x.words.length c] 59] wx)
  case first =>
    go_region_held3 (fun W => W.cell? ⟨g0, 0, none⟩ = some (.int .i64 x.num) ∧ W.cell? ⟨g0, 1, none⟩ = some (.string x.name) ∧ W.cell? ⟨g0, 2, none⟩ = some (.string x.maker) ∧ W.cell? ⟨g0, 3, none⟩ = some (.int .i64 x.year) ∧ W.cell? ⟨g0, 4, none⟩ = some (.slice A x.words.length c)) (first | with_reducible exact HG.out | exact HG.out) (first
    | (go_at_call 26; refine (TS.out _ K3.drew.below).mono ?_; rintro e wa ⟨ga, Ma, rfl, hMa, hMTa, hKn⟩; have KA := K3.drew.join hKn; clear HG; have HG := Lib.hid (box5 (KA.front 2 rfl)))
    | (go_at_call 27; refine (TX.out _ KA.below).mono ?_; rintro e wb ⟨Xb, xb, rfl, hKn⟩; have KB := KA.join hKn; clear HG; have HG := Lib.hid (box5 (KB.front 3 rfl)))
    | (go_at_call 25; refine (KS.out ga Xb xb _ (by have h := Kn.rlEN (KB.sel [1, 2] 99 (by decide) (by decide)) hMa; rw [hMTa] at h; exact h) (Kn.rlSN (KB.front 0 rfl)).2 (Kn.noneCap (KB.front 0 rfl))).mono ?_; rintro e wc ⟨Z6, z6, M6, rfl, hM6, hMT6, hKn⟩; have KC := KB.join hKn; clear HG; have HG := Lib.hid (box5 (KC.front 5 rfl))))
    all_goals
      go_wp2_with fail
      go_meet
      exact ⟨Z6, z6, M6, rfl, rfl, Lib.hid hMT6, KC.sel [0, 1, 5] 99 (by decide) (by decide)⟩
  case rest =>
    clear K3 HG
    obtain ⟨Z6, z6, M6, rfl, rfl, HM6, K4⟩ := hcut
    have hM6 : M6.length = kl := by have := congrArg List.length HM6.out; rw [List.length_map] at this; rw [this]; exact HKL.out
    have H6 := Lib.hid (fun W m (h : Kn w (.row (.slice Z6 kl z6) 66 5 kl (cellsE M6) :: bunA (rowsE M6) :: m) W) => show RL EtrM 5 W Z6 kl RR by have h := Kn.rlEN h hM6; rw [HM6.out] at h; exact h)
    clear hM6
    go_wp2_with fail
    refine (TS.out _ K4.below).mono ?_; rintro e w5 ⟨g8, M8, rfl, hM8, hMT8, hKn⟩
    have K5 := K4.join hKn
    have H8 := Lib.hid (fun W m (h : Kn w (.row (.slice (some ⟨g8, 0, none⟩) n n) 66 5 n (cellsE M8) :: bunA (rowsE M8) :: m) W) => show RL EtrM 5 W (some ⟨g8, 0, none⟩) n L by have h := Kn.rlEN h hM8; rw [hMT8] at h; exact h)
    have HM8 := Lib.hid hM8
    have HMT8 := Lib.hid hMT8
    clear K4 hKn hM8 hMT8
    obtain ⟨a1, a2, a3, a4, a5⟩ := box5 (K5.front 4 rfl)
    go_wp2_with fail
    refine (TX.out _ K5.below).mono ?_; rintro e w6 ⟨X9, x9, rfl, hKn⟩
    have K6 := (K5.join hKn).al [.int .i64 x.num, .string x.name, .string x.maker, .int .i64 x.year, .slice X9 x.words.length x9] 66
    obtain ⟨g9, hg9⟩ : ∃ g, w6.heap.size = g := ⟨_, rfl⟩
    rw [hg9] at K6
    clear K5 hKn a1 a2 a3 a4 a5
    go_upto_region 11 with fail
    try rw [hg9]
    try simp only [hg9]
    refine Code.wp.kn K6 ?_; clear K6 hg9; intro w7 K7
    obtain ⟨b1, b2, b3, b4, b5⟩ := box5 (K7.front 0 rfl)
    have KI7 := Lib.hid (KI.out g8 X9 x9 w7 (H8.out _ _ (K7.sel [2, 3] 99 (by decide) (by decide))) (Kn.rlSN (K7.front 1 rfl)).2 (Kn.noneCap (K7.front 1 rfl)))
    go_wp2_with fail
    refine KI7.out.mono ?_; rintro e w8 ⟨Z10, z10, M10, rfl, hM10, hMT10, hKn⟩
    have K8 : Kn w [.row (.slice Z10 kl z10) 66 5 kl (cellsE M10), bunA (rowsE M10), .blk g9 [.int .i64 x.num, .string x.name, .string x.maker, .int .i64 x.year, .slice X9 x.words.length x9] 66, rowSN X9 x.words.length x9 x.words, .row (.slice (some ⟨g8, 0, none⟩) n n) 66 5 n (cellsE M8), bunA (rowsE M8), .row (.slice Z6 kl z6) 66 5 kl (cellsE M6), bunA (rowsE M6), .blk g0 [.int .i64 x.num, .string x.name, .string x.maker, .int .i64 x.year, .slice A x.words.length c] 59] w8 := K7.join hKn
    have H10 := Lib.hid (fun W m (h : Kn w (.row (.slice Z10 kl z10) 66 5 kl (cellsE M10) :: bunA (rowsE M10) :: m) W) => show RL EtrM 5 W Z10 kl RR by have h := Kn.rlEN h hM10; rw [hMT10] at h; exact h)
    have HM10 := Lib.hid hM10
    have HMT10 := Lib.hid hMT10
    clear K7 hKn hM10 hMT10 b1 b2 b3 b4 b5 KI7
    have KQ := Lib.hid (eqEntryS_same Z10 Z6 kl z10 z6 RR w8 (H10.out _ _ K8) (H6.out _ _ (K8.sel [6, 7] 99 (by decide) (by decide))) hkl6 HWR.out)
    go_wp2_with fail
    refine KQ.out.mono ?_; rintro e w9 ⟨rfl, hw⟩
    have K9 : Kn w [.row (.slice Z10 kl z10) 66 5 kl (cellsE M10), bunA (rowsE M10), .blk g9 [.int .i64 x.num, .string x.name, .string x.maker, .int .i64 x.year, .slice X9 x.words.length x9] 66, rowSN X9 x.words.length x9 x.words, .row (.slice (some ⟨g8, 0, none⟩) n n) 66 5 n (cellsE M8), bunA (rowsE M8), .row (.slice Z6 kl z6) 66 5 kl (cellsE M6), bunA (rowsE M6), .blk g0 [.int .i64 x.num, .string x.name, .string x.maker, .int .i64 x.year, .slice A x.words.length c] 59] w9 := K8.keep hw
    clear K8 hw KQ
    go_wp2_with fail
    refine (TS.out _ K9.below).mono ?_; rintro e w10 ⟨g14, M14, rfl, hM14, hMT14, hKn⟩
    have K10 := K9.join hKn
    have KQ := Lib.hid (eqEntryS_same (some ⟨g8, 0, none⟩) (some ⟨g14, 0, none⟩) n n n L w10 (H8.out _ _ (K10.sel [6, 7] 99 (by decide) (by decide))) (by have h := Kn.rlEN (K10.sel [0, 1] 99 (by decide) (by decide)) hM14; rw [hMT14] at h; exact h) hn1 HW1.out)
    clear hMT14 hM14 K9 hKn
    go_wp2_with fail
    refine KQ.out.mono ?_; rintro e w11 ⟨rfl, hw⟩
    have K11 : Kn w [.row (.slice Z10 kl z10) 66 5 kl (cellsE M10), bunA (rowsE M10), .blk g9 [.int .i64 x.num, .string x.name, .string x.maker, .int .i64 x.year, .slice X9 x.words.length x9] 66, rowSN X9 x.words.length x9 x.words, .row (.slice (some ⟨g8, 0, none⟩) n n) 66 5 n (cellsE M8), bunA (rowsE M8), .row (.slice Z6 kl z6) 66 5 kl (cellsE M6), bunA (rowsE M6), .blk g0 [.int .i64 x.num, .string x.name, .string x.maker, .int .i64 x.year, .slice A x.words.length c] 59] w11 := (K10.keep hw).sel [2, 3, 4, 5, 6, 7, 8, 9, 10] 99 (by decide) (by decide)
    clear K10 hw KQ
    go_upto_region 16 with fail
    have HG := Lib.hid (And.intro (box5 (K11.drew.front 2 rfl)) (box5 (K11.drew.front 8 rfl)))
    go_cut [63] (fun bb wx => bb = .bool false ∧ Kn w [.row (.slice Z10 kl z10) 66 5 kl (cellsE M10), bunA (rowsE M10), .blk g9 [.int .i64 x.num, .string x.name, .string x.maker, .int .i64 x.year, .slice X9 x.words.length x9] 66, rowSN X9 x.words.length x9 x.words, .row (.slice (some ⟨g8, 0, none⟩) n n) 66 5 n (cellsE M8), bunA (rowsE M8), .row (.slice Z6 kl z6) 66 5 kl (cellsE M6), bunA (rowsE M6), .blk g0 [.int .i64 x.num, .string x.name, .string x.maker, .int .i64 x.year, .slice A x.words.length c] 59] wx)
    case first =>
      go_region_held3 (fun W => (W.cell? ⟨g9, 0, none⟩ = some (.int .i64 x.num) ∧ W.cell? ⟨g9, 1, none⟩ = some (.string x.name) ∧ W.cell? ⟨g9, 2, none⟩ = some (.string x.maker) ∧ W.cell? ⟨g9, 3, none⟩ = some (.int .i64 x.year) ∧ W.cell? ⟨g9, 4, none⟩ = some (.slice X9 x.words.length x9)) ∧ W.cell? ⟨g0, 0, none⟩ = some (.int .i64 x.num) ∧ W.cell? ⟨g0, 1, none⟩ = some (.string x.name) ∧ W.cell? ⟨g0, 2, none⟩ = some (.string x.maker) ∧ W.cell? ⟨g0, 3, none⟩ = some (.int .i64 x.year) ∧ W.cell? ⟨g0, 4, none⟩ = some (.slice A x.words.length c)) (first | with_reducible exact HG.out | exact HG.out) (first
      | (go_at_call 27; refine (TX.out _ K11.drew.below).mono ?_; rintro e wb ⟨Xb, xb, rfl, hKn⟩; have KB := K11.drew.join hKn; clear HG; have HG := Lib.hid (And.intro (box5 (KB.front 3 rfl)) (box5 (KB.front 9 rfl))))
      | (go_at_call 30; refine (eqEntry_same x X9 Xb x9 xb _ (Kn.rlSN (KB.front 4 rfl)).2 (Kn.rlSN (KB.front 0 rfl)).2 hx1).mono ?_; rintro e wc ⟨rfl, hw⟩; have KC := KB.keep hw; clear HG; have HG := Lib.hid (And.intro (box5 (KC.front 3 rfl)) (box5 (KC.front 9 rfl)))))
      all_goals
        go_wp2_with fail
        go_meet
        exact ⟨rfl, KC.sel [1, 2, 3, 4, 5, 6, 7, 8, 9] 99 (by decide) (by decide)⟩
    case rest =>
      clear K11 HG
      obtain ⟨rfl, K12⟩ := hcut
      have KM := markEntryS_kn w [.row (.slice Z10 kl z10) 66 5 kl (cellsE M10), bunA (rowsE M10), .blk g9 [.int .i64 x.num, .string x.name, .string x.maker, .int .i64 x.year, .slice X9 x.words.length x9] 66, rowSN X9 x.words.length x9 x.words, .row (.slice Z6 kl z6) 66 5 kl (cellsE M6), bunA (rowsE M6), .blk g0 [.int .i64 x.num, .string x.name, .string x.maker, .int .i64 x.year, .slice A x.words.length c] 59] (some ⟨g8, 0, none⟩) n n M8 1 _ (K12.sel [4, 5, 0, 1, 2, 3, 6, 7, 8] 99 (by decide) (by decide)) HM8.out (by omega) (by rw [HMT8.out]; exact HB8.out)
      rw [HMT8.out, HE8.out] at KM
      have KM := Lib.hid KM
      clear K12
      go_wp2_with fail
      refine KM.out.mono ?_; rintro e w13 ⟨rfl, K13⟩
      clear KM H8
      obtain ⟨b1, b2, b3, b4, b5⟩ := box5 (K13.front 4 rfl)
      have KM := Lib.hid (markEntry_kn w [.row (.slice Z10 kl z10) 66 5 kl (cellsE M10), bunA (rowsE M10), .row (.slice Z6 kl z6) 66 5 kl (cellsE M6), bunA (rowsE M6), .blk g0 [.int .i64 x.num, .string x.name, .string x.maker, .int .i64 x.year, .slice A x.words.length c] 59] x X9 x9 E8 w13 (K13.sel [5, 2, 3, 6, 7, 8] 99 (by decide) (by decide)) e81 hbX)
      go_wp2_with fail
      refine KM.out.mono ?_; rintro e w14 ⟨rfl, K14⟩
      clear KM K13 b1 b2 b3 b4 b5
      have K14 : Kn w [.row (.slice Z10 kl z10) 66 5 kl (cellsE M10), bunA (rowsE M10), .row (.slice Z6 kl z6) 66 5 kl (cellsE M6), bunA (rowsE M6), .blk g0 [.int .i64 x.num, .string x.name, .string x.maker, .int .i64 x.year, .slice A x.words.length c] 59] w14 := K14.sel [1, 2, 3, 4, 5] 99 (by decide) (by decide)
      have hmk : ¬ E8 + (x.words.length : Int) < 0 := by omega
      have KQ := Lib.hid (eqEntryS_same Z10 Z6 kl z10 z6 RR w14 (H10.out _ _ K14) (H6.out _ _ (K14.sel [2, 3] 99 (by decide) (by decide))) hkl6 HWR.out)
      go_wp2_with fail
      refine KQ.out.mono ?_; rintro e w15 ⟨rfl, hw⟩
      have KM := markEntryS_kn w [.row (.slice Z6 kl z6) 66 5 kl (cellsE M6), bunA (rowsE M6), .blk g0 [.int .i64 x.num, .string x.name, .string x.maker, .int .i64 x.year, .slice A x.words.length c] 59] Z10 kl z10 M10 1 w15 (K14.keep hw) HM10.out (by omega) (by rw [HMT10.out]; exact HBR.out)
      rw [HMT10.out, HER.out] at KM
      have KM := Lib.hid KM
      clear KQ K14 hw
      go_wp2_with fail
      refine KM.out.mono ?_; rintro e w16 ⟨rfl, K16⟩
      have H10 := Lib.hid (fun W m (h : Kn w (.row (.slice Z10 kl z10) 66 5 kl (cellsE (markM 1 M10)) :: bunA (rowsE (markM 1 M10)) :: m) W) => show RL EtrM 5 W Z10 kl (markL 1 RR) by have h := Kn.rlEN h (by rw [markM_len]; exact HM10.out); rw [markM_t, HMT10.out] at h; exact h)
      have HH := Lib.hid (fun W h => (heldEntryS_any Z10 kl z10 RR 1 W h (by omega) HBR.out))
      rw [HER.out] at HH
      have hmr : ¬ ER < 0 := by omega
      clear KM
      go_wp2_with fail
      refine (HH.out _ (H10.out _ _ K16)).mono ?_; rintro e w17 ⟨rfl, hw⟩
      have K17 := K16.keep hw
      clear K16 hw
      go_upto_region 31 with fail
      have HG := Lib.hid (box5 (K17.drew.front 4 rfl))
      go_cut [15, 16] (fun oo cc wx => ∃ (Z15 : Option Addr) (z15 : Nat), oo = .slice Z15 kl z15 ∧ cc = .int .i64 RC ∧ RL EtrM 5 wx Z15 kl RR ∧ Kn w [.row (.slice Z10 kl z10) 66 5 kl (cellsE (markM 1 M10)), bunA (rowsE (markM 1 M10)), .row (.slice Z6 kl z6) 66 5 kl (cellsE M6), bunA (rowsE M6)] wx)
      case first =>
        go_region_held3 (fun W => W.cell? ⟨g0, 0, none⟩ = some (.int .i64 x.num) ∧ W.cell? ⟨g0, 1, none⟩ = some (.string x.name) ∧ W.cell? ⟨g0, 2, none⟩ = some (.string x.maker) ∧ W.cell? ⟨g0, 3, none⟩ = some (.int .i64 x.year) ∧ W.cell? ⟨g0, 4, none⟩ = some (.slice A x.words.length c)) (first | with_reducible exact HG.out | exact HG.out) (first
        | (go_at_call 26; refine (TS.out _ K17.drew.below).mono ?_; rintro e wa ⟨ga, Ma, rfl, hMa, hMTa, hKn⟩; have KA := K17.drew.join hKn; clear HG; have HG := Lib.hid (box5 (KA.front 6 rfl)))
        | (go_at_call 27; refine (TX.out _ KA.below).mono ?_; rintro e wb ⟨Xb, xb, rfl, hKn⟩; have KB := KA.join hKn; clear HG; have HG := Lib.hid (box5 (KB.front 7 rfl)))
        | (go_at_call 28; refine (KI.out ga Xb xb _ (by have h := Kn.rlEN (KB.sel [1, 2] 99 (by decide) (by decide)) hMa; rw [hMTa] at h; exact h) (Kn.rlSN (KB.front 0 rfl)).2 (Kn.noneCap (KB.front 0 rfl))).mono ?_; rintro e wc ⟨Z15, z15, M15, rfl, hM15, hMT15, hKn⟩; have KC := KB.join hKn; clear HG; have HG := Lib.hid (box5 (KC.front 9 rfl))))
        all_goals
          go_wp2_with fail
          go_meet
          exact ⟨Z15, z15, rfl, rfl, by have h := Kn.rlEN (KC.sel [0, 1] 99 (by decide) (by decide)) hM15; rw [hMT15] at h; exact h, KC.sel [5, 6, 7, 8] 99 (by decide) (by decide)⟩
      case rest =>
        clear K17 HG
        obtain ⟨Z15, z15, rfl, rfl, h15, K18⟩ := hcut
        have KQ := Lib.hid (eqEntryS_same Z15 Z6 kl z15 z6 RR _ h15 (H6.out _ _ (K18.sel [2, 3] 99 (by decide) (by decide))) hkl6 HWR.out)
        clear h15
        go_wp2_with fail
        refine KQ.out.mono ?_; rintro e w19 ⟨rfl, hw⟩
        have K19 := K18.keep hw
        clear K18 hw KQ
        go_wp2_with fail
        refine (HH.out _ (H10.out _ _ K19)).mono ?_; rintro e w20 ⟨rfl, hw⟩
        have K20 := K19.keep hw
        clear K19 hw
        go_wp2_with fail
        go_ret
        exact ⟨rfl, K20.below⟩
end Go.Proofs.Ytmmiahgmdllgdaa

namespace Go.Proofs.Ytmmiahgmdllgdaa
open Go.RowKit Go.ChangeShapes Go.WideShapes Go.ChangeAt Go.Deep
section
variable {H : Type} {enc : TypeId × Value → H} {w : World} {base : Nat} {spare : Nat → Bool} {held : Bool} {fuel : Nat} {cs : List Value} {x : DataW H × List MemPlace}
theorem addr_posE (p : Addr) (j : Nat) (h : j ≠ 0) : p.add j = ⟨p.block, p.off + j, none⟩ := by unfold Addr.add; rw [if_neg h]
theorem cellsStrE : Try.prog.cellsOf 9 = 1 := by kernel_rfl
theorem cellsStrsE : Try.prog.cellsOf 57 = 1 := by kernel_rfl
theorem cellsLE : Try.prog.cellsOf 59 = 5 := by kernel_rfl
theorem rd_stringsE (h : DataW.trod enc Try.prog w base spare held fuel 57 cs = some x) : ∃ A c ss, cs = [.slice A ss.length c] ∧ RL StrM 1 w A ss.length ss ∧ (A = none → c = 0) ∧ ss.length ≤ 9223372036854775807 ∧ ∀ s ∈ ss, s.size ≤ 9223372036854775807 := by
  rcases open_strings Try.underlying57 Try.underlying9 cellsStrE h with ⟨rfl, _⟩ | ⟨a, len, cap, ss, rfl, _, hl, hm, hz, _, hcell, hsz⟩
  · exact ⟨none, 0, [], rfl, ⟨rfl, fun h => absurd h (Nat.lt_irrefl 0)⟩, fun _ => rfl, Nat.zero_le _, (fun s hs => by cases hs)⟩
  · have hlen : len ≤ ss.length := by rw [hz]; split <;> omega
    have ht : (ss.take len).length = len := by simp; omega
    refine ⟨some a, cap, ss.take len, by rw [ht], ⟨rfl, fun h0 => ⟨a, rfl, ?_, fun k hk => ?_⟩⟩, (fun h => by cases h), by rw [ht]; simp only [maxLen] at hm; omega, fun s hs => ?_⟩
    · have := World.block_lt_of_cell? w _ (hcell 0 (by omega)); rwa [block_of_add] at this
    · have hk' : k < len := by simp at hk; omega
      have h1 := hcell k (by omega)
      unfold StrM
      rw [Nat.mul_one, h1, List.getD_eq_getElem?_getD, List.getElem?_eq_getElem (by omega), List.getElem_take]; rfl
    · have := hsz s (List.mem_of_mem_take hs)
      simp only [maxLen] at this; omega
set_option maxRecDepth 100000 in
theorem rd_lentry (h : DataW.trod enc Try.prog w base spare held fuel 59 cs = some x) : ∃ (y : Etr) (A : Option Addr) (c : Nat), cs = [.int .i64 y.num, .string y.name, .string y.maker, .int .i64 y.year, .slice A y.words.length c] ∧ RL StrM 1 w A y.words.length y.words ∧ (A = none → c = 0) ∧ SmE y := by
  obtain ⟨xs, m, _, _, hl, hxl, hf⟩ := DataW.trod_struct Try.underlying59 h
  rw [cellsLE] at hl
  match cs, hl with
  | [c0, c1, c2, c3, c4], _ =>
    obtain ⟨y0, hy0⟩ : ∃ y, xs[0]? = some y := ⟨_, List.getElem?_eq_getElem (by rw [hxl]; decide)⟩
    obtain ⟨y1, hy1⟩ : ∃ y, xs[1]? = some y := ⟨_, List.getElem?_eq_getElem (by rw [hxl]; decide)⟩
    obtain ⟨y2, hy2⟩ : ∃ y, xs[2]? = some y := ⟨_, List.getElem?_eq_getElem (by rw [hxl]; decide)⟩
    obtain ⟨y3, hy3⟩ : ∃ y, xs[3]? = some y := ⟨_, List.getElem?_eq_getElem (by rw [hxl]; decide)⟩
    obtain ⟨y4, hy4⟩ : ∃ y, xs[4]? = some y := ⟨_, List.getElem?_eq_getElem (by rw [hxl]; decide)⟩
    have h0 : DataW.trod enc Try.prog w base spare held m 2 (([c0, c1, c2, c3, c4].drop 0).take (Try.prog.cellsOf 2)) = xs[0]? := hf 0 _ rfl
    have h1 : DataW.trod enc Try.prog w base spare held m 9 (([c0, c1, c2, c3, c4].drop 1).take (Try.prog.cellsOf 9)) = xs[1]? := hf 1 _ rfl
    have h2 : DataW.trod enc Try.prog w base spare held m 9 (([c0, c1, c2, c3, c4].drop 2).take (Try.prog.cellsOf 9)) = xs[2]? := hf 2 _ rfl
    have h3 : DataW.trod enc Try.prog w base spare held m 2 (([c0, c1, c2, c3, c4].drop 3).take (Try.prog.cellsOf 2)) = xs[3]? := hf 3 _ rfl
    have h4 : DataW.trod enc Try.prog w base spare held m 57 (([c0, c1, c2, c3, c4].drop 4).take (Try.prog.cellsOf 57)) = xs[4]? := hf 4 _ rfl
    simp only [cellsI64, cellsStrE, cellsStrsE, List.drop_zero, List.drop_succ_cons, List.take_succ_cons, List.take_zero] at h0 h1 h2 h3 h4
    rw [hy0] at h0
    rw [hy1] at h1
    rw [hy2] at h2
    rw [hy3] at h3
    rw [hy4] at h4
    obtain ⟨nm, e0, -⟩ := rd_i64 h0
    obtain ⟨na, e1, -, m1⟩ := DataW.trod_string Try.underlying9 h1
    obtain ⟨mk, e2, -, m2⟩ := DataW.trod_string Try.underlying9 h2
    obtain ⟨yr, e3, -⟩ := rd_i64 h3
    obtain ⟨A, c, ss, e4, hr, hn, hl2, hs⟩ := rd_stringsE h4
    simp only [List.cons.injEq, and_true] at e0 e1 e2 e3 e4
    subst e0
    subst e1
    subst e2
    subst e3
    subst e4
    exact ⟨⟨nm, na, mk, yr, ss⟩, A, c, rfl, hr, hn, ⟨by simp only [maxLen] at m1; omega, by simp only [maxLen] at m2; omega, hs, hl2⟩⟩
set_option maxRecDepth 100000 in
theorem rd_lentries (h : DataW.trod enc Try.prog w base spare held fuel 56 cs = some x) : ∃ A n c xs, cs = [.slice A n c] ∧ RL EtrM 5 w A n xs ∧ n ≤ 9223372036854775807 ∧ ∀ y ∈ xs, SmE y := by
  rcases open_slice Try.underlying56 h with ⟨rfl, _⟩ | ⟨a, len, cap, m, n, D, Pl, rfl, hb, hl, hm, hmm, rfl, hx⟩
  · exact ⟨none, 0, 0, [], rfl, ⟨rfl, fun h => absurd h (by omega)⟩, by omega, (fun y hy => by cases hy)⟩
  · have hlm : len ≤ m := by rw [hmm]; split <;> omega
    have key : ∀ i, i < len → ∃ t : Etr, EtrM w (a.add (i * 5)) t ∧ SmE t := by
      intro i hi
      obtain ⟨cs', h1, h2⟩ := hx i (by omega)
      rw [cellsLE] at h1
      obtain ⟨y, A, c, rfl, hr, hn, hs⟩ := rd_lentry h2
      obtain ⟨_, _, hc⟩ := World.cells?_some h1
      have q0 := hc 0 (by omega)
      have q1 := hc 1 (by omega)
      have q2 := hc 2 (by omega)
      have q3 := hc 3 (by omega)
      have q4 := hc 4 (by omega)
      rw [addr_add_zero] at q0
      rw [addr_posE _ _ (by decide)] at q1 q2 q3 q4
      exact ⟨y, ⟨A, c, hn, ⟨q0, q1, q2, q3, q4⟩, hr⟩, hs⟩
    obtain ⟨T, hT⟩ := choose_lt key
    refine ⟨some a, len, cap, (List.range len).map T, rfl, ⟨by simp, fun hn => ⟨a, rfl, ?_, fun k hk => ?_⟩⟩, by simp only [maxLen] at hm; omega, fun y hy => ?_⟩
    · obtain ⟨A, c, -, ⟨g, -⟩, -⟩ := (hT 0 hn).1
      rw [Nat.zero_mul, addr_add_zero] at g
      exact World.block_lt_of_cell? w _ g
    · have hk' : k < len := by simpa using hk
      simpa using (hT k hk').1
    · obtain ⟨i, hi, rfl⟩ := List.mem_map.1 hy
      exact (hT i (List.mem_range.1 hi)).2
end
end Go.Proofs.Ytmmiahgmdllgdaa
