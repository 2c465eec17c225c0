/- Part 7: lemmas and contracts of the claim's functions. -/
import Derived.Test.YtgljafiegpjlkaaGreatDoorZC1
import Derived.Test.YtgljafiegpjlkaaGreatDoorZC2
import Derived.Test.YtgljafiegpjlkaaGreatDoorZC3
import Derived.Test.YtgljafiegpjlkaaGreatDoorZC4
import Derived.Test.YtgljafiegpjlkaaGreatDoorZC5
import Derived.Test.YtgljafiegpjlkaaGreatDoorZC6
import Derived.Lib.AppendStr
namespace Go.Proofs.YtgljafiegpjlkaaGreatDoor
open Go.RowKit Go.Sort
theorem cells5_belowS {w w' : World} {p : Addr} {v0 v1 v2 v3 v4 : Value} (h : Below w.heap.size w w') (hp : p.block < w.heap.size) (hc : w.cell? p = some v0 ∧ w.cell? ⟨p.block, p.off + 1, none⟩ = some v1 ∧ w.cell? ⟨p.block, p.off + 2, none⟩ = some v2 ∧ w.cell? ⟨p.block, p.off + 3, none⟩ = some v3 ∧ w.cell? ⟨p.block, p.off + 4, none⟩ = some v4) :
    w'.cell? p = some v0 ∧ w'.cell? ⟨p.block, p.off + 1, none⟩ = some v1 ∧ w'.cell? ⟨p.block, p.off + 2, none⟩ = some v2 ∧ w'.cell? ⟨p.block, p.off + 3, none⟩ = some v3 ∧ w'.cell? ⟨p.block, p.off + 4, none⟩ = some v4 := by
  obtain ⟨h0, h1, h2, h3, h4⟩ := hc
  exact ⟨(h.cell hp).trans h0, (h.cell (p := ⟨p.block, p.off + 1, none⟩) hp).trans h1, (h.cell (p := ⟨p.block, p.off + 2, none⟩) hp).trans h2, (h.cell (p := ⟨p.block, p.off + 3, none⟩) hp).trans h3, (h.cell (p := ⟨p.block, p.off + 4, none⟩) hp).trans h4⟩
theorem eqEt_of {x y : Etr} (h1 : x.num = y.num) (h2 : x.name = y.name) (h3 : x.maker = y.maker) (h4 : x.year = y.year) : eqEt x y = decide (x.words = y.words) := by
  unfold eqEt
  rw [decide_eq_true h1, decide_eq_true h2, decide_eq_true h3, decide_eq_true h4, Bool.true_and, Bool.true_and, Bool.true_and, Bool.true_and]
theorem eqEt_no {x y : Etr} (h : ¬ (x.num = y.num ∧ x.name = y.name ∧ x.maker = y.maker ∧ x.year = y.year ∧ x.words = y.words)) : eqEt x y = false := by
  cases he : eqEt x y with
  | false => rfl
  | true => exact absurd (by rw [eqEt_iff.1 he]; exact ⟨rfl, rfl, rfl, rfl, rfl⟩) h
theorem tl_ne {x y : ByteArray} (h : ¬ x = y) : (x.toList == y.toList) = false := by
  rw [beq_eq_false_iff_ne]; exact fun e => h (tl_inj e)
theorem tl_eq (x : ByteArray) : (x.toList == x.toList) = true := by simp
set_option maxRecDepth 100000 in
set_option maxHeartbeats 3200000 in
theorem SameEntries_any (A B : Option Addr) (n m c d : Nat) (L M : List Etr) (w : World) (hr : RL EtrM 5 w A n L) (hs : RL EtrM 5 w B m M) (hn : n ≤ 9223372036854775807) (hm : m ≤ 9223372036854775807) (hz : ∀ x ∈ L, SmE x) (hy : ∀ x ∈ M, SmE x) :
    Calls Tryz.prog 25 #[.slice A n c, .slice B m d] w fun e w' => e = .returned (.bool (eqEs L M)) ∧ Below w.heap.size w w' := by
  by_cases hnm : n = m
  rotate_left
  · rw [eqEs_len (by rw [hr.1, hs.1]; exact hnm)]
    have h2 : ¬ (n : Int) = (m : Int) := by omega
    have h3 : ((n : Int) == (m : Int)) = false := by simp; omega
    clear hr hs
    go_enter Tryz.func25, Tryz.ntmps25
    go_wp2_with fail
    go_ret
    exact ⟨rfl, Below.refl _ _⟩
  subst hnm
  have HE := Lib.hid (show eqEs L M = eqEs (L.drop 0) (M.drop 0) from rfl)
  obtain ⟨R, hR⟩ : ∃ R, eqEs L M = R := ⟨_, rfl⟩
  rw [hR] at HE ⊢
  have HR := Lib.hid (fun W (hW : Below w.heap.size w W) => hr.below steady_EtrM hW)
  have HS := Lib.hid (fun W (hW : Below w.heap.size w W) => hs.below steady_EtrM hW)
  have HL := Lib.hid hr.1
  have HML := Lib.hid hs.1
  have HZ := Lib.hid hz
  have HY := Lib.hid hy
  clear hr hs hR hz hy
  go_enter Tryz.func25, Tryz.ntmps25
  go_wp2_with fail
  go_loopw [15] (fun ii wr => ∃ (k : Nat), k ≤ n ∧ ii = .int .i64 (k : Int) ∧ Hid (R = eqEs (L.drop k) (M.drop k)) ∧ Below w.heap.size w wr) (fun ii _ => n - (intOf ii).toNat)
  case atStart => exact ⟨0, Nat.zero_le _, rfl, HE, Below.refl _ _⟩
  case round =>
    obtain ⟨k, hk, rfl, HA, hb⟩ := hrel
    by_cases hkn : k < n
    · obtain ⟨ad, hA, hlt, hkl, hx⟩ := (HR.out _ hb).at_ hkn
      obtain ⟨bd, hB, hlt2, hkl2, hy⟩ := (HS.out _ hb).at_ hkn
      have hdd := eqEs_drop hkl hkl2
      have hsx := HZ.out _ (List.getElem_mem hkl)
      have hsy := HY.out _ (List.getElem_mem hkl2)
      obtain ⟨x, hxe⟩ : ∃ x, L[k] = x := ⟨_, rfl⟩
      obtain ⟨y, hye⟩ : ∃ y, M[k] = y := ⟨_, rfl⟩
      rw [hxe] at hx hdd hsx
      rw [hye] at hy hdd hsy
      have HD := Lib.hid (HA.out.trans hdd)
      obtain ⟨xn, xa, xm, xt, xw⟩ := x
      obtain ⟨yn, ya, ym, yt, yw⟩ := y
      obtain ⟨XA, xc, -, ⟨c0, c1, c2, c3, c4⟩, hxr⟩ := hx
      obtain ⟨YA, yc, -, ⟨d0, d1, d2, d3, d4⟩, hyr⟩ := hy
      have KW := Lib.hid (fun W (hW : Below wr.heap.size wr W) => sameWords_any XA YA xw.length yw.length xc yc xw yw W (hxr.below steady_StrM hW) (hyr.below steady_StrM hW) hsx.len hsy.len)
      dsimp only at c0 c1 c2 c3 c4 d0 d1 d2 d3 d4
      have hi0 : (0 : Int) ≤ (k : Int) := by omega
      have hi1 : (k : Int) < (n : Int) := by omega
      have K1 := (Kn.nil wr).al [.int .i64 xn, .string xa, .string xm, .int .i64 xt, .slice XA xw.length xc] 27
      obtain ⟨g, hg⟩ : ∃ g, wr.heap.size = g := ⟨_, rfl⟩
      have hbl := hlt2
      subst hA
      subst hB
      clear hxe hye hdd hsx hsy hxr hyr
      rw [hg] at K1
      have HD5 := Lib.hid (fun W (hW : Below wr.heap.size wr W) => cells5_belowS hW (by rw [block_of_add]; exact hbl) (And.intro d0 (And.intro d1 (And.intro d2 (And.intro d3 d4)))))
      go_upto_region 6 with fail
      try simp only [hg]
      refine Code.wp.kn K1 ?_; clear K1 hg c0 c1 c2 c3 c4 d0 d1 d2 d3 d4; intro w1 K1
      obtain ⟨d0, d1, d2, d3, d4⟩ := HD5.out _ K1.below
      have K2 := K1.al [.int .i64 yn, .string ya, .string ym, .int .i64 yt, .slice YA yw.length yc] 27
      obtain ⟨g2, hg2⟩ : ∃ g, w1.heap.size = g := ⟨_, rfl⟩
      rw [hg2] at K2
      go_upto_region 7 with fail
      try simp only [hg2]
      refine Code.wp.kn K2 ?_; clear K1 K2 hg2 d0 d1 d2 d3 d4; intro w2 K2
      obtain ⟨a1, a2, a3, b1, b2, b3, -⟩ := K2.cells
      have hb2 := hb.trans (K2.below.mono hb.size)
      by_cases h1 : xn = yn
      rotate_left
      · have HQ := Lib.hid (show R = false by rw [HD.out, eqEt_no (fun h => by simp_all), Bool.false_and])
        go_wp2_with fail
        go_ret
        exact ⟨ret_bool HQ.out.symm, hb2⟩
      subst h1
      by_cases h2 : xa = ya
      rotate_left
      · have hs2 := tl_ne h2
        have HQ := Lib.hid (show R = false by rw [HD.out, eqEt_no (fun h => by simp_all), Bool.false_and])
        go_wp2_with fail
        go_ret
        exact ⟨ret_bool HQ.out.symm, hb2⟩
      subst h2
      have hs2 := tl_eq xa
      by_cases h3 : xm = ym
      rotate_left
      · have hs3 := tl_ne h3
        have HQ := Lib.hid (show R = false by rw [HD.out, eqEt_no (fun h => by simp_all), Bool.false_and])
        go_wp2_with fail
        go_ret
        exact ⟨ret_bool HQ.out.symm, hb2⟩
      subst h3
      have hs3 := tl_eq xm
      by_cases h4 : xt = yt
      rotate_left
      · have HQ := Lib.hid (show R = false by rw [HD.out, eqEt_no (fun h => by simp_all), Bool.false_and])
        go_wp2_with fail
        go_ret
        exact ⟨ret_bool HQ.out.symm, hb2⟩
      subst h4
      have KW2 := Lib.hid (KW.out _ K2.below)
      have hew : eqEt ⟨xn, xa, xm, xt, xw⟩ ⟨xn, xa, xm, xt, yw⟩ = decide (xw = yw) := eqEt_of rfl rfl rfl rfl
      rw [hew] at HD
      obtain ⟨b, hb5⟩ : ∃ b, decide (xw = yw) = b := ⟨_, rfl⟩
      rw [hb5] at HD KW2
      clear hew hb5
      go_wp2_with fail
      refine KW2.out.mono ?_; rintro e w3 ⟨rfl, q, rfl⟩
      rcases b with _ | _
      · go_wp2_with fail
        go_ret
        exact ⟨ret_bool (by rw [HD.out, Bool.false_and]), hb2.trans ((drewN_below q).mono hb2.size)⟩
      · go_wp2_with fail
        go_roundw
        case rel => exact ⟨k + 1, by omega, by go_num, Lib.hid (by rw [HD.out, Bool.true_and]), hb2.trans ((drewN_below q).mono hb2.size)⟩
        case measure => simp [intOf] <;> omega
    · have hi1 : ¬ (k : Int) < (n : Int) := by omega
      have HQ := Lib.hid (show R = true by
        rw [HA.out, List.drop_eq_nil_of_le (by have := HL.out; omega), List.drop_eq_nil_of_le (by have := HML.out; omega)]; rfl)
      go_wp2_with fail
      go_ret
      exact ⟨ret_bool HQ.out.symm, hb⟩
end Go.Proofs.YtgljafiegpjlkaaGreatDoor

namespace Go.Proofs.YtgljafiegpjlkaaGreatDoor
open Go.RowKit Go.Sort
/-! lines and words, cut off one by one -/
theorem split_mem_len (k : Nat) : ∀ (bs : List UInt8), ∀ l ∈ splitB k bs, l.length ≤ bs.length
  | [], l, h => by
    have h' : l = [] := by simpa [splitB] using h
    rw [h']; simp
  | b :: tl, l, h => by
    have ih := split_mem_len k tl
    rw [splitB_cons] at h
    split at h
    · rcases List.mem_cons.1 h with rfl | h
      · simp
      · have := ih l h
        rw [List.length_cons]; omega
    · rcases hs : splitB k tl with _ | ⟨a, t⟩
      · rw [hs] at h
        have h' : l = [b] := by simpa [glue] using h
        rw [h']; simp
      · rw [hs] at h ih
        rcases List.mem_cons.1 h with rfl | h
        · have := ih a (List.mem_cons_self ..)
          simp; omega
        · have := ih l (List.mem_cons_of_mem _ h)
          rw [List.length_cons]; omega
theorem cutX_none {p bs : List UInt8} (h : cutB p bs = none) : cutX p bs = bs ∧ cutY p bs = [] := by unfold cutX cutY; rw [h]; exact ⟨rfl, rfl⟩
theorem cutX_some {p bs x y : List UInt8} (h : cutB p bs = some (x, y)) : cutX p bs = x ∧ cutY p bs = y := by unfold cutX cutY; rw [h]; exact ⟨rfl, rfl⟩
def sizeV : Value → Nat
  | .string s => s.size
  | _ => 0
set_option maxRecDepth 100000 in
set_option maxHeartbeats 1600000 in
theorem textLines_any (s : ByteArray) (w : World) (hs : s.size ≤ 1048576) :
    Calls Tryz.prog 76 #[.string s] w fun e w' => ∃ A c ss, e = .returned (.tuple #[.slice A ss.length c, .bool (endsB (strB s))]) ∧ (endsB (strB s) = true → ss.map strB = linesR (strB s)) ∧ ss.length ≤ s.size ∧ Kn w [rowS (.slice A ss.length c) ss] w' := by
  have e10 : (10 : UInt8).toNat = 10 := rfl
  have HZ := Lib.hid hs
  clear hs
  go_enter Tryz.func76, Tryz.ntmps76
  have hK0 := ((Kn.nil w).al [] 9).litRow (n := 0) (size := 1) rfl (by decide)
  go_wp2_with fail
  go_loopw [0, 4] (fun sv vv wr => ∃ (r : ByteArray) (ss : List ByteArray), sv = .string r ∧ Hid (r.size + ss.length ≤ s.size) ∧ Hid (splitB 10 (strB s) = ss.map strB ++ splitB 10 (strB r)) ∧ Kn w [rowS vv ss] wr) (fun sv _ _ => sizeV sv)
  case atStart => exact ⟨s, [], rfl, Lib.hid (by simp), Lib.hid (by simp), hK0⟩
  case round =>
    clear hK0
    obtain ⟨r, ss, rfl, HL, HS, hK⟩ := hrel
    by_cases hr0 : 0 < r.size
    · have hE := str_nonempty hr0
      have HC := Lib.hid (cut_any r ⟨#[10]⟩ wr (by have := HL.out; have := HZ.out; omega) (by decide) (by decide))
      rcases hc : cutB [10] (strB r) with _ | ⟨x, y⟩
      · have HE : Hid (endsB (strB s) = false) := by
          simp only [Hid, endsB]
          have h1 := split_cut_none hc
          rw [e10] at h1
          rw [HS.out, h1]
          refine decide_eq_false ?_
          rw [List.getLast?_append]
          intro h2
          have h3 : strB r = [] := by simpa using h2
          have := congrArg List.length h3
          rw [strB_len, List.length_nil] at this
          omega
        have hsm : (cutB (strB ⟨#[10]⟩) (strB r)).isSome = false := by rw [show strB ⟨#[10]⟩ = [10] from rfl, hc]; rfl
        rw [hsm] at HC
        clear hc hsm
        go_wp2_with fail
        refine HC.out.mono ?_; rintro e w1 ⟨x, y, rfl, hx, hy, hw⟩
        have K1 := hK.keep hw
        clear hx hy hw HC hK
        go_wp2_with fail
        go_ret2
        rw [HE.out]
        exact ⟨none, 0, [], rfl, fun h => (by cases h), Nat.zero_le _, (((Kn.nil w).keep K1.below).nilRow 9 1)⟩
      · have hsm : (cutB (strB ⟨#[10]⟩) (strB r)).isSome = true := by rw [show strB ⟨#[10]⟩ = [10] from rfl, hc]; rfl
        have hXY := cutX_some hc
        have hsp := split_cut hc
        rw [e10] at hsp
        have hln := (cutB_mem 10 _ _ _ hc).1
        rw [hsm] at HC
        rw [show strB ⟨#[10]⟩ = [10] from rfl, hXY.1, hXY.2] at HC
        have HXY := Lib.hid (And.intro hsp hln)
        clear hc hsm hXY hsp hln
        go_wp2_with (first | (with_reducible refine HC.out.mono ?_; rintro e w1 ⟨px, py, rfl, hx, hy, hw⟩; have K1 := hK.keep hw; clear hw HC hK) | (at_builtin; refine kn_pushS rfl _ _ rfl _ ss rfl rfl (K1.al [.string px] 9) (by have := HL.out; have := HZ.out; omega) ?_; intro v5 w6 K2))
        have hsz : px.size + py.size + 1 = r.size := by
          have h1 := congrArg List.length HXY.out.2
          rw [strB_len, List.length_append, List.length_cons, ← hx, ← hy, strB_len, strB_len] at h1
          omega
        go_roundw
        case rel => exact ⟨py, ss ++ [px], rfl, Lib.hid (by have := HL.out; rw [List.length_append]; simp; omega), Lib.hid (by rw [HS.out, HXY.out.1, List.map_append, hy]; simp [hx]), K2⟩
        case measure => simp [sizeV]; omega
    · obtain rfl := size_zero (show r.size = 0 by omega)
      obtain ⟨A, c, rfl⟩ := row_form hK.at0
      have HE := Lib.hid (ends_last (bs := strB s) (ls := ss.map strB) HS.out)
      go_wp2_with fail
      go_ret2
      rw [HE.out.1]
      exact ⟨A, c, ss, rfl, fun _ => HE.out.2.symm, (by have := HL.out; omega), hK⟩
set_option maxRecDepth 100000 in
set_option maxHeartbeats 1600000 in
theorem parts_any (s : ByteArray) (w : World) (hs : s.size ≤ 1048576) :
    Calls Tryz.prog 77 #[.string s] w fun e w' => ∃ A c ss, e = .returned (.slice A ss.length c) ∧ ss.map strB = splitB 32 (strB s) ∧ Kn w [rowS (.slice A ss.length c) ss] w' := by
  have e10 : (32 : UInt8).toNat = 32 := rfl
  have HZ := Lib.hid hs
  clear hs
  go_enter Tryz.func77, Tryz.ntmps77
  have hK0 := ((Kn.nil w).al [] 9).litRow (n := 0) (size := 1) rfl (by decide)
  go_wp2_with fail
  go_loopw [0, 3] (fun sv vv wr => ∃ (r : ByteArray) (ss : List ByteArray), sv = .string r ∧ Hid (r.size + ss.length ≤ s.size) ∧ Hid (splitB 32 (strB s) = ss.map strB ++ splitB 32 (strB r)) ∧ Kn w [rowS vv ss] wr) (fun sv _ _ => sizeV sv)
  case atStart => exact ⟨s, [], rfl, Lib.hid (by simp), Lib.hid (by simp), hK0⟩
  case round =>
    clear hK0
    obtain ⟨r, ss, rfl, HL, HS, hK⟩ := hrel
    have HC := Lib.hid (cut_any r ⟨#[32]⟩ wr (by have := HL.out; have := HZ.out; omega) (by decide) (by decide))
    rcases hc : cutB [32] (strB r) with _ | ⟨x, y⟩
    · have HE : Hid (splitB 32 (strB s) = ss.map strB ++ [strB r]) := by
        simp only [Hid]
        have h1 := split_cut_none hc
        rw [e10] at h1
        rw [HS.out, h1]
      have hsm : (cutB (strB ⟨#[32]⟩) (strB r)).isSome = false := by rw [show strB ⟨#[32]⟩ = [32] from rfl, hc]; rfl
      have hXY := cutX_none hc
      rw [hsm, show strB ⟨#[32]⟩ = [32] from rfl, hXY.1] at HC
      clear hc hsm hXY
      go_wp2_with (first | (with_reducible refine HC.out.mono ?_; rintro e w1 ⟨px, py, rfl, hx, hy, hw⟩; have K1 := hK.keep hw; clear hw HC hK) | (at_builtin; refine kn_pushS rfl _ _ rfl _ ss rfl rfl (K1.al [.string px] 9) (by have := HL.out; have := HZ.out; omega) ?_; intro v5 w6 K2; obtain ⟨A, c, rfl⟩ := row_form K2.at0))
      go_ret
      exact ⟨A, c, ss ++ [px], (by rw [List.length_append]; rfl), (by rw [HE.out, List.map_append, ← hx]; rfl), K2⟩
    · have hsm : (cutB (strB ⟨#[32]⟩) (strB r)).isSome = true := by rw [show strB ⟨#[32]⟩ = [32] from rfl, hc]; rfl
      have hXY := cutX_some hc
      have hsp := split_cut hc
      rw [e10] at hsp
      have hln := (cutB_mem 32 _ _ _ hc).1
      rw [hsm] at HC
      rw [show strB ⟨#[32]⟩ = [32] from rfl, hXY.1, hXY.2] at HC
      have HXY := Lib.hid (And.intro hsp hln)
      clear hc hsm hXY hsp hln
      go_wp2_with (first | (with_reducible refine HC.out.mono ?_; rintro e w1 ⟨px, py, rfl, hx, hy, hw⟩; have K1 := hK.keep hw; clear hw HC hK) | (at_builtin; refine kn_pushS rfl _ _ rfl _ ss rfl rfl (K1.al [.string px] 9) (by have := HL.out; have := HZ.out; omega) ?_; intro v5 w6 K2))
      have hsz : px.size + py.size + 1 = r.size := by
        have h1 := congrArg List.length HXY.out.2
        rw [strB_len, List.length_append, List.length_cons, ← hx, ← hy, strB_len, strB_len] at h1
        omega
      go_roundw
      case rel => exact ⟨py, ss ++ [px], rfl, Lib.hid (by have := HL.out; rw [List.length_append]; simp; omega), Lib.hid (by rw [HS.out, HXY.out.1, List.map_append, hy]; simp [hx]), K2⟩
      case measure => simp [sizeV]; omega
end Go.Proofs.YtgljafiegpjlkaaGreatDoor

namespace Go.Proofs.YtgljafiegpjlkaaGreatDoor
open Go.RowKit Go.Sort
theorem small_ent {L : List Etr} (h : entsOk L = true) : ∀ x ∈ L, etrOk x = true := (ents_parts h).2
theorem mk_lnE (x : Etr) : mkS (lnE x) = mkS (dec x.num) ++ ⟨#[32]⟩ ++ x.name ++ ⟨#[32]⟩ ++ x.maker ++ ⟨#[32]⟩ ++ mkS (dec x.year) := by
  unfold mkS lnE
  rw [← mk_strB x.name, ← mk_strB x.maker]
  simp only [show (⟨#[32]⟩ : ByteArray) = ⟨([32] : List UInt8).toArray⟩ from rfl, cat_bytes, strB_mk]
  simp
theorem mkS_app (a b : List UInt8) : mkS (a ++ b) = mkS a ++ mkS b := (cat_bytes a b).symm
theorem mkS_size (a : List UInt8) : (mkS a).size = a.length := size_mk a
theorem msr {n k : Nat} (h : k < n) (hw : wrap64 ((k : Int) + 1) = (k : Int) + 1) : n - (intOf (.int .i64 (wrap64 ((k : Int) + 1)))).toNat < n - (intOf (.int .i64 (k : Int))).toNat := by
  rw [hw]; simp only [intOf]; omega
set_option maxRecDepth 100000 in
set_option maxHeartbeats 6400000 in
theorem EntriesText_any (A : Option Addr) (n c : Nat) (L : List Etr) (w : World) (hr : RL EtrM 5 w A n L) (hn : n ≤ 9223372036854775807) (hz : ∀ x ∈ L, SmE x) (ht : TB w) :
    Calls Tryz.prog 18 #[.slice A n c] w fun e w' => e = .returned (.string (mkS (entT L))) ∧ Below w.heap.size w w' := by
  have KV := Lib.hid (ValidEntries_any A n c L w hr hn hz)
  have HR := Lib.hid (fun W (hW : Below w.heap.size w W) => hr.below steady_EtrM hW)
  have HT := Lib.hid (fun W (hW : Below w.heap.size w W) => ht.below hW)
  have HL := Lib.hid hr.1
  clear hr ht
  rcases hok : entsOk L with _ | _
  · have HE : Hid (entT L = []) := by simp only [Hid, entT, hok]; rfl
    rw [hok] at KV
    clear hok
    go_enter Tryz.func18, Tryz.ntmps18
    go_wp2_with (with_reducible refine KV.out.mono ?_; rintro e w1 ⟨rfl, hw⟩; clear KV)
    go_ret
    rw [HE.out]
    exact ⟨rfl, hw⟩
  · have HE : Hid (entT L = txtE L) := by simp only [Hid, entT, hok]; rfl
    have HO := Lib.hid (ents_parts hok)
    rw [hok] at KV
    clear hok
    go_enter Tryz.func18, Tryz.ntmps18
    go_wp2_with (with_reducible refine KV.out.mono ?_; rintro e w1 ⟨rfl, hw⟩; have K0 := (Kn.nil w).keep hw; clear KV hw)
    go_loopw [13, 3] (fun ii oo wr => ∃ (k : Nat), k ≤ n ∧ ii = .int .i64 k ∧ oo = .string (mkS (txtE (L.take k))) ∧ Kn w [] wr) (fun ii _ _ => n - (intOf ii).toNat)
    case atStart => exact ⟨0, Nat.zero_le _, rfl, rfl, K0⟩
    case round =>
      clear K0
      obtain ⟨k, hk, rfl, rfl, hK⟩ := hrel
      have HTL := Lib.hid (show (txtE (L.take k)).length ≤ 8700 from (by have h1 := txtE_len (L := L.take k) (fun x hx => HO.out.2 x (List.mem_of_mem_take hx)); have h2 := HO.out.1; rw [List.length_take] at h1; omega))
      by_cases hkn : k < n
      · obtain ⟨ad, hA, hlt, hkl, hx⟩ := (HR.out _ hK.below).at_ hkn
        obtain ⟨x, hxe⟩ : ∃ x, L[k] = x := ⟨_, rfl⟩
        have htk := txtE_take hkl
        have hxo := HO.out.2 _ (List.getElem_mem hkl)
        rw [hxe] at hx htk hxo
        have HTK := Lib.hid htk
        have HX := Lib.hid (etr_parts hxo)
        have HXL := Lib.hid (lnE_len hxo)
        have HXW := Lib.hid (wdE_len (etr_parts hxo).ws)
        have i0 : (0 : Int) ≤ (k : Int) := by omega
        have i1 : (k : Int) < (n : Int) := by omega
        clear hxe htk hxo
        obtain ⟨XA, xc, -, ⟨c0, c1, c2, c3, c4⟩, hxr⟩ := hx
        have HXR := Lib.hid (fun W (hW : Below wr.heap.size wr W) => hxr.below steady_StrM hW)
        have K2 := hK.al [.int .i64 x.num, .string x.name, .string x.maker, .int .i64 x.year, .slice XA x.words.length xc] 27
        obtain ⟨g, hg⟩ : ∃ g, wr.heap.size = g := ⟨_, rfl⟩
        have hbw : Below wr.heap.size wr (wr.alloc (.cells #[.int .i64 x.num, .string x.name, .string x.maker, .int .i64 x.year, .slice XA x.words.length xc] 27)) := (Below.refl _ _).alloc (Nat.le_refl _) _
        have h2 := hbw.size
        obtain ⟨w2, hw2⟩ : ∃ W, wr.alloc (.cells #[.int .i64 x.num, .string x.name, .string x.maker, .int .i64 x.year, .slice XA x.words.length xc] 27) = W := ⟨_, rfl⟩
        rw [hw2] at K2 hbw h2
        replace HXR := Lib.hid (fun W (hW : Below w2.heap.size w2 W) => HXR.out W (hbw.trans (hW.mono h2)))
        rw [hg] at K2
        subst hA
        obtain ⟨O, hO⟩ : ∃ O, mkS (txtE (L.take k)) = O := ⟨_, rfl⟩
        have hOs : O.size ≤ 8700 := by rw [← hO, mkS_size]; exact HTL.out
        have HOO := Lib.hid hO
        rw [hO]
        go_upto_region 7 with fail
        try simp only [hg]
        try rw [hw2]
        clear hO hw2 hg hbw h2 hK c0 c1 c2 c3 c4
        have KD1 := Lib.hid (fun W (hW : Below w.heap.size w W) => Decimal_any x.num W (by have := HX.out.n0; omega) (by have := HX.out.n1; omega) (HT.out W hW))
        have KD2 := Lib.hid (fun W (hW : Below w.heap.size w W) => Decimal_any x.year W (by have := HX.out.y0; omega) (by have := HX.out.y1; omega) (HT.out W hW))
        obtain ⟨D1, hD1⟩ : ∃ D, mkS (dec x.num) = D := ⟨_, rfl⟩
        obtain ⟨D2, hD2⟩ : ∃ D, mkS (dec x.year) = D := ⟨_, rfl⟩
        have s1 : D1.size ≤ 21 := by rw [← hD1, mkS_size]; exact dec_len _ (by have := HX.out.n0; omega) (by have := HX.out.n1; omega)
        have s2 : D2.size ≤ 21 := by rw [← hD2, mkS_size]; exact dec_len _ (by have := HX.out.y0; omega) (by have := HX.out.y1; omega)
        rw [show (⟨(dec x.num).toArray⟩ : ByteArray) = D1 from hD1] at KD1
        rw [show (⟨(dec x.year).toArray⟩ : ByteArray) = D2 from hD2] at KD2
        have HLN := Lib.hid (show mkS (lnE x) = D1 ++ ⟨#[32]⟩ ++ x.name ++ ⟨#[32]⟩ ++ x.maker ++ ⟨#[32]⟩ ++ D2 from (by rw [mk_lnE, hD1, hD2]))
        clear hD1 hD2
        have s3 : x.name.size ≤ 12 := by rw [← strB_len]; exact (nameOk_len HX.out.nm).2
        have s4 : x.maker.size ≤ 12 := by rw [← strB_len]; exact (nameOk_len HX.out.mkr).2
        have q1 : ¬ 9223372036854775807 < D1.size + 1 := by omega
        have q2 : ¬ 9223372036854775807 < D1.size + 1 + x.name.size := by omega
        have q3 : ¬ 9223372036854775807 < D1.size + 1 + x.name.size + 1 := by omega
        have q4 : ¬ 9223372036854775807 < D1.size + 1 + x.name.size + 1 + x.maker.size := by omega
        have q5 : ¬ 9223372036854775807 < D1.size + 1 + x.name.size + 1 + x.maker.size + 1 := by omega
        have q6 : ¬ 9223372036854775807 < D1.size + 1 + x.name.size + 1 + x.maker.size + 1 + D2.size := by omega
        have q7 : ¬ 9223372036854775807 < O.size + (D1.size + 1 + x.name.size + 1 + x.maker.size + 1 + D2.size) := by omega
        have HG := Lib.hid (box5 K2.drew)
        go_region_held3 (fun W => W.cell? ⟨g, 0, none⟩ = some (.int .i64 x.num) ∧ W.cell? ⟨g, 1, none⟩ = some (.string x.name) ∧ W.cell? ⟨g, 2, none⟩ = some (.string x.maker) ∧ W.cell? ⟨g, 3, none⟩ = some (.int .i64 x.year) ∧ W.cell? ⟨g, 4, none⟩ = some (.slice XA x.words.length xc)) (first | exact HG.out) (first
          | (go_at_call 75; first | ((with_reducible refine (KD1.out _ K2.drew.below).mono ?_); rintro e w3 ⟨rfl, hw⟩; have K3 := K2.drew.keep hw; clear HG; have HG := Lib.hid (box5 K3)) | ((with_reducible refine (KD2.out _ K3.below).mono ?_); rintro e w4 ⟨rfl, hw2⟩; have K4 := K3.keep hw2; clear HG; have HG := Lib.hid (box5 K4))))
        all_goals
          have HRW := Lib.hid (HXR.out _ (((Below.refl _ _).drew).trans ((show Below w2.heap.size w2.drew w3 from hw).trans (hw2.mono hw.size))))
          have HST : Hid (O ++ (D1 ++ ⟨#[32]⟩ ++ x.name ++ ⟨#[32]⟩ ++ x.maker ++ ⟨#[32]⟩ ++ D2) = mkS (txtE (L.take k) ++ (lnE x ++ wdE (x.words.take 0)))) := by
            simp only [Hid]
            rw [← HLN.out, ← HOO.out, List.take_zero, show wdE [] = [] from rfl, List.append_nil, mkS_app]
          try simp only [Hid] at HST
          try rw [HST]
          try simp only [HST]
          clear hw hw2 HXR HST HLN KD1 KD2 q1 q2 q3 q4 q5 q6 q7 hOs s1 s2 K2 K3 HOO
          go_wp2_with fail
          go_loopw [38, 3] (fun jj oo wr => ∃ (j : Nat), j ≤ x.words.length ∧ jj = .int .i64 j ∧ oo = .string (mkS (txtE (L.take k) ++ (lnE x ++ wdE (x.words.take j)))) ∧ w4 = wr) (fun jj _ _ => x.words.length - (intOf jj).toNat)
          case atStart => exact ⟨0, Nat.zero_le _, rfl, rfl, rfl⟩
          case round =>
            clear HG
            obtain ⟨j, hj, rfl, rfl, rfl⟩ := hrel
            have HJL := Lib.hid (show (txtE (L.take k) ++ (lnE x ++ wdE (x.words.take j))).length ≤ 10000 from (by have h1 := HTL.out; have h2 := HXL.out; have h3 := wdE_len (ws := x.words.take j) (fun s hs => HX.out.ws s (List.mem_of_mem_take hs)); have h4 := HX.out.wl; rw [List.length_take] at h3; rw [List.length_append, List.length_append]; omega))
            obtain ⟨O, hO⟩ : ∃ O, mkS (txtE (L.take k) ++ (lnE x ++ wdE (x.words.take j))) = O := ⟨_, rfl⟩
            have hOs : O.size ≤ 10000 := by rw [← hO, mkS_size]; exact HJL.out
            rw [hO]
            have HOO := Lib.hid hO
            clear hO
            have j0 : (0 : Int) ≤ (j : Int) := by omega
            by_cases hjn : j < x.words.length
            · obtain ⟨bd, hB, hlt2, hjl, hy⟩ := HRW.out.at_ hjn
              have hww := HX.out.ws _ (List.getElem_mem hjl)
              have htk := wdE_take hjl
              obtain ⟨y, hye⟩ : ∃ y, x.words[j] = y := ⟨_, rfl⟩
              rw [hye] at hy hww htk
              have HTK2 := Lib.hid htk
              have s5 : y.size ≤ 12 := by rw [← strB_len]; exact (nameOk_len hww).2
              have q1 : ¬ 9223372036854775807 < 1 + y.size := by omega
              have q2 : ¬ 9223372036854775807 < O.size + (1 + y.size) := by omega
              have j1 : (j : Int) < (x.words.length : Int) := by omega
              have hw8 := HX.out.wl
              have HSN : Hid (O ++ (⟨#[32]⟩ ++ y) = mkS (txtE (L.take k) ++ (lnE x ++ wdE (x.words.take (j + 1))))) := by
                simp only [Hid]
                have e : (⟨#[32]⟩ : ByteArray) ++ y = mkS (32 :: strB y) := by
                  rw [show (32 :: strB y : List UInt8) = [32] ++ strB y from rfl, mkS_app, mkS_strB]; rfl
                rw [HTK2.out, ← HOO.out, e, ← mkS_app]
                simp only [List.append_assoc]
              clear hye htk hww
              subst hB
              simp only [StrM, Nat.mul_one] at hy
              go_wp2_with fail
              go_roundw
              case rel => exact ⟨j + 1, by omega, by go_num, by rw [HSN.out], by first | rfl | trivial⟩
              case measure => simp only [intOf]; omega
            · have j1 : ¬ (j : Int) < (x.words.length : Int) := by omega
              obtain rfl : j = x.words.length := by omega
              have q1 : ¬ 9223372036854775807 < O.size + 1 := by omega
              have HFN : Hid (O ++ ⟨#[10]⟩ = mkS (txtE (L.take (k + 1)))) := by
                simp only [Hid]
                rw [HTK.out, ← HOO.out, List.take_length, mkS_app (txtE (L.take k)), mkS_app (txtE (L.take k))]
                unfold lineE
                rw [mkS_app _ [10]]
                rw [show (⟨#[10]⟩ : ByteArray) = mkS [10] from rfl, ← mkS_app, ← mkS_app, ← mkS_app, ← mkS_app]
                simp
              go_wp2_with fail
              go_roundw
              case rel => exact ⟨k + 1, by omega, by go_num, by rw [HFN.out], K4.sel [] 99 (by decide) (by decide)⟩
              case measure => simp [intOf]; omega
      · have i1 : ¬ (k : Int) < (n : Int) := by omega
        obtain rfl : n = k := by omega
        have HF := Lib.hid (show L.take n = L from List.take_of_length_le (by have := HL.out; omega))
        go_wp2_with fail
        go_ret
        rw [HE.out, HF.out]
        exact ⟨rfl, hK.below⟩
end Go.Proofs.YtgljafiegpjlkaaGreatDoor

namespace Go.Proofs.YtgljafiegpjlkaaGreatDoor
open Go.RowKit Go.Sort
/-! rows of bytes that a call owns -/
theorem ofNat_byte {z : Int} (h0 : 0 ≤ z) (h1 : z < 256) : Value.int .u8 z = byteV (UInt8.ofNat z.toNat) := by
  unfold byteV
  congr 1
  rw [UInt8.toNat_ofNat']
  omega
/-- a row of bytes that is owned -/
def rowB (v : Value) (bs : List UInt8) : Ent := .row v 5 1 bs.length (bs.map byteV)
theorem kn_pushB {ops : Array Oper} {rest : List Oper} {o : Oper} {a : Act} {Q : Exit → Act → World → Prop} {w0 w : World} {m : List Ent} (hgd : o.guard = none) (s x : Operand) (ho : o.op = .call { callee := .builtin .append, args := #[s, x], argTypes := #[22, 22] })
    (v : Value) (bs : List UInt8) (hs : a.eval s = v) {g c : Nat} {T' : TypeId} {z : Int} (hx : a.eval x = .slice (some ⟨g, 0, none⟩) 1 c)
    (hK : Kn w0 (.blk g [.int .u8 z] T' :: rowB v bs :: m) w) (hz : 0 ≤ z ∧ z < 256) (hl : bs.length ≤ 10000000)
    (h : ∀ v' w', Kn w0 (rowB v' (bs ++ [UInt8.ofNat z.toNat]) :: m) w' → wpList Tryz.prog ops Q rest (a.put o.dst v') w') : wpList Tryz.prog ops Q (o :: rest) a w := by
  refine kn_app tpB hgd s x ho v bs.length (bs.map byteV) hs hx hK rfl (by simp [Value.oneCell']) (by omega) (by omega) (fun v' w' hK' => h v' w' ?_)
  unfold rowB
  rw [List.length_append, List.map_append, List.map_cons, List.map_nil, ← ofNat_byte hz.1 hz.2]
  exact hK'
theorem kn_litB {w0 w : World} {m : List Ent} {g : Nat} {zs : List Int} {bs : List UInt8} (h : Kn w0 (.blk g (zs.map (Value.int .u8)) 5 :: m) w) (hz : zs.map (Value.int .u8) = bs.map byteV) (hl : bs.length ≤ 1000000) : Kn w0 (rowB (.slice (some ⟨g, 0, none⟩) bs.length bs.length) bs :: m) w := by
  unfold rowB
  rw [hz] at h
  exact h.litRow (by simp) (by simp only [maxLen]; omega)
section
variable {ops : Array Oper} {rest : List Oper} {o : Oper} {a : Act} {Q : Exit → Act → World → Prop} {w0 w : World} {m : List Ent}
theorem strU : Tryz.prog.underlying 9 = some .string := by kernel_rfl
/-- append(b, s...), b bytes that the call owns, s a string -/
theorem kn_appStr (hgd : o.guard = none) (sl x : Operand) (ho : o.op = .call { callee := .builtin .append, args := #[sl, x], argTypes := #[22, 9] })
    {g n c : Nat} {xs : List Value} (hs : a.eval sl = .slice (some ⟨g, 0, none⟩) n c) (s : ByteArray) (hx : a.eval x = .string s)
    (hK : Kn w0 (.row (.slice (some ⟨g, 0, none⟩) n c) 5 1 n xs :: m) w) (h63 : n + s.size ≤ 100000000)
    (h : ∀ v' w', Kn w0 (.row v' 5 1 (n + s.size) (xs ++ Lib.strCells s) :: m) w' → wpList Tryz.prog ops Q rest (a.put o.dst v') w') : wpList Tryz.prog ops Q (o :: rest) a w := by
  refine wpList_plain hgd fun K hK' => ?_
  obtain ⟨i0, hi, hz0, hz1, hz2⟩ := info_parts tpB.info
  have hown : w.ownsRow 0 5 1 (.slice (some ⟨g, 0, none⟩) n c) n xs := hK.at0
  obtain ⟨v', w', hr, h2, h3, h4⟩ := Lib.run_append_own_string (P := Tryz.prog) w 0 22 9 o.type 5 i0 tpB.under strU hi hz0 hz1 hz2 _ n xs hown s (by simp only [maxLen]; omega) (by omega) (Nat.zero_le _)
  have hv : v'.ownBlock = (Value.slice (some ⟨g, 0, none⟩) n c).ownBlock ∨ v'.ownBlock = some w.heap.size := by
    rcases hown.2 with ⟨hn, -⟩ | ⟨g', cap, cur, hv, -, hg, hnc, hcm, hcs, -⟩
    · cases hn
    · injection hv with e1 e2 e3
      injection e1 with e1
      injection e1 with e1
      subst e1 e3
      have hcs' : cur.size = c := by simpa using hcs
      by_cases hroom : n + s.size ≤ c
      · have hr2 := Lib.run_append_room_string (P := Tryz.prog) w 22 9 o.type 5 i0 tpB.under strU hi hz1 g n c cur hg s hroom (by omega)
        rw [hr] at hr2
        injection hr2 with e _
        rw [e]; exact .inl rfl
      · have holds : ∀ j u, xs[j]? = some u → w.cell? ((⟨g, 0, none⟩ : Addr).add j) = some u := hown.cells (g := g) rfl
        have hr2 := Lib.run_append_grow_string (P := Tryz.prog) w 22 9 o.type 5 i0 (.int .u8 0) tpB.under strU hi hz0 ⟨g, 0, none⟩ n c xs (by rw [hz1]; simpa using hown.1) holds s (by omega) (by omega) (by rw [hz2]; exact growslice_fits (by omega) (by omega))
        rw [hr] at hr2
        injection hr2 with e _
        rw [e]; exact .inr rfl
  unfold Oper.wp execOp
  simp only [ho, resolve, invoke, builtin, Sem.run_bind, Sem.run_pure, Result.andThen_ok, List.map_toArray, List.map_cons, List.map_nil, hs, hx, hr]
  exact hK' _ _ (h v' w' (hK.grow h3 h2 hv))
end
section
variable {o : Oper} {a : Act} {K : Act → World → Prop} {Q : Exit → Act → World → Prop} {w0 w : World} {m : List Ent}
/-- the same as one operation of a region that draws -/
theorem kn_appStro (sl x : Operand) (ho : o.op = .call { callee := .builtin .append, args := #[sl, x], argTypes := #[22, 9] })
    {g n c : Nat} {xs : List Value} (hs : a.eval sl = .slice (some ⟨g, 0, none⟩) n c) (s : ByteArray) (hx : a.eval x = .string s)
    (hK : Kn w0 (.row (.slice (some ⟨g, 0, none⟩) n c) 5 1 n xs :: m) w) (h63 : n + s.size ≤ 100000000)
    (h : ∀ v' w', Kn w0 (.row v' 5 1 (n + s.size) (xs ++ Lib.strCells s) :: m) w' → K (a.put o.dst v') w') : Oper.wp Tryz.prog o a w K Q := by
  obtain ⟨i0, hi, hz0, hz1, hz2⟩ := info_parts tpB.info
  have hown : w.ownsRow 0 5 1 (.slice (some ⟨g, 0, none⟩) n c) n xs := hK.at0
  obtain ⟨v', w', hr, h2, h3, h4⟩ := Lib.run_append_own_string (P := Tryz.prog) w 0 22 9 o.type 5 i0 tpB.under strU hi hz0 hz1 hz2 _ n xs hown s (by simp only [maxLen]; omega) (by omega) (Nat.zero_le _)
  have hv : v'.ownBlock = (Value.slice (some ⟨g, 0, none⟩) n c).ownBlock ∨ v'.ownBlock = some w.heap.size := by
    rcases hown.2 with ⟨hn, -⟩ | ⟨g', cap, cur, hv, -, hg, hnc, hcm, hcs, -⟩
    · cases hn
    · injection hv with e1 e2 e3
      injection e1 with e1
      injection e1 with e1
      subst e1 e3
      have hcs' : cur.size = c := by simpa using hcs
      by_cases hroom : n + s.size ≤ c
      · have hr2 := Lib.run_append_room_string (P := Tryz.prog) w 22 9 o.type 5 i0 tpB.under strU hi hz1 g n c cur hg s hroom (by omega)
        rw [hr] at hr2
        injection hr2 with e _
        rw [e]; exact .inl rfl
      · have holds : ∀ j u, xs[j]? = some u → w.cell? ((⟨g, 0, none⟩ : Addr).add j) = some u := hown.cells (g := g) rfl
        have hr2 := Lib.run_append_grow_string (P := Tryz.prog) w 22 9 o.type 5 i0 (.int .u8 0) tpB.under strU hi hz0 ⟨g, 0, none⟩ n c xs (by rw [hz1]; simpa using hown.1) holds s (by omega) (by omega) (by rw [hz2]; exact growslice_fits (by omega) (by omega))
        rw [hr] at hr2
        injection hr2 with e _
        rw [e]; exact .inr rfl
  unfold Oper.wp execOp
  simp only [ho, resolve, invoke, builtin, Sem.run_bind, Sem.run_pure, Result.andThen_ok, List.map_toArray, List.map_cons, List.map_nil, hs, hx, hr]
  exact h v' w' (hK.grow h3 h2 hv)
end
theorem strCells_map (s : ByteArray) : Lib.strCells s = s.data.toList.map byteV := rfl
section
variable {o : Oper} {a : Act} {Q : Exit → Act → World → Prop} {w0 w : World} {m : List Ent}
theorem kn_appSB {ops : Array Oper} {rest : List Oper} (hgd : o.guard = none) (sl x : Operand) (ho : o.op = .call { callee := .builtin .append, args := #[sl, x], argTypes := #[22, 9] })
    {g c : Nat} {bs : List UInt8} (hs : a.eval sl = .slice (some ⟨g, 0, none⟩) bs.length c) (s : ByteArray) (hx : a.eval x = .string s)
    (hK : Kn w0 (rowB (.slice (some ⟨g, 0, none⟩) bs.length c) bs :: m) w) (h63 : bs.length + s.size ≤ 100000000)
    (h : ∀ v' w', Kn w0 (rowB v' (bs ++ strB s) :: m) w' → wpList Tryz.prog ops Q rest (a.put o.dst v') w') : wpList Tryz.prog ops Q (o :: rest) a w :=
  kn_appStr hgd sl x ho hs s hx hK h63 (fun v' w' K => h v' w' (by unfold rowB; rw [List.length_append, strB_len, List.map_append]; exact K))
theorem kn_appSBo {K : Act → World → Prop} (sl x : Operand) (ho : o.op = .call { callee := .builtin .append, args := #[sl, x], argTypes := #[22, 9] })
    {g c : Nat} {bs : List UInt8} (hs : a.eval sl = .slice (some ⟨g, 0, none⟩) bs.length c) (s : ByteArray) (hx : a.eval x = .string s)
    (hK : Kn w0 (rowB (.slice (some ⟨g, 0, none⟩) bs.length c) bs :: m) w) (h63 : bs.length + s.size ≤ 100000000)
    (h : ∀ v' w', Kn w0 (rowB v' (bs ++ strB s) :: m) w' → K (a.put o.dst v') w') : Oper.wp Tryz.prog o a w K Q :=
  kn_appStro sl x ho hs s hx hK h63 (fun v' w' K => h v' w' (by unfold rowB; rw [List.length_append, strB_len, List.map_append]; exact K))
/-- where a row of bytes lies that is not empty -/
theorem Kn.rowB_form {v : Value} {bs : List UInt8} (h : Kn w0 (rowB v bs :: m) w) (h0 : 0 < bs.length) : ∃ g c, v = .slice (some ⟨g, 0, none⟩) bs.length c := Kn.rowForm h h0
theorem Kn.rowB_conv {g c : Nat} {bs : List UInt8} (h : Kn w0 (rowB (.slice (some ⟨g, 0, none⟩) bs.length c) bs :: m) w) : (convert 22 9 (.slice (some ⟨g, 0, none⟩) bs.length c)).run Tryz.prog w = .ok (.string ⟨bs.toArray⟩) w := by
  have hRB : RB w (some ⟨g, 0, none⟩) bs.length bs := by
    obtain ⟨A', c', e, h3, -⟩ := OwnB.reads (show OwnB w 0 (.slice (some ⟨g, 0, none⟩) bs.length c) bs from h.at0)
    injection e with e1 e2 e3
    rw [e1]; exact h3
  exact conv_bytes w (some ⟨g, 0, none⟩) bs.length c bs hRB
end
end Go.Proofs.YtgljafiegpjlkaaGreatDoor

namespace Go.Proofs.YtgljafiegpjlkaaGreatDoor
open Go.RowKit Go.Sort
set_option maxRecDepth 100000 in
set_option maxHeartbeats 6400000 in
theorem l25Text_any (A : Option Addr) (n c : Nat) (L : List Etr) (w : World) (hr : RL EtrM 5 w A n L) (hn : n ≤ 9223372036854775807) (hok : entsOk L = true) :
    Calls Tryz.prog 79 #[.slice A n c] w fun e w' => e = .returned (.string (mkS (txtE L))) ∧ Below w.heap.size w w' := by
  have HR := Lib.hid hr
  have HO := Lib.hid (ents_parts hok)
  have K0 := ((Kn.nil w).al [] 5).litRow (size := 1) (n := 0) rfl (by decide)
  obtain ⟨h, hh⟩ : ∃ h, w.heap.size = h := ⟨_, rfl⟩
  rw [hh] at K0
  clear hr hok
  go_enter Tryz.func79, Tryz.ntmps79
  go_upto_region 2 with fail
  try rw [hh]
  refine Code.wp.kn K0 ?_; clear K0 hh; intro w1 K1
  go_wp2_with fail
  go_loopw [3, 4] (fun oo ii wr => ∃ (k gb gc : Nat) (bs : List UInt8), k ≤ n ∧ ii = .int .i64 k ∧ oo = .slice (some ⟨gb, 0, none⟩) bs.length gc ∧ Hid (bs = txtE (L.take k)) ∧ Kn w [rowB (.slice (some ⟨gb, 0, none⟩) bs.length gc) bs] wr) (fun _ ii _ => n - (intOf ii).toNat)
  case atStart => exact ⟨0, h, 0, [], Nat.zero_le _, rfl, rfl, Lib.hid rfl, K1⟩
  case round =>
    clear K1
    obtain ⟨k, gb, gc, bs, hk, rfl, rfl, HB, hK⟩ := hrel
    have hbl : bs.length ≤ 8700 := by
      have h1 := txtE_len (L := L.take k) (fun x hx => HO.out.2 x (List.mem_of_mem_take hx))
      have h2 := HO.out.1
      rw [List.length_take] at h1
      rw [HB.out]; omega
    by_cases hkn : k < n
    · obtain ⟨ad, hA, hlt, hkl, hx⟩ := HR.out.at_ hkn
      obtain ⟨x, hxe⟩ : ∃ x, L[k] = x := ⟨_, rfl⟩
      have htk := txtE_take hkl
      have hxo := HO.out.2 _ (List.getElem_mem hkl)
      rw [hxe] at hx htk hxo
      have HTK := Lib.hid htk
      have HX := Lib.hid (etr_parts hxo)
      have HXL := Lib.hid (lnE_len hxo)
      have hw8 := (etr_parts hxo).wl
      have i0 : (0 : Int) ≤ (k : Int) := by omega
      have i1 : (k : Int) < (n : Int) := by omega
      clear hxe htk hxo
      obtain ⟨XA, xc, -, hc, hxr⟩ := hx
      have HP := Lib.hid (fun W (hW : Below w.heap.size w W) => cells5_belowS hW (by rw [block_of_add]; exact hlt) hc)
      have HXR := Lib.hid (fun W (hW : Below w.heap.size w W) => hxr.below steady_StrM hW)
      clear hc hxr
      subst hA
      go_upto_region 6 with fail
      have KD1 := Lib.hid (fun W => l01Dec_any x.num W (by have := HX.out.n0; omega) (by have := HX.out.n1; omega))
      have KD2 := Lib.hid (fun W => l01Dec_any x.year W (by have := HX.out.y0; omega) (by have := HX.out.y1; omega))
      obtain ⟨D1, hD1⟩ : ∃ D, mkS (dec x.num) = D := ⟨_, rfl⟩
      obtain ⟨D2, hD2⟩ : ∃ D, mkS (dec x.year) = D := ⟨_, rfl⟩
      have s1 : D1.size ≤ 21 := by rw [← hD1, mkS_size]; exact dec_len _ (by have := HX.out.n0; omega) (by have := HX.out.n1; omega)
      have s2 : D2.size ≤ 21 := by rw [← hD2, mkS_size]; exact dec_len _ (by have := HX.out.y0; omega) (by have := HX.out.y1; omega)
      rw [show (⟨(dec x.num).toArray⟩ : ByteArray) = D1 from hD1] at KD1
      rw [show (⟨(dec x.year).toArray⟩ : ByteArray) = D2 from hD2] at KD2
      have HLN := Lib.hid (show lnE x = strB (D1 ++ ⟨#[32]⟩ ++ x.name ++ ⟨#[32]⟩ ++ x.maker ++ ⟨#[32]⟩ ++ D2) from (by rw [← hD1, ← hD2, ← mk_lnE, strB_mkS]))
      clear hD1 hD2
      have s3 : x.name.size ≤ 12 := by rw [← strB_len]; exact (nameOk_len HX.out.nm).2
      have s4 : x.maker.size ≤ 12 := by rw [← strB_len]; exact (nameOk_len HX.out.mkr).2
      have q1 : ¬ 9223372036854775807 < D1.size + 1 := by omega
      have q2 : ¬ 9223372036854775807 < D1.size + 1 + x.name.size := by omega
      have q3 : ¬ 9223372036854775807 < D1.size + 1 + x.name.size + 1 := by omega
      have q4 : ¬ 9223372036854775807 < D1.size + 1 + x.name.size + 1 + x.maker.size := by omega
      have q5 : ¬ 9223372036854775807 < D1.size + 1 + x.name.size + 1 + x.maker.size + 1 := by omega
      have q6 : ¬ 9223372036854775807 < D1.size + 1 + x.name.size + 1 + x.maker.size + 1 + D2.size := by omega
      have HSZ := Lib.hid (show bs.length + (D1 ++ ⟨#[32]⟩ ++ x.name ++ ⟨#[32]⟩ ++ x.maker ++ ⟨#[32]⟩ ++ D2 : ByteArray).size ≤ 100000000 from (by simp only [ByteArray.size_append, show (⟨#[32]⟩ : ByteArray).size = 1 from rfl]; omega))
      have HG := Lib.hid (HP.out _ hK.drew.below)
      go_region_held3 (fun W => W.cell? (ad.add (k * 5)) = some (.int .i64 x.num) ∧ W.cell? ⟨(ad.add (k * 5)).block, (ad.add (k * 5)).off + 1, none⟩ = some (.string x.name) ∧ W.cell? ⟨(ad.add (k * 5)).block, (ad.add (k * 5)).off + 2, none⟩ = some (.string x.maker) ∧ W.cell? ⟨(ad.add (k * 5)).block, (ad.add (k * 5)).off + 3, none⟩ = some (.int .i64 x.year) ∧ W.cell? ⟨(ad.add (k * 5)).block, (ad.add (k * 5)).off + 4, none⟩ = some (.slice XA x.words.length xc)) (first | exact HG.out) (first
        | (go_at_call 88; first | ((with_reducible refine (KD1.out _).mono ?_); rintro e w3 ⟨rfl, hw⟩; have K3 := hK.drew.keep hw; clear HG; have HG := Lib.hid (HP.out _ K3.below)) | ((with_reducible refine (KD2.out _).mono ?_); rintro e w4 ⟨rfl, hw2⟩; have K4 := K3.keep hw2; clear HG; have HG := Lib.hid (HP.out _ K4.below)))
        | (rw [if_pos (by kernel_rfl)]; refine kn_appSBo _ _ rfl rfl _ rfl K4 (by exact HSZ.out) ?_; intro v5 w5 K5; clear HG; have HG := Lib.hid (HP.out _ K5.below)))
      all_goals
        rw [← HLN.out] at K5
        have hpos : 0 < (bs ++ lnE x).length := by
          rw [List.length_append, HLN.out, strB_len, ByteArray.size_append, ByteArray.size_append, ByteArray.size_append, ByteArray.size_append, ByteArray.size_append, ByteArray.size_append, show (⟨#[32]⟩ : ByteArray).size = 1 from rfl]; omega
        have K6 : Kn w [rowB v5 (bs ++ (lnE x ++ wdE (x.words.take 0)))] w5 := by
          rw [List.take_zero, show wdE [] = [] from rfl, List.append_nil]; exact K5
        have HPOS := Lib.hid hpos
        clear hpos K5 HSZ HLN HG KD1 KD2 q1 q2 q3 q4 q5 q6 s1 s2 K3 K4 hK
        go_wp2_with fail
        go_loopw [3, 6] (fun oo jj wr => ∃ (j : Nat), j ≤ x.words.length ∧ jj = .int .i64 j ∧ Kn w [rowB oo (bs ++ (lnE x ++ wdE (x.words.take j)))] wr) (fun _ jj _ => x.words.length - (intOf jj).toNat)
        case atStart => exact ⟨0, Nat.zero_le _, rfl, K6⟩
        case round =>
          clear K6
          obtain ⟨j, hj, rfl, K5⟩ := hrel
          obtain ⟨gb3, gc3, rfl⟩ := K5.rowB_form (by have := HPOS.out; rw [List.length_append] at this; rw [List.length_append, List.length_append]; omega)
          have HJL := Lib.hid (show (bs ++ (lnE x ++ wdE (x.words.take j))).length ≤ 10000 from (by have h2 := HXL.out; have h3 := wdE_len (ws := x.words.take j) (fun s hs => HX.out.ws s (List.mem_of_mem_take hs)); have h4 := HX.out.wl; rw [List.length_take] at h3; rw [List.length_append, List.length_append]; omega))
          have HTJ : Hid (bs ++ (lnE x ++ wdE (x.words.take j)) = bs ++ (lnE x ++ wdE (x.words.take j))) := rfl
          obtain ⟨cs, hcs⟩ : ∃ cs, bs ++ (lnE x ++ wdE (x.words.take j)) = cs := ⟨_, rfl⟩
          have HCS := Lib.hid hcs
          rw [hcs] at K5 HJL
          try rw [hcs]
          try simp only [hcs]
          clear hcs HTJ
          have hcl := HJL.out
          obtain ⟨c0, c1, c2, c3, c4⟩ := HP.out _ K5.below
          have j0 : (0 : Int) ≤ (j : Int) := by omega
          by_cases hjn : j < x.words.length
          · obtain ⟨bd, hB, hlt2, hjl, hy⟩ := (HXR.out _ K5.below).at_ hjn
            have hww := HX.out.ws _ (List.getElem_mem hjl)
            have htk := wdE_take hjl
            obtain ⟨y, hye⟩ : ∃ y, x.words[j] = y := ⟨_, rfl⟩
            rw [hye] at hy hww htk
            have HTK2 := Lib.hid htk
            have s5 : y.size ≤ 12 := by rw [← strB_len]; exact (nameOk_len hww).2
            have q1 : ¬ 9223372036854775807 < 1 + y.size := by omega
            have j1 : (j : Int) < (x.words.length : Int) := by omega
            have HSN : Hid (cs ++ strB (⟨#[32]⟩ ++ y) = bs ++ (lnE x ++ wdE (x.words.take (j + 1)))) := by
              simp only [Hid]
              have e : strB ((⟨#[32]⟩ : ByteArray) ++ y) = 32 :: strB y := by
                rw [← mkS_strB y, show (⟨#[32]⟩ : ByteArray) = mkS [32] from rfl, ← mkS_app, strB_mkS, strB_mkS]; rfl
              rw [HTK2.out, ← HCS.out, e]
              simp only [List.append_assoc]
            have HSZ := Lib.hid (show cs.length + ((⟨#[32]⟩ : ByteArray) ++ y).size ≤ 100000000 from (by rw [ByteArray.size_append, show (⟨#[32]⟩ : ByteArray).size = 1 from rfl]; omega))
            clear hye htk hww
            subst hB
            simp only [StrM, Nat.mul_one] at hy
            go_wp2_with (at_builtin; refine kn_appSB (bs := cs) rfl _ _ rfl rfl (⟨#[32]⟩ ++ y) rfl K5 HSZ.out ?_; intro v6 w6 K6)
            rw [HSN.out] at K6
            go_roundw
            case rel => exact ⟨j + 1, by omega, by go_num, K6⟩
            case measure => simp only [intOf]; omega
          · have j1 : ¬ (j : Int) < (x.words.length : Int) := by omega
            obtain rfl : j = x.words.length := by omega
            have HFN : Hid (cs ++ [10] = txtE (L.take (k + 1))) := by
              simp only [Hid]
              rw [HTK.out, ← HCS.out, ← HB.out, List.take_length]
              unfold lineE
              simp only [List.append_assoc]
            go_wp2_with (at_builtin; refine kn_pushB rfl _ _ rfl _ cs rfl rfl (K5.al [.int .u8 10] 5) (by omega) (by omega) ?_; intro v6 w6 K6)
            rw [show (UInt8.ofNat (10 : Int).toNat) = 10 from rfl, HFN.out] at K6
            obtain ⟨gb4, gc4, rfl⟩ := K6.rowB_form (by rw [← HFN.out, List.length_append]; simp)
            go_roundw
            case rel => exact ⟨k + 1, gb4, gc4, _, by omega, by go_num, rfl, Lib.hid rfl, K6⟩
            case measure => simp only [intOf]; omega
    · have i1 : ¬ (k : Int) < (n : Int) := by omega
      obtain rfl : n = k := by omega
      have HF := Lib.hid (show bs = txtE L from by rw [HB.out, List.take_of_length_le (by have := HR.out.1; omega)])
      have hcv := hK.rowB_conv
      go_wp2_with fail
      go_ret
      rw [HF.out]
      exact ⟨rfl, hK.below⟩
set_option maxRecDepth 100000 in
set_option maxHeartbeats 1600000 in
theorem specEntriesText_any (A : Option Addr) (n c : Nat) (L : List Etr) (w : World) (hr : RL EtrM 5 w A n L) (hn : n ≤ 9223372036854775807) (hz : ∀ x ∈ L, SmE x) :
    Calls Tryz.prog 24 #[.slice A n c] w fun e w' => e = .returned (.string (mkS (entT L))) ∧ Below w.heap.size w w' := by
  have KV := Lib.hid (l25Ok_any A n c L w hr hn hz)
  rcases hok : entsOk L with _ | _
  · have HE : Hid (entT L = []) := by simp only [Hid, entT, hok]; rfl
    rw [hok] at KV
    clear hok
    go_enter Tryz.func24, Tryz.ntmps24
    go_wp2_with (with_reducible refine KV.out.mono ?_; rintro e w1 ⟨rfl, hw⟩; clear KV)
    go_ret
    rw [HE.out]
    exact ⟨rfl, hw⟩
  · have HE : Hid (entT L = txtE L) := by simp only [Hid, entT, hok]; rfl
    have HX := Lib.hid (fun W (hW : Below w.heap.size w W) => l25Text_any A n c L W (hr.below steady_EtrM hW) hn hok)
    rw [hok] at KV
    clear hok
    go_enter Tryz.func24, Tryz.ntmps24
    go_wp2_with (first | (with_reducible refine KV.out.mono ?_; rintro e w1 ⟨rfl, hw⟩; clear KV) | (with_reducible refine (HX.out _ hw).mono ?_; rintro e w2 ⟨rfl, hw2⟩))
    go_ret
    rw [HE.out]
    exact ⟨rfl, hw.trans (hw2.mono hw.size)⟩
end Go.Proofs.YtgljafiegpjlkaaGreatDoor

namespace Go.Proofs.YtgljafiegpjlkaaGreatDoor
open Go.RowKit Go.Sort
theorem f6big_any (A : Option Addr) (n c : Nat) (w : World) : Calls Tryz.prog 8 #[.slice A n c] w fun e w' => e = .returned (.bool (decide ((n : Int) > 4096))) ∧ w' = w := by
  go_enter Tryz.func8, Tryz.ntmps8
  go_wp2
  go_ret
  exact ⟨rfl, rfl⟩
end Go.Proofs.YtgljafiegpjlkaaGreatDoor

namespace Go.Proofs.YtgljafiegpjlkaaGreatDoor
open Go.RowKit Go.Sort
def LsOk (M : List EE) : Prop := M.length ≤ 60 ∧ ∀ m ∈ M, NewOk m.t
/-- a drawn catalogue of the call's own -/
def OES (w : World) (e : Ending) (w' : World) : Prop := ∃ X x, ∃ M : List EE, e = .returned (.slice X M.length x) ∧ LsOk M ∧ Kn w [.row (.slice X M.length x) 27 5 M.length (cellsE M), bunA (rowsE M)] w'
def OESI (w : World) (e : Ending) (w' : World) : Prop := ∃ X x, ∃ M : List EE, ∃ k : Int, e = .returned (.tuple #[.slice X M.length x, .int .i64 k]) ∧ LsOk M ∧ Kn w [.row (.slice X M.length x) 27 5 M.length (cellsE M), bunA (rowsE M)] w'
def OESE (w : World) (e : Ending) (w' : World) : Prop := ∃ X x, ∃ M : List EE, ∃ t : Etr, ∃ XA xc, e = .returned (.tuple #[.slice X M.length x, .agg #[.int .i64 t.num, .string t.name, .string t.maker, .int .i64 t.year, .slice XA t.words.length xc]]) ∧ LsOk M ∧ NewOk t ∧ Kn w [rowSN XA t.words.length xc t.words, .row (.slice X M.length x) 27 5 M.length (cellsE M), bunA (rowsE M)] w'
section
variable (A : Option Addr) (n c : Nat) (bs : List UInt8) (w : World) (hb : RB w A n bs) (hn : n ≤ 9223372036854775807)
include hb hn
set_option maxRecDepth 100000 in
set_option maxHeartbeats 3200000 in
theorem DrawEntriesText_any : Calls Tryz.prog 17 #[.slice A n c] w (OES w) := by
  unfold OES
  have K1 := Lib.hid (l00From_any A n c bs w hb hn)
  clear hb
  go_enter Tryz.func17, Tryz.ntmps17
  go_wp2_with fail
  refine K1.out.mono ?_; rintro e w1 ⟨rfl, hs, hb1⟩
  have D1 := DR.nil hs
  clear hs
  have KB := Lib.hid (l25Bent_dr _ _ w1 D1.src (by omega))
  unfold DEnts at KB
  go_wp2_with fail
  refine KB.out.mono ?_; rintro e w2 ⟨X, x, M, rfl, hl, hm, -, h2⟩
  have K2 := Kn.ofDR hb1 (Nat.le_refl _) (D1.add h2)
  clear D1 h2 KB
  go_wp2_with fail
  go_ret
  exact ⟨X, x, M, rfl, ⟨hl, hm⟩, K2.sel [0, 1] 99 (by decide) (by decide)⟩
set_option maxRecDepth 100000 in
set_option maxHeartbeats 3200000 in
theorem l25Two_any : Calls Tryz.prog 72 #[.slice A n c] w (OESI w) := by
  unfold OESI
  have K1 := Lib.hid (l00From_any A n c bs w hb hn)
  clear hb
  go_enter Tryz.func72, Tryz.ntmps72
  go_wp2_with fail
  refine K1.out.mono ?_; rintro e w1 ⟨rfl, hs, hb1⟩
  have D1 := DR.nil hs
  clear hs
  have KB := Lib.hid (l25Bent_dr _ _ w1 D1.src (by omega))
  unfold DEnts at KB
  go_wp2_with fail
  refine KB.out.mono ?_; rintro e w2 ⟨X, x, M, rfl, hl, hm, -, h2⟩
  have D2 := D1.add h2
  clear D1 h2 KB
  go_wp2_with fail
  refine (pick_dr _ _ 15 _ D2.src (by omega)).mono ?_; rintro e w3 ⟨p, rfl, hp, h3⟩
  have D3 := D2.add h3
  clear D2 h3
  go_wp2_with fail
  refine (pick_dr _ _ 12 _ D3.src (by omega)).mono ?_; rintro e w4 ⟨q, rfl, hq, h4⟩
  have K4 := Kn.ofDR hb1 (Nat.le_refl _) (D3.add h4)
  clear D3 h4
  go_wp2_with fail
  go_ret2
  exact ⟨X, x, M, _, rfl, ⟨hl, hm⟩, K4.sel [0, 1] 99 (by decide) (by decide)⟩
set_option maxRecDepth 100000 in
set_option maxHeartbeats 3200000 in
theorem DrawRemoveEntry_any : Calls Tryz.prog 12 #[.slice A n c] w (OESI w) := by
  have K1 := Lib.hid (l25Two_any A n c bs w hb hn)
  unfold OESI at K1 ⊢
  clear hb
  go_enter Tryz.func12, Tryz.ntmps12
  go_wp2_with fail
  refine K1.out.mono ?_; rintro e w1 ⟨X, x, M, k, rfl, hm, K⟩
  go_wp2_with fail
  go_ret2
  exact ⟨X, x, M, k, rfl, hm, K⟩
set_option maxRecDepth 100000 in
set_option maxHeartbeats 3200000 in
theorem DrawAddEntry_any : Calls Tryz.prog 9 #[.slice A n c] w (OESE w) := by
  unfold OESE
  have K0 := (Kn.nil w).al [.int .i64 0, .string ⟨#[]⟩, .string ⟨#[]⟩, .int .i64 0, .slice none 0 0] 27
  obtain ⟨g, hg⟩ : ∃ g, w.heap.size = g := ⟨_, rfl⟩
  rw [hg] at K0
  have HB := Lib.hid (fun W (hW : Below w.heap.size w W) => hb.below hW)
  clear hb
  go_enter Tryz.func9, Tryz.ntmps9
  go_upto_region 1 with fail
  try rw [hg]
  refine Code.wp.kn K0 ?_; clear K0 hg; intro w0 K0
  have K1 := Lib.hid (l00From_any A n c bs w0 (HB.out _ K0.below) hn)
  go_wp2_with fail
  refine K1.out.mono ?_; rintro e w1 ⟨rfl, hs, hb1⟩
  have D1 := DR.nil hs
  clear hs
  have KB := Lib.hid (l25Bent_dr _ _ w1 D1.src (by omega))
  unfold DEnts at KB
  go_wp2_with fail
  refine KB.out.mono ?_; rintro e w2 ⟨X, x, M, rfl, hl, hm, -, h2⟩
  have D2 := D1.add h2
  clear D1 h2 KB
  go_wp2_with fail
  refine (l25New_dr _ _ _ D2.src (by omega)).mono ?_; rintro e w3 ⟨t, XA, xc, rfl, hnew, h3⟩
  have K3 := Kn.ofDR hb1 (Nat.le_refl _) (D2.add h3)
  clear D2 h3
  have K4 := (K0.join K3).sel [3, 0, 1, 2] 99 (by decide) (by decide)
  clear K0 K3 hb1
  obtain ⟨a1, a2, a3, -⟩ := K4.cells
  go_wp2_with fail
  refine bodyPost.kn (((((K4.st 0 (.int .i64 t.num)).st 1 (.string t.name)).st 2 (.string t.maker)).st 3 (.int .i64 t.year)).st 4 (.slice XA t.words.length xc)) ?_; intro w5 K5
  clear a1 a2 a3
  obtain ⟨a1, a2, a3, -⟩ := K5.cells
  exact bodyPost_ret (v := .tuple #[.slice X M.length x, .agg #[.int .i64 t.num, .string t.name, .string t.maker, .int .i64 t.year, .slice XA t.words.length xc]]) (by simp [results, Tryz.results9, go_sem, a1]) rfl ⟨X, x, M, t, XA, xc, rfl, ⟨hl, hm⟩, hnew, K5.sel [1, 2, 3] 99 (by decide) (by decide)⟩
set_option maxRecDepth 100000 in
set_option maxHeartbeats 3200000 in
theorem DrawReadEntries_any : Calls Tryz.prog 20 #[.slice A n c] w fun e w' => ∃ s : ByteArray, e = .returned (.string s) ∧ s.size ≤ 20001 ∧ Below w.heap.size w w' := by
  have K1 := Lib.hid (l00From_any A n c bs w hb hn)
  clear hb
  go_enter Tryz.func20, Tryz.ntmps20
  go_wp2_with fail
  refine K1.out.mono ?_; rintro e w1 ⟨rfl, hs, hb1⟩
  have D1 := DR.nil hs
  clear hs
  have KB := Lib.hid (l25Draw_dr _ _ w1 D1.src (by omega))
  unfold DEnts at KB
  go_wp2_with fail
  refine KB.out.mono ?_; rintro e w2 ⟨X, x, M, rfl, hl, hm, hok, h2⟩
  have D2 := D1.add h2
  clear D1 h2 KB
  have KT : Hid (Calls Tryz.prog 79 #[.slice X M.length x] w2 fun e w' => e = .returned (.string (mkS (txtE (M.map EE.t)))) ∧ Below w2.heap.size w2 w') := by
    obtain ⟨u, tw, hs, hK⟩ := D2
    obtain ⟨A', c', e, hRL⟩ := hK.rlE
    injection e with e1 e2 e3
    subst e1 e3
    exact l25Text_any X M.length x (M.map EE.t) w2 hRL (by omega) hok
  have hts : (mkS (txtE (M.map EE.t))).size ≤ 8700 := by
    have h1 := txtE_len (ents_parts hok).2
    have h2 := (ents_parts hok).1
    rw [mkS_size]; omega
  obtain ⟨T, hT⟩ : ∃ T, mkS (txtE (M.map EE.t)) = T := ⟨_, rfl⟩
  rw [hT] at KT hts
  clear hT hok hm
  go_wp2_with fail
  refine KT.out.mono ?_; rintro e w3 ⟨rfl, hw3⟩
  have D3 := D2.keep hw3
  clear D2 hw3 KT
  go_wp2_with fail
  refine (one_dr _ _ 3 _ D3.src (by omega)).mono ?_; rintro e w4 ⟨yes, rfl, h4⟩
  have D4 := D3.add h4
  clear D3 h4
  rcases yes with _ | _
  · go_wp2_with fail
    go_ret
    exact ⟨T, rfl, by omega, (Kn.ofDR hb1 (Nat.le_refl _) D4).below⟩
  · have KS := Lib.hid (l01Spoil_dr _ _ T w4 D4.src (by omega) (by omega))
    unfold DStr at KS
    go_wp2_with fail
    refine KS.out.mono ?_; rintro e w5 ⟨s, rfl, hs, h5⟩
    have K5 := Kn.ofDR hb1 (Nat.le_refl _) (D4.add h5)
    go_wp2_with fail
    go_ret
    exact ⟨s, rfl, hs, K5.below⟩
end
end Go.Proofs.YtgljafiegpjlkaaGreatDoor

namespace Go.Proofs.YtgljafiegpjlkaaGreatDoor
open Go.RowKit Go.Sort
/-- two lists that are only read -/
def SDRet (w : World) (e : Ending) (w' : World) : Prop := ∃ (A : Option Addr) (n c : Nat) (L : List Etr) (B : Option Addr) (m d : Nat) (M : List Etr), e = .returned (.tuple #[.slice A n c, .slice B m d]) ∧ RL EtrM 5 w' A n L ∧ RL EtrM 5 w' B m M ∧ (n ≤ 60 ∧ m ≤ 60) ∧ (∀ x ∈ L, SmE x) ∧ (∀ x ∈ M, SmE x) ∧ Below w.heap.size w w'
theorem LsOk.sm {M : List EE} (h : ∀ m ∈ M, NewOk m.t) : ∀ x ∈ M.map EE.t, SmE x := fun x hx => by
  obtain ⟨m, hm, rfl⟩ := List.mem_map.1 hx
  exact (h m hm).sm
theorem Kn.rlE' {w0 w : World} {m : List Ent} {A : Option Addr} {n c : Nat} {L : List EE} (h : Kn w0 (.row (.slice A n c) 27 5 n (cellsE L) :: bunA (rowsE L) :: m) w) (hn : L.length = n) : RL EtrM 5 w A n (L.map EE.t) := by
  subst hn
  obtain ⟨A', c', e, hRL⟩ := h.rlE
  injection e with e1 e2 e3
  subst e1 e3
  exact hRL
theorem map_cells {M M' : List EE} (h : M'.map EE.t = M.map EE.t) : M'.length = M.length := by
  have := congrArg List.length h
  simpa using this
theorem sm_cons {e0 e1 : EE} {R : List EE} (h : ∀ m ∈ e0 :: R, NewOk m.t) (h1 : SmE e1.t) : ∀ x ∈ (e1 :: R).map EE.t, SmE x := fun x hx => by
  rcases List.mem_cons.1 hx with rfl | hx
  · exact h1
  · obtain ⟨m, hm, rfl⟩ := List.mem_map.1 hx
    exact (h m (List.mem_cons_of_mem _ hm)).sm
set_option maxRecDepth 100000 in
set_option maxHeartbeats 6400000 in
theorem DrawSameEntries_any (A : Option Addr) (n c : Nat) (bs : List UInt8) (w : World) (hb : RB w A n bs) (hn : n ≤ 9223372036854775807) : Calls Tryz.prog 22 #[.slice A n c] w (SDRet w) := by
  unfold SDRet
  have K1 := Lib.hid (l00From_any A n c bs w hb hn)
  clear hb
  go_enter Tryz.func22, Tryz.ntmps22
  go_wp2_with fail
  refine K1.out.mono ?_; rintro e w1 ⟨rfl, hs, hb1⟩
  have D1 := DR.nil hs
  clear hs
  have KB := Lib.hid (l25Draw_dr _ _ w1 D1.src (by omega))
  unfold DEnts at KB
  go_wp2_with fail
  refine KB.out.mono ?_; rintro e w2 ⟨X, x, M, rfl, hl, hm, -, h2⟩
  have D2 := D1.add h2
  clear D1 h2 KB
  have KT : Hid (Calls Tryz.prog 71 #[.slice X M.length x] w2 (OwnES (M.map EE.t) w2)) := by
    obtain ⟨u, tw, hs, hK⟩ := D2
    exact l25Copy_any X M.length x (M.map EE.t) w2 ((hK.sel [0, 1] 99 (by decide) (by decide)).rlE' rfl) (by omega) (fun y hy => by
      obtain ⟨m, hm', rfl⟩ := List.mem_map.1 hy
      have := (hm m hm').wl; omega)
  unfold OwnES at KT
  have HM := Lib.hid hm
  clear hm
  go_wp2_with fail
  refine KT.out.mono ?_; rintro e w3 ⟨Y, y, M', rfl, hM', hK3⟩
  have D3 := D2.kn (fun v h => h.join hK3)
  clear D2 hK3 KT
  have hlen := map_cells hM'
  have hl' : M'.length ≤ 60 := by omega
  have HM' : Hid (∀ m ∈ M', NewOk m.t) := fun m hm => by
    have h1 : m.t ∈ M.map EE.t := by rw [← hM']; exact List.mem_map_of_mem hm
    obtain ⟨q, hq, he⟩ := List.mem_map.1 h1
    rw [← he]; exact HM.out q hq
  clear hlen hM'
  rcases M' with _ | ⟨e0, R⟩
  · have K3 := Kn.ofDR hb1 (Nat.le_refl _) D3
    go_wp2_with fail
    go_ret2
    exact ⟨X, M.length, x, M.map EE.t, Y, 0, y, [], rfl, (K3.sel [2, 3] 99 (by decide) (by decide)).rlE' rfl, (K3.sel [0, 1] 99 (by decide) (by decide)).rlE' (L := []) rfl, ⟨hl, by omega⟩, LsOk.sm HM.out, fun x hx => (by cases hx), K3.below⟩
  · obtain ⟨rn, hrn⟩ : ∃ rn, (e0 :: R).length = rn := ⟨_, rfl⟩
    have HRN := Lib.hid hrn
    have hr0 : 0 < rn := by rw [← hrn]; simp
    rw [hrn] at D3 hl'
    try rw [hrn]
    try simp only [hrn]
    clear hrn
    have i1 : (0 : Int) < (rn : Int) := by omega
    have i2 : (rn : Int) ≤ 60 := by omega
    obtain ⟨g, rfl⟩ : ∃ g, Y = some ⟨g, 0, none⟩ := by
      obtain ⟨u, -, -, hK⟩ := D3
      obtain ⟨g, c, e⟩ := hK.rowForm hr0
      injection e with e1 e2 e3
      exact ⟨g, e1⟩
    go_wp2_with fail
    refine (pick_dr _ _ 4 _ D3.src (by omega)).mono ?_; rintro e w4 ⟨p, rfl, hp, h4⟩
    have K4 := (Kn.ofDR hb1 (Nat.le_refl _) (D3.add h4)).sel [0, 1, 2, 3] 99 (by decide) (by decide)
    clear D3 h4 hp
    have hx := cellsE_get (e0 :: R) 0 e0 rfl
    by_cases p0 : p = 0
    · subst p0
      have c3 := K4.rowCell (hx 3 _ rfl)
      obtain ⟨c3, f3⟩ := c3
      have j0 : (0 : Int) < (rn : Int) := i1
      have K6 : Kn w [.row (.slice (some ⟨g, 0, none⟩) rn y) 27 5 rn (cellsE ((⟨⟨e0.t.num, e0.t.name, e0.t.maker, wrap64 (e0.t.year + 1), e0.t.words⟩, e0.X, e0.x⟩ : EE) :: R)), bunA (rowsE ((⟨⟨e0.t.num, e0.t.name, e0.t.maker, wrap64 (e0.t.year + 1), e0.t.words⟩, e0.X, e0.x⟩ : EE) :: R)), .row (.slice X M.length x) 27 5 M.length (cellsE M), bunA (rowsE M)] _ := K4.rowSt 3 (.int .i64 (wrap64 (e0.t.year + 1)))
      go_wp2_with fail
      go_ret2
      have hs0 := HM'.out e0 (List.mem_cons_self ..)
      exact ⟨X, M.length, x, M.map EE.t, _, rn, y, _, rfl, (K6.sel [2, 3] 99 (by decide) (by decide)).rlE' rfl, (K6.sel [0, 1] 99 (by decide) (by decide)).rlE' HRN.out, ⟨hl, hl'⟩, LsOk.sm HM.out, sm_cons HM'.out ⟨hs0.sm.name, hs0.sm.maker, hs0.sm.words, hs0.sm.len⟩, K6.below⟩
    have z0 : (p == 0) = false := beq_eq_false_iff_ne.2 p0
    by_cases p1 : p = 1
    · subst p1
      obtain ⟨c4, f4⟩ := K4.rowCell (hx 4 _ rfl)
      have hs0 := HM'.out e0 (List.mem_cons_self ..)
      have hw9 := hs0.wl
      obtain ⟨ws', hws'⟩ : ∃ l, e0.t.words ++ [(⟨#[120]⟩ : ByteArray)] = l := ⟨_, rfl⟩
      have HWZ := Lib.hid hws'
      have HSM : Hid (SmE ⟨e0.t.num, e0.t.name, e0.t.maker, e0.t.year, ws'⟩) := by
        simp only [Hid]
        refine ⟨hs0.sm.name, hs0.sm.maker, fun s hs => ?_, ?_⟩
        · simp only [← hws'] at hs
          rcases List.mem_append.1 hs with h | h
          · exact hs0.sm.words s h
          · rw [List.mem_singleton.1 h]; decide
        · simp only [← hws', List.length_append, List.length_singleton]; omega
      clear hws' hs0
      have Kx := (((K4.front 1 rfl).bunAOut).al [.string ⟨#[120]⟩] 9)
      go_wp2_with (at_builtin; refine kn_pushS rfl _ _ rfl _ e0.t.words rfl rfl Kx (by omega) ?_; intro v5 w5 K5; rw [HWZ.out] at K5; obtain ⟨A5, c5, rfl⟩ := row_form K5.at0; clear c4 f4; obtain ⟨c4, f4⟩ := (K5.front 2 rfl).rowCell (hx 4 _ rfl))
      have K6 := (K5.front 2 rfl).rowSt 4 (.slice A5 ws'.length c5)
      have K7 : Kn w [bunA (rowsE ((⟨⟨e0.t.num, e0.t.name, e0.t.maker, e0.t.year, ws'⟩, A5, c5⟩ : EE) :: R)), .row (.slice (some ⟨g, 0, none⟩) rn y) 27 5 rn (cellsE ((⟨⟨e0.t.num, e0.t.name, e0.t.maker, e0.t.year, ws'⟩, A5, c5⟩ : EE) :: R)), .row (.slice X M.length x) 27 5 M.length (cellsE M), bunA (rowsE M)] _ :=
        (Kn.bunAAdd (e := rowSN A5 ws'.length c5 ws') (es := rowsE R) (K6.sel [1, 2, 0, 3, 4] 99 (by decide) (by decide))).bunAPerm List.perm_append_comm
      go_ret2
      exact ⟨X, M.length, x, M.map EE.t, _, rn, y, _, rfl, (K7.sel [2, 3] 99 (by decide) (by decide)).rlE' rfl, (K7.sel [1, 0] 99 (by decide) (by decide)).rlE' HRN.out, ⟨hl, hl'⟩, LsOk.sm HM.out, sm_cons HM'.out HSM.out, K7.below⟩
    have z1 : (p == 1) = false := beq_eq_false_iff_ne.2 p1
    by_cases p2 : p = 2
    · subst p2
      have hcap := K4.capB
      have hR := (K4.sel [0, 1] 99 (by decide) (by decide)).rlE' HRN.out
      by_cases hy1 : y = 1
      · subst hy1
        have h1 : rn = 1 := by omega
        have h2 : (1 : Int) ≤ (rn : Int) := by omega
        clear HRN
        subst h1
        go_wp2_with fail
        go_ret2
        exact ⟨X, M.length, x, M.map EE.t, _, 0, _, [], rfl, (K4.sel [2, 3] 99 (by decide) (by decide)).rlE' rfl, ⟨rfl, fun h => absurd h (Nat.lt_irrefl 0)⟩, ⟨hl, by omega⟩, LsOk.sm HM.out, fun x hx => (by cases hx), K4.below⟩
      · have h2 : (1 : Int) ≤ (rn : Int) := by omega
        have h3 : ¬ (1 : Int) = (y : Int) := by omega
        have h4 : ¬ (y : Int) = 1 := by omega
        have h5 : (rn : Int) ≤ (y : Int) := by have := hcap.1; omega
        have h6 : (1 : Int) ≤ (y : Int) := by omega
        have hD := hR.dropE (k := 1) (by omega)
        rw [add_zero_block] at hD
        go_wp2_with fail
        go_ret2
        exact ⟨X, M.length, x, M.map EE.t, _, rn - 1, _, _, rfl, (K4.sel [2, 3] 99 (by decide) (by decide)).rlE' rfl, hD, ⟨hl, by omega⟩, LsOk.sm HM.out, fun x hx => LsOk.sm HM'.out x (List.mem_of_mem_drop hx), K4.below⟩
    have z2 : (p == 2) = false := beq_eq_false_iff_ne.2 p2
    go_wp2_with fail
    go_ret2
    exact ⟨X, M.length, x, M.map EE.t, _, rn, y, (e0 :: R).map EE.t, rfl, (K4.sel [2, 3] 99 (by decide) (by decide)).rlE' rfl, (K4.sel [0, 1] 99 (by decide) (by decide)).rlE' HRN.out, ⟨hl, hl'⟩, LsOk.sm HM.out, LsOk.sm HM'.out, K4.below⟩
end Go.Proofs.YtgljafiegpjlkaaGreatDoor

namespace Go.Proofs.YtgljafiegpjlkaaGreatDoor
open Go.RowKit Go.Sort
/-! reading a catalogue's text: plainly -/
theorem lineR_short {bs : List UInt8} {ws : List ByteArray} (h : ws.map strB = splitB 32 bs) (h4 : ws.length < 4) : lineR bs = none := by
  unfold lineR
  rw [← h]
  rcases ws with _ | ⟨a, _ | ⟨b, _ | ⟨c, _ | ⟨d, t⟩⟩⟩⟩
  · rfl
  · rfl
  · rfl
  · rfl
  · exact absurd h4 (by simp only [List.length_cons]; omega)
theorem map_mk (l : List ByteArray) : l.map (mkS ∘ strB) = l := by
  rw [show (mkS ∘ strB) = id from funext mkS_strB]; simp
theorem lineR_words {bs : List UInt8} {ws : List ByteArray} (h : ws.map strB = splitB 32 bs) (h0 : 0 < ws.length) (h1 : 1 < ws.length) (h2 : 2 < ws.length) (h3 : 3 < ws.length) :
    lineR bs = if (rdDec (strB ws[0])).isSome && (rdDec (strB ws[3])).isSome then some ⟨rdN (strB ws[0]), ws[1], ws[2], rdN (strB ws[3]), ws.drop 4⟩ else none := by
  unfold lineR
  rw [← h]
  rcases ws with _ | ⟨a, _ | ⟨b, _ | ⟨c, _ | ⟨d, t⟩⟩⟩⟩
  · simp at h0
  · simp at h1
  · simp at h2
  · simp at h3
  · simp only [List.map_cons, mkS_strB, List.map_map, map_mk]
    rfl
/-- what the reading of a catalogue returns -/
def RERet (R : Bool) (L : List Etr) (w : World) (e : Ending) (w' : World) : Prop := ∃ X x, ∃ M : List EE, e = .returned (.tuple #[.slice X M.length x, .bool R]) ∧ M.map EE.t = L ∧ Kn w [.row (.slice X M.length x) 27 5 M.length (cellsE M), bunA (rowsE M)] w'
theorem RERet.none {w w' : World} (h : Below w.heap.size w w') : RERet false [] w (.returned (.tuple #[.slice none 0 0, .bool false])) w' :=
  ⟨Option.none, 0, [], rfl, rfl, ((((Kn.nil w).keep h).bunANil).nilRow 27 5)⟩
theorem reads_no {bs : List UInt8} (h : readsB bs = false) : readE bs = [] := by unfold readE; rw [h]; rfl
theorem reads_ends {bs : List UInt8} (h : endsB bs = false) : readsB bs = false := by unfold readsB; rw [h]; rfl
theorem reads_bad {bs l : List UInt8} (h : l ∈ linesR bs) (h2 : lineR l = none) : readsB bs = false := by
  unfold readsB
  have : (linesR bs).all (fun l => (lineR l).isSome) = false := by
    rw [List.all_eq_false]
    exact ⟨l, h, by rw [h2]; simp⟩
  rw [this]; simp
theorem reads_all {bs : List UInt8} {L : List Etr} (he : endsB bs = true) (h : (linesR bs).map lineR = L.map some) : readsB bs = entsOk L ∧ (entsOk L = true → readE bs = L ∧ txtE L = bs) := by
  obtain ⟨e1, e2⟩ := fm_lines h
  have h3 : readsB bs = entsOk L := by unfold readsB; rw [he, e1, e2]; simp
  refine ⟨h3, fun h4 => ⟨?_, ?_⟩⟩
  · unfold readE; rw [h3, h4, e1]; rfl
  · refine txt_back (ls := linesR bs) ?_ h
    unfold endsB at he
    unfold linesR
    have h5 := of_decide_eq_true he
    have h6 := splitB_ne 10 bs
    have h7 := List.dropLast_concat_getLast h6
    rw [List.getLast?_eq_some_getLast h6] at h5
    injection h5 with h5
    rw [h5] at h7
    exact h7.symm
theorem lines_len (bs : List UInt8) : (linesR bs).length ≤ bs.length := by
  unfold linesR
  have := splitB_len 10 bs
  rw [List.length_dropLast]; omega
theorem lines_mem {bs l : List UInt8} (h : l ∈ linesR bs) : l.length ≤ bs.length := split_mem_len 10 bs l ((List.dropLast_sublist _).subset h)
section
variable {o : Oper} {a : Act} {Q : Exit → Act → World → Prop} {w0 w : World} {m : List Ent} {K : Act → World → Prop} {E : Prop} {ops : Array Oper}
set_option maxRecDepth 100000 in
theorem kn_stepRS (hgd : o.guard = none) (s x : Operand) (ho : o.op = .call { callee := .builtin .append, args := #[s, x], argTypes := #[25, 25] })
    (v : Value) (xs : List ByteArray) (hs : a.eval s = v) {ad : Addr} {n c : Nat} {ss : List ByteArray} (hx : a.eval x = .slice (some ad) n c) (hr : RL StrM 1 w (some ad) n ss)
    (hK : Kn w0 (rowS v xs :: m) w) (hl : xs.length + n ≤ 10000000)
    (h : ∀ v' w', Kn w0 (rowS v' (xs ++ ss) :: m) w' → K (a.put o.dst v') w') : if Region.wanted o (yielded ops a.tmps) = true then Oper.wp Tryz.prog o a w K Q else E := by
  have hw : Region.wanted o (yielded ops a.tmps) = true := by simp [Region.wanted, hgd]
  rw [if_pos hw]
  have hl1 := hr.1
  obtain ⟨i0, hi, hz0, hz1, hz2⟩ := info_parts tpS.info
  obtain ⟨v', w', hrun, h2, h3, _, h5⟩ := run_append_own_at (P := Tryz.prog) w 0 25 o.type 9 i0 (.string ⟨#[]⟩) 1 16 tpS.under hi hz0 hz1 hz2 tpS.zc tpS.pos v xs.length (xs.map Value.string) hK.at0 ad n c (ss.map Value.string) (by rw [List.length_map, hl1, Nat.mul_one]) (fun j u hu => by
      rw [List.getElem?_map] at hu
      obtain ⟨y, hy, rfl⟩ := Option.map_eq_some_iff.1 hu
      have hj : j < ss.length := (List.getElem?_eq_some_iff.1 hy).1
      obtain ⟨ad', e, -, hkl, hc⟩ := hr.at_ (show j < n by omega)
      injection e with e
      subst e
      unfold StrM at hc
      rw [Nat.mul_one] at hc
      rw [hc]
      congr 2
      exact (List.getElem?_eq_some_iff.1 hy).2) (by simp [Value.oneCell']) (by simp only [maxLen]; omega) (by omega) (Nat.zero_le _)
  unfold Oper.wp execOp
  simp only [ho, resolve, invoke, builtin, Sem.run_bind, Sem.run_pure, Result.andThen_ok, List.map_toArray, List.map_cons, List.map_nil, hs, hx, hrun]
  refine h v' w' ?_
  have hK' := hK.grow h3 h2 h5
  unfold rowS
  rw [List.length_append, hl1, List.map_append]
  exact hK'
end
end Go.Proofs.YtgljafiegpjlkaaGreatDoor

namespace Go.Proofs.YtgljafiegpjlkaaGreatDoor
open Go.RowKit Go.Sort
theorem Kn.rowS_rl {w0 w : World} {m : List Ent} {g n c j : Nat} {ss : List ByteArray} (h : Kn w0 (rowSN (some ⟨g, 0, none⟩) n c ss :: m) w) (hn : ss.length = n) (hj : j ≤ n) : RL StrM 1 w (some ⟨g, j, none⟩) (n - j) (ss.drop j) := by
  subst hn
  refine ⟨by rw [List.length_drop], fun h0 => ⟨_, rfl, ?_, fun k hk => ?_⟩⟩
  · obtain ⟨-, g', e, -, -, h3⟩ := Kn.rowS_at (k := 0) h (by omega)
    injection e with e
    injection e with e
    subst e; exact h3
  · rw [List.length_drop] at hk
    obtain ⟨-, g', e, h2, -⟩ := Kn.rowS_at (k := j + k) h (by omega)
    injection e with e
    injection e with e
    subst e
    unfold StrM
    rw [List.getElem_drop, Nat.mul_one]
    exact (congrArg w.cell? (show (Addr.mk g j none).add k = ⟨g, j + k, none⟩ from by unfold Addr.add; split <;> simp_all)).trans h2
theorem Kn.rowS_c12 {w0 w : World} {m : List Ent} {g n c : Nat} {ss : List ByteArray} {B C : ByteArray} (h : Kn w0 (rowSN (some ⟨g, 0, none⟩) n c ss :: m) w) (hn : ss.length = n) (hb : ss[1]? = some B ∧ ss[2]? = some C) :
    w.cell? ⟨g, 1, none⟩ = some (.string B) ∧ w.cell? ⟨g, 2, none⟩ = some (.string C) := by
  subst hn
  obtain ⟨h1, e1⟩ := List.getElem?_eq_some_iff.1 hb.1
  obtain ⟨h2, e2⟩ := List.getElem?_eq_some_iff.1 hb.2
  have d1 := Kn.rowS_get (k := 1) h h1
  have d2 := Kn.rowS_get (k := 2) h h2
  rw [e1] at d1
  rw [e2] at d2
  exact ⟨d1, d2⟩
theorem mem_wdE_len {ws : List ByteArray} {s : ByteArray} (h : s ∈ ws) : s.size ≤ (wdE ws).length := by
  induction ws with
  | nil => cases h
  | cons a t ih =>
    have h3 : (wdE (a :: t)).length = 1 + a.size + (wdE t).length := by simp [wdE, strB_len]; omega
    rcases List.mem_cons.1 h with rfl | h
    · omega
    · have := ih h; omega
theorem wdE_len_ge (ws : List ByteArray) : ws.length ≤ (wdE ws).length := by
  induction ws with
  | nil => exact Nat.zero_le _
  | cons a t ih =>
    have h3 : (wdE (a :: t)).length = 1 + a.size + (wdE t).length := by simp [wdE, strB_len]; omega
    rw [List.length_cons]; omega
theorem smE_line {x : Etr} (h : (lineE x).length ≤ 1000000) : SmE x := by
  unfold lineE lnE at h
  simp only [List.length_append, List.length_cons, strB_len] at h
  exact ⟨by omega, by omega, fun s hs => by have := mem_wdE_len hs; omega, by have := wdE_len_ge x.words; omega⟩
theorem sm_all {bs : List UInt8} {L : List Etr} (hb : bs.length ≤ 1000000) (h : (linesR bs).map lineR = L.map some) : ∀ x ∈ L, SmE x := fun x hx => by
  have h1 : some x ∈ (linesR bs).map lineR := by rw [h]; exact List.mem_map_of_mem hx
  obtain ⟨l, hl, e⟩ := List.mem_map.1 h1
  refine smE_line ?_
  rw [lineR_back e]
  exact Nat.le_trans (lines_mem hl) hb
theorem rl_nil {w : World} {A : Option Addr} : RL StrM 1 w A 0 [] := ⟨rfl, fun h => absurd h (Nat.lt_irrefl 0)⟩
set_option maxRecDepth 100000 in
set_option maxHeartbeats 6400000 in
theorem ReadEntries_any (s : ByteArray) (w : World) (hs : s.size ≤ 100000) (ht : TB w) :
    Calls Tryz.prog 19 #[.string s] w (RERet (readsB (strB s)) (readE (strB s)) w) := by
  have HZ := Lib.hid hs
  have HT := Lib.hid (fun W (hW : Below w.heap.size w W) => ht.below hW)
  have KT := Lib.hid (textLines_any s w (by omega))
  clear ht
  rcases he : endsB (strB s) with _ | _
  · have HE := Lib.hid he
    rw [he] at KT
    clear he
    go_enter Tryz.func19, Tryz.ntmps19
    go_wp2_with (with_reducible refine KT.out.mono ?_; rintro e w1 ⟨LA, lc, ss, rfl, hss, hsl, K1⟩; clear KT)
    go_ret2
    have HF := Lib.hid (show readsB (strB s) = false from (reads_ends HE.out))
    rw [HF.out, reads_no HF.out]
    exact RERet.none K1.below
  have HE := Lib.hid he
  rw [he] at KT
  clear he
  go_enter Tryz.func19, Tryz.ntmps19
  go_upto_region 4 with (with_reducible refine KT.out.mono ?_; rintro e w1 ⟨LA, lc, ss, rfl, hss, hsl, K1⟩; clear KT)
  have HSS := Lib.hid (hss (by first | rfl | trivial))
  clear hss
  have HSL := Lib.hid hsl
  have hs1 : ss.length ≤ 100000 := by omega
  clear hsl
  have K2 := ((K1.bunANil).al [] 27).litRow (size := 5) (n := 0) rfl (by decide)
  obtain ⟨g, hg⟩ : ∃ g, w1.heap.size = g := ⟨_, rfl⟩
  rw [hg] at K2
  go_upto_region 5 with fail
  try rw [hg]
  refine Code.wp.kn K2 ?_; clear K1 K2 hg; intro w2 K2
  go_wp2_with fail
  go_loopw [24, 6] (fun ii vv wr => ∃ (k : Nat) (M : List EE), k ≤ ss.length ∧ ii = .int .i64 k ∧ Hid (((ss.take k).map strB).map lineR = (M.map EE.t).map some) ∧ Kn w [.row vv 27 5 M.length (cellsE M), bunA (rowsE M), rowS (.slice LA ss.length lc) ss] wr) (fun ii _ _ => ss.length - (intOf ii).toNat)
  case atStart => exact ⟨0, [], Nat.zero_le _, rfl, Lib.hid rfl, K2⟩
  case round =>
    clear K2
    obtain ⟨k, M, hk, rfl, HM, hK⟩ := hrel
    have hml : M.length = k := by
      have h1 := congrArg List.length HM.out
      simp only [List.length_map, List.length_take] at h1
      omega
    by_cases hkn : k < ss.length
    · obtain ⟨l, hl⟩ : ∃ l, ss[k] = l := ⟨_, rfl⟩
      have htk := List.take_succ_eq_append_getElem hkn
      rw [hl] at htk
      have HTK := Lib.hid htk
      obtain ⟨-, lg, hla, hlc, -⟩ := (hK.front 2 rfl).rowS_at hkn
      rw [hl] at hlc
      have HMEM : Hid (strB l ∈ linesR (strB s)) := by
        simp only [Hid]
        rw [← HSS.out, ← hl]
        exact List.mem_map_of_mem (List.getElem_mem hkn)
      have hls : l.size ≤ 100000 := by
        have h1 := lines_mem HMEM.out
        rw [strB_len, strB_len] at h1
        have := HZ.out; omega
      have KP := Lib.hid (parts_any l wr (by omega))
      have i0 : (0 : Int) ≤ (k : Int) := by omega
      have i1 : (k : Int) < (ss.length : Int) := by omega
      subst hla
      clear htk hl
      go_upto_region 9 with (with_reducible refine KP.out.mono ?_; rintro e w3 ⟨WA, wc, ws, rfl, hws, K3⟩; clear KP)
      have K4 := hK.join K3
      clear K3 hK hlc
      have hwl : ws.length ≤ 100001 := by
        have h1 := congrArg List.length hws
        have h2 := splitB_len 32 (strB l)
        rw [List.length_map] at h1
        rw [strB_len] at h2
        omega
      by_cases h4 : ws.length < 4
      · have i4 : (ws.length : Int) < 4 := by omega
        have HLN := Lib.hid (lineR_short hws h4)
        go_wp2_with fail
        go_ret2
        have HF := Lib.hid (show readsB (strB s) = false from (reads_bad HMEM.out HLN.out))
        rw [HF.out, reads_no HF.out]
        exact RERet.none K4.below
      have i4 : ¬ (ws.length : Int) < 4 := by omega
      have HLW0 := lineR_words hws (by omega) (by omega) (by omega) (by omega)
      have c0 := K4.rowS_at (k := 0) (by omega)
      obtain ⟨-, wg, hwa, d0, -, hlt3⟩ := c0
      subst hwa
      have d1 := K4.rowS_get (k := 1) (by omega)
      have d2 := K4.rowS_get (k := 2) (by omega)
      have d3 := K4.rowS_get (k := 3) (by omega)
      have z0 : (ws[0]'(by omega)).size ≤ 100000 := by
        have h1 := split_mem_len 32 (strB l) (strB (ws[0]'(by omega))) (by rw [← hws]; exact List.mem_map_of_mem (List.getElem_mem _))
        rw [strB_len, strB_len] at h1; omega
      have z3 : (ws[3]'(by omega)).size ≤ 100000 := by
        have h1 := split_mem_len 32 (strB l) (strB (ws[3]'(by omega))) (by rw [← hws]; exact List.mem_map_of_mem (List.getElem_mem _))
        rw [strB_len, strB_len] at h1; omega
      obtain ⟨wa, hwa⟩ : ∃ x, ws[0]'(by omega) = x := ⟨_, rfl⟩
      obtain ⟨B, hwb⟩ : ∃ x, ws[1]'(by omega) = x := ⟨_, rfl⟩
      obtain ⟨C, hwc⟩ : ∃ x, ws[2]'(by omega) = x := ⟨_, rfl⟩
      obtain ⟨wd, hwd⟩ : ∃ x, ws[3]'(by omega) = x := ⟨_, rfl⟩
      rw [hwa] at d0 z0 HLW0
      rw [hwb] at d1 HLW0
      rw [hwc] at d2 HLW0
      rw [hwd] at d3 z3 HLW0
      have HLW := Lib.hid HLW0
      have HBC := Lib.hid (show ws[1]? = some B ∧ ws[2]? = some C from ⟨by rw [← hwb]; exact List.getElem?_eq_getElem _, by rw [← hwc]; exact List.getElem?_eq_getElem _⟩)
      clear hwa hwb hwc hwd HLW0 hws
      have HD := Lib.hid (fun W (hW : Below w3.heap.size w3 W) => show W.cell? ⟨wg, 1, none⟩ = some (.string B) ∧ W.cell? ⟨wg, 2, none⟩ = some (.string C) ∧ W.cell? ⟨wg, 3, none⟩ = some (.string wd) from ⟨(hW.cell (p := ⟨wg, 1, none⟩) hlt3).trans d1, (hW.cell (p := ⟨wg, 2, none⟩) hlt3).trans d2, (hW.cell (p := ⟨wg, 3, none⟩) hlt3).trans d3⟩)
      obtain ⟨nn, hnn⟩ : ∃ q, ws.length = q := ⟨_, rfl⟩
      have HNN := Lib.hid hnn
      have K5 : Kn w [rowSN (some ⟨wg, 0, none⟩) nn wc ws, .row u6 27 5 M.length (cellsE M), bunA (rowsE M), rowS (.slice (some ⟨lg, 0, none⟩) ss.length lc) ss] w3 := by rw [← hnn]; exact K4
      have hcap : nn ≤ wc := K5.capG
      have HRS := Lib.hid (K5.rowS_rl (j := 4) hnn (by omega))
      rw [hnn] at h4 hwl i4
      try rw [hnn]
      try simp only [hnn]
      clear hnn K4
      obtain ⟨RS, hRS⟩ : ∃ q, ws.drop 4 = q := ⟨_, rfl⟩
      rw [hRS] at HLW HRS
      have HRSE := Lib.hid hRS
      clear hRS
      have j0 : (0 : Int) < (nn : Int) := by omega
      have j1 : (1 : Int) < (nn : Int) := by omega
      have j2 : (2 : Int) < (nn : Int) := by omega
      have j3 : (3 : Int) < (nn : Int) := by omega
      have KR0 := Lib.hid (ReadDecimal_any wa w3 (by omega) (HT.out _ K5.below))
      go_upto_region 12 with (with_reducible refine KR0.out.mono ?_; rintro e w4 ⟨rfl, hw4⟩; clear KR0)
      have K6 := K5.keep hw4
      obtain ⟨-, -, e3⟩ := HD.out _ hw4
      have KR3 := Lib.hid (ReadDecimal_any wd w4 (by omega) (HT.out _ K6.below))
      clear d0 d1 d2 d3
      go_upto_region 13 with (with_reducible refine KR3.out.mono ?_; rintro e w5 ⟨rfl, hw5⟩; clear KR3)
      have K7 := K6.keep hw5
      have hw35 := hw4.trans (hw5.mono hw4.size)
      obtain ⟨e1, e2, -⟩ := HD.out _ hw35
      clear K5 K6 hw4 hw5 e3
      obtain ⟨y0, hy0⟩ : ∃ y, rdN (strB wa) = y := ⟨_, rfl⟩
      obtain ⟨y3, hy3⟩ : ∃ y, rdN (strB wd) = y := ⟨_, rfl⟩
      rw [hy0, hy3] at HLW
      try rw [hy0, hy3]
      try simp only [hy0, hy3]
      clear hy0 hy3
      rcases hf0 : (rdDec (strB wa)).isSome with _ | _
      · have HLN : Hid (lineR (strB l) = none) := by simp only [Hid]; rw [HLW.out, hf0]; rfl
        try rw [hf0]
        try simp only [hf0]
        go_wp2_with fail
        go_ret2
        have HF := Lib.hid (show readsB (strB s) = false from (reads_bad HMEM.out HLN.out))
        rw [HF.out, reads_no HF.out]
        exact RERet.none K7.below
      rcases hf3 : (rdDec (strB wd)).isSome with _ | _
      · have HLN : Hid (lineR (strB l) = none) := by simp only [Hid]; rw [HLW.out, hf0, hf3]; rfl
        try rw [hf0, hf3]
        try simp only [hf0, hf3]
        go_wp2_with fail
        go_ret2
        have HF := Lib.hid (show readsB (strB s) = false from (reads_bad HMEM.out HLN.out))
        rw [HF.out, reads_no HF.out]
        exact RERet.none K7.below
      have HLN : Hid (lineR (strB l) = some ⟨y0, B, C, y3, RS⟩) := by simp only [Hid]; rw [HLW.out, hf0, hf3]; rfl
      try rw [hf0, hf3]
      try simp only [hf0, hf3]
      clear hf0 hf3 HLW
      clear hw35 hlt3
      have j4 : (4 : Int) ≤ (nn : Int) := by omega
      have j5 : (nn : Int) ≤ (wc : Int) := by omega
      have j6 : (4 : Int) ≤ (wc : Int) := by omega
      have HG := Lib.hid (And.intro e1 e2)
      have HGd : Hid (w5.drew.cell? ⟨wg, 1, none⟩ = some (.string B) ∧ w5.drew.cell? ⟨wg, 2, none⟩ = some (.string C)) := HG
      have Ka := ((K7.al [] 9).litRow (n := 0) (size := 1) rfl (by decide)).drew
      have HGa := Lib.hid ((Ka.front 1 rfl).rowS_c12 HNN.out HBC.out)
      have HGo := HGd
      by_cases hc4 : wc = 4
      · obtain rfl : nn = 4 := by omega
        have HR0 : RS = [] := by rw [← HRSE.out]; exact List.drop_eq_nil_of_le (by have := HNN.out; omega)
        subst HR0
        subst hc4
        have K9 := (((K7.al [] 9).litRow (n := 0) (size := 1) rfl (by decide)).al [.int .i64 y0, .string B, .string C, .int .i64 y3, .slice (some ⟨w5.heap.size, 0, none⟩) 0 0] 27).drew
        simp only [World.size_alloc] at K9
        clear HGo
        have HGo := Lib.hid ((K9.front 2 rfl).rowS_c12 HNN.out HBC.out)
        clear j0 j1 j2 j3 j4 j5 j6 i4
        clear e1 e2
        go_upto_region 15 with fail
        go_region_held3 (fun W => W.cell? ⟨wg, 1, none⟩ = some (.string B) ∧ W.cell? ⟨wg, 2, none⟩ = some (.string C)) (first | with_reducible exact HGd.out | with_reducible exact HGa.out | with_reducible exact HGo.out | exact HGd.out | exact HGa.out | exact HGo.out) (first

          | (refine kn_stepE rfl _ _ rfl _ M ⟨⟨y0, B, C, y3, []⟩, (some ⟨w5.heap.size, 0, none⟩), 0⟩ rfl rfl (K9.sel [0, 3, 4, 1, 2, 5] 6 (by decide) (by decide)) (by omega) ?_; intro v7 w7 K10; clear HGo; have HGo := Lib.hid ((K10.front 2 rfl).rowS_c12 HNN.out HBC.out)))
        all_goals
          have HMN : Hid (((ss.take (k + 1)).map strB).map lineR = ((M ++ [(⟨⟨y0, B, C, y3, []⟩, (some ⟨w5.heap.size, 0, none⟩), 0⟩ : EE)]).map EE.t).map some) := by
            simp only [Hid]
            rw [HTK.out, List.map_append, List.map_append, HM.out, List.map_append, List.map_append]
            simp only [List.map_cons, List.map_nil, HLN.out]
          clear HGo HGa HGd
          go_wp2_with fail
          go_roundw
          case rel => exact ⟨k + 1, M ++ [(⟨⟨y0, B, C, y3, []⟩, (some ⟨w5.heap.size, 0, none⟩), 0⟩ : EE)], by omega, by go_num, HMN, K10.sel [0, 1, 3] 99 (by decide) (by decide)⟩
          case measure => simp only [intOf]; omega
      · have hc5 : ¬ (wc : Int) = 4 := by omega
        have hc6 : ¬ (4 : Int) = (wc : Int) := by omega
        have HRSa := Lib.hid ((Ka.front 1 rfl).rowS_rl (j := 4) HNN.out (by omega))
        rw [HRSE.out] at HRSa
        clear e1 e2
        go_upto_region 15 with fail
        go_region_held3 (fun W => W.cell? ⟨wg, 1, none⟩ = some (.string B) ∧ W.cell? ⟨wg, 2, none⟩ = some (.string C)) (first | with_reducible exact HGd.out | with_reducible exact HGa.out | with_reducible exact HGo.out | exact HGd.out | exact HGa.out | exact HGo.out) (first
          | (refine kn_stepRS rfl _ _ rfl _ [] rfl rfl HRSa.out Ka (by simp; omega) ?_; intro v6 w6 K8; rw [List.nil_append] at K8; obtain ⟨X, x, rfl⟩ := row_form K8.at0; have K9 := K8.al [.int .i64 y0, .string B, .string C, .int .i64 y3, .slice X RS.length x] 27; clear HGo; have HGo := Lib.hid ((K8.front 1 rfl).rowS_c12 HNN.out HBC.out); clear HGa; have HGa := Lib.hid ((K9.front 2 rfl).rowS_c12 HNN.out HBC.out))
          | (refine kn_stepE rfl _ _ rfl _ M ⟨⟨y0, B, C, y3, RS⟩, X, x⟩ rfl rfl (K9.sel [0, 3, 4, 1, 2, 5] 6 (by decide) (by decide)) (by omega) ?_; intro v7 w7 K10; clear HGo; have HGo := Lib.hid ((K10.front 2 rfl).rowS_c12 HNN.out HBC.out)))
        all_goals
          have HMN : Hid (((ss.take (k + 1)).map strB).map lineR = ((M ++ [(⟨⟨y0, B, C, y3, RS⟩, X, x⟩ : EE)]).map EE.t).map some) := by
            simp only [Hid]
            rw [HTK.out, List.map_append, List.map_append, HM.out, List.map_append, List.map_append]
            simp only [List.map_cons, List.map_nil, HLN.out]
          clear HGo HGa HGd
          go_wp2_with fail
          go_roundw
          case rel => exact ⟨k + 1, M ++ [(⟨⟨y0, B, C, y3, RS⟩, X, x⟩ : EE)], by omega, by go_num, HMN, K10.sel [0, 1, 3] 99 (by decide) (by decide)⟩
          case measure => simp only [intOf]; omega
    · have i1 : ¬ (k : Int) < (ss.length : Int) := by omega
      obtain rfl : k = ss.length := by omega
      have HALL : Hid ((linesR (strB s)).map lineR = (M.map EE.t).map some) := by
        simp only [Hid]
        rw [← HSS.out, ← HM.out, List.take_length]
      have HRD := Lib.hid (reads_all HE.out HALL.out)
      have hM1 : M.length ≤ 9223372036854775807 := by omega
      clear hml
      obtain ⟨A, c, rfl⟩ := row_form hK.at0
      have hrl := ((hK.sel [0, 1] 99 (by decide) (by decide)).rlE)
      obtain ⟨A', c', e, hRL⟩ := hrl
      injection e with e1 e2 e3
      rw [← e1] at hRL
      clear e1 e2 e3 A' c'
      have HRL := Lib.hid (fun W (hW : Below wr.heap.size wr W) => hRL.below steady_EtrM hW)
      have hSM : ∀ x ∈ M.map EE.t, SmE x := sm_all (by rw [strB_len]; have := HZ.out; omega) HALL.out
      have HSM := Lib.hid hSM
      have KV := Lib.hid (ValidEntries_any A M.length c (M.map EE.t) wr hRL hM1 hSM)
      have KE := Lib.hid (fun W (hW : Below wr.heap.size wr W) => EntriesText_any A M.length c (M.map EE.t) W (HRL.out W hW) hM1 HSM.out (HT.out _ (hK.keep hW).below))
      clear hRL hSM HRL
      rcases hok : entsOk (M.map EE.t) with _ | _
      · rw [hok] at KV
        have HF := Lib.hid (show readsB (strB s) = false from by rw [HRD.out.1]; exact hok)
        clear hok
        go_wp2_with (with_reducible refine KV.out.mono ?_; rintro e w8 ⟨rfl, hw8⟩)
        go_ret2
        rw [HF.out, reads_no HF.out]
        exact RERet.none (hK.keep hw8).below
      · have HF := Lib.hid (show readsB (strB s) = true from by rw [HRD.out.1]; exact hok)
        have HG := Lib.hid (HRD.out.2 hok)
        have he : entT (M.map EE.t) = strB s := by unfold entT; rw [if_pos hok]; exact HG.out.2
        rw [hok] at KV
        rw [he, mkS_strB] at KE
        have hxx : (s.toList == s.toList) = true := by simp
        have hxy : (s.toList != s.toList) = false := by simp
        clear hok he
        go_wp2_with (first | (with_reducible refine KV.out.mono ?_; rintro e w8 ⟨rfl, hw8⟩; clear KV) | (with_reducible refine (KE.out _ hw8).mono ?_; rintro e w9 ⟨rfl, hw9⟩; clear KE))
        go_ret2
        rw [HF.out, HG.out.1]
        exact ⟨A, c, M, rfl, rfl, (((hK.keep hw8).keep hw9).sel [0, 1] 99 (by decide) (by decide))⟩
end Go.Proofs.YtgljafiegpjlkaaGreatDoor

namespace Go.Proofs.YtgljafiegpjlkaaGreatDoor
open Go.RowKit Go.Sort
theorem Kn.rowSN_at {w0 w : World} {m : List Ent} {A : Option Addr} {n c : Nat} {ss : List ByteArray} (h : Kn w0 (rowSN A n c ss :: m) w) (hn : ss.length = n) {k : Nat} (hk : k < n) :
    ∃ g, A = some ⟨g, 0, none⟩ ∧ w.cell? ⟨g, k, none⟩ = some (.string (ss[k]'(by omega))) ∧ g < w.heap.size := by
  subst hn
  obtain ⟨-, g, h1, h2, -, h3⟩ := Kn.rowS_at (k := k) h hk
  exact ⟨g, h1, h2, h3⟩
theorem split_last {bs : List UInt8} {ss : List ByteArray} (h : ss.map strB = splitB 10 bs) :
    ∃ (pn : Nat) (lw : ByteArray), ss.length = pn + 1 ∧ ss[pn]? = some lw ∧ endsB bs = decide (strB lw = []) ∧ (ss.take pn).map strB = linesR bs ∧ pn ≤ bs.length := by
  rcases List.eq_nil_or_concat ss with h0 | ⟨init, lw, h0⟩
  · rw [h0] at h
    exact absurd h.symm (splitB_ne 10 bs)
  · rw [List.concat_eq_append] at h0
    subst h0
    have h2 := splitB_len 10 bs
    refine ⟨init.length, lw, by simp, by simp, ?_, ?_, ?_⟩
    · unfold endsB
      rw [← h, List.map_append]
      simp
    · unfold linesR
      rw [← h, List.map_append]
      simp
    · rw [← h] at h2; simp at h2; omega
theorem reads_long {bs : List UInt8} (h : 50 < (linesR bs).length) : readsB bs = false := by
  unfold readsB
  rcases ha : (linesR bs).all (fun l => (lineR l).isSome) with _ | _
  · simp
  · have h1 : ((linesR bs).filterMap lineR).length = (linesR bs).length := by
      generalize linesR bs = ls at ha h ⊢
      clear h
      induction ls with
      | nil => rfl
      | cons l t ih =>
        rw [List.all_cons, Bool.and_eq_true] at ha
        obtain ⟨x, hx⟩ := Option.isSome_iff_exists.1 ha.1
        rw [List.filterMap_cons, hx]
        simp only [List.length_cons, ih ha.2]
    have h2 : entsOk ((linesR bs).filterMap lineR) = false := by
      unfold entsOk
      rw [decide_eq_false (by omega), Bool.and_false]
    rw [h2]; simp
set_option maxRecDepth 100000 in
set_option maxHeartbeats 6400000 in
theorem specReadEntries_any (s : ByteArray) (w : World) (hs : s.size ≤ 100000) :
    Calls Tryz.prog 21 #[.string s] w (RERet (readsB (strB s)) (readE (strB s)) w) := by
  have HZ := Lib.hid hs
  have KT := l01Split_any s 10 w (by omega)
  rw [show (((10 : UInt8).toNat : Nat) : Int) = 10 from rfl, show (10 : UInt8).toNat = 10 from rfl] at KT
  replace KT := Lib.hid KT
  go_enter Tryz.func21, Tryz.ntmps21
  go_upto_region 2 with (with_reducible refine KT.out.mono ?_; rintro e w1 ⟨LA, lc, ss, rfl, hss, K1⟩; clear KT)
  obtain ⟨pn, lw, hpn, hlw, hen, hli, hp1⟩ := split_last hss
  rw [strB_len] at hp1
  have hp1 : pn ≤ 100000 := by omega
  have K1' : Kn w [rowSN LA (pn + 1) lc ss] w1 := by rw [← hpn]; exact K1
  obtain ⟨lg, hla, -, -⟩ := K1'.rowSN_at hpn (k := pn) (by omega)
  subst hla
  have HSE := Lib.hid hen
  have HSS := Lib.hid hli
  try rw [hpn]
  try simp only [hpn]
  have HPN := Lib.hid hpn
  have HLW := Lib.hid hlw
  clear K1 hss hpn hen hli hlw
  have K2 := ((K1'.bunANil).al [] 27).litRow (size := 5) (n := 0) rfl (by decide)
  obtain ⟨g, hg⟩ : ∃ g, w1.heap.size = g := ⟨_, rfl⟩
  rw [hg] at K2
  clear K1'
  go_upto_region 3 with fail
  try rw [hg]
  refine Code.wp.kn K2 ?_; clear K2 hg; intro w2 K2
  obtain ⟨lg', hla', hlast, -⟩ := (K2.front 2 rfl).rowSN_at HPN.out (k := pn) (by omega)
  injection hla' with hla'
  injection hla' with hla'
  subst hla'
  have hgl : ss[pn]'(by have := HPN.out; omega) = lw := by
    have h1 := HLW.out
    rw [List.getElem?_eq_getElem (by have := HPN.out; omega)] at h1
    injection h1
  rw [hgl] at hlast
  clear hgl
  have hlen : (linesR (strB s)).length = pn := by
    rw [← HSS.out, List.length_map, List.length_take, HPN.out]; omega
  by_cases hl0 : 0 < lw.size
  · have hE := str_nonempty hl0
    have HF := Lib.hid (show readsB (strB s) = false from reads_ends (by
      rw [HSE.out]
      refine decide_eq_false fun h => ?_
      have := congrArg List.length h
      rw [strB_len, List.length_nil] at this; omega))
    clear hlen
    go_wp2_with fail
    go_ret2
    rw [HF.out, reads_no HF.out]
    exact RERet.none K2.below
  obtain rfl := size_zero (show lw.size = 0 by omega)
  have HE := Lib.hid (show endsB (strB s) = true from by rw [HSE.out]; rfl)
  by_cases h51 : 50 < pn
  · have HF := Lib.hid (show readsB (strB s) = false from reads_long (by rw [hlen]; exact h51))
    have h52 : (51 : Int) < (pn : Int) + 1 := by omega
    have h53 : (51 : Int) < ((pn + 1 : Nat) : Int) := by omega
    clear hlen
    go_wp2_with fail
    go_ret2
    rw [HF.out, reads_no HF.out]
    exact RERet.none K2.below
  have h52 : ¬ (51 : Int) < (pn : Int) + 1 := by omega
  have h53 : ¬ (51 : Int) < ((pn + 1 : Nat) : Int) := by omega
  clear hlen HLW hl0
  go_wp2_with fail
  clear hlast
  go_loopw [6, 5] (fun ii vv wr => ∃ (k : Nat) (M : List EE), k ≤ pn ∧ ii = .int .i64 k ∧ Hid (((ss.take k).map strB).map lineR = (M.map EE.t).map some) ∧ Kn w [.row vv 27 5 M.length (cellsE M), bunA (rowsE M), rowSN (some ⟨lg, 0, none⟩) (pn + 1) lc ss] wr) (fun ii _ _ => pn - (intOf ii).toNat)
  case atStart => exact ⟨0, [], Nat.zero_le _, rfl, Lib.hid rfl, K2⟩
  case round =>
    clear K2
    obtain ⟨k, M, hk, rfl, HM, hK⟩ := hrel
    have hml : M.length = k := by
      have h1 := congrArg List.length HM.out
      have h2 := HPN.out
      simp only [List.length_map, List.length_take] at h1
      omega
    have hkl0 : k < pn → k < ss.length := fun h => by rw [HPN.out]; omega
    by_cases hkn : k < pn
    · have hkl := hkl0 hkn
      clear hkl0
      obtain ⟨l, hl⟩ : ∃ l, ss[k] = l := ⟨_, rfl⟩
      have htk := List.take_succ_eq_append_getElem hkl
      rw [hl] at htk
      have HTK := Lib.hid htk
      obtain ⟨lg', hla, hlc, -⟩ := (hK.front 2 rfl).rowSN_at HPN.out (k := k) (by omega)
      injection hla with hla
      injection hla with hla
      subst hla
      rw [hl] at hlc
      have HMEM : Hid (strB l ∈ linesR (strB s)) := by
        simp only [Hid]
        rw [← HSS.out, ← hl]
        exact List.mem_map_of_mem (List.mem_take_iff_getElem.2 ⟨k, by omega, rfl⟩)
      have hls : l.size ≤ 100000 := by
        have h1 := lines_mem HMEM.out
        rw [strB_len, strB_len] at h1
        have := HZ.out; omega
      have KP := l01Split_any l 32 wr (by omega)
      rw [show (((32 : UInt8).toNat : Nat) : Int) = 32 from rfl, show (32 : UInt8).toNat = 32 from rfl] at KP
      replace KP := Lib.hid KP
      have i0 : (0 : Int) ≤ (k : Int) := by omega
      have i1 : (k : Int) < (pn : Int) := by omega
      have i2 : (k : Int) < (pn : Int) + 1 := by omega
      clear htk hl hkl
      go_upto_region 9 with (with_reducible refine KP.out.mono ?_; rintro e w3 ⟨WA, wc, ws, rfl, hws, K3⟩; clear KP)
      have K4 := hK.join K3
      clear K3 hK hlc
      have hwl : ws.length ≤ 100001 := by
        have h1 := congrArg List.length hws
        have h2 := splitB_len 32 (strB l)
        rw [List.length_map] at h1
        rw [strB_len] at h2
        omega
      by_cases h4 : ws.length < 4
      · have i4 : (ws.length : Int) < 4 := by omega
        have HLN := Lib.hid (lineR_short hws h4)
        go_wp2_with fail
        go_ret2
        have HF := Lib.hid (show readsB (strB s) = false from (reads_bad HMEM.out HLN.out))
        rw [HF.out, reads_no HF.out]
        exact RERet.none K4.below
      have i4 : ¬ (ws.length : Int) < 4 := by omega
      have HLW0 := lineR_words hws (by omega) (by omega) (by omega) (by omega)
      have c0 := K4.rowS_at (k := 0) (by omega)
      obtain ⟨-, wg, hwa, d0, -, hlt3⟩ := c0
      subst hwa
      have d1 := K4.rowS_get (k := 1) (by omega)
      have d2 := K4.rowS_get (k := 2) (by omega)
      have d3 := K4.rowS_get (k := 3) (by omega)
      have z0 : (ws[0]'(by omega)).size ≤ 100000 := by
        have h1 := split_mem_len 32 (strB l) (strB (ws[0]'(by omega))) (by rw [← hws]; exact List.mem_map_of_mem (List.getElem_mem _))
        rw [strB_len, strB_len] at h1; omega
      have z3 : (ws[3]'(by omega)).size ≤ 100000 := by
        have h1 := split_mem_len 32 (strB l) (strB (ws[3]'(by omega))) (by rw [← hws]; exact List.mem_map_of_mem (List.getElem_mem _))
        rw [strB_len, strB_len] at h1; omega
      obtain ⟨wa, hwa⟩ : ∃ x, ws[0]'(by omega) = x := ⟨_, rfl⟩
      obtain ⟨B, hwb⟩ : ∃ x, ws[1]'(by omega) = x := ⟨_, rfl⟩
      obtain ⟨C, hwc⟩ : ∃ x, ws[2]'(by omega) = x := ⟨_, rfl⟩
      obtain ⟨wd, hwd⟩ : ∃ x, ws[3]'(by omega) = x := ⟨_, rfl⟩
      rw [hwa] at d0 z0 HLW0
      rw [hwb] at d1 HLW0
      rw [hwc] at d2 HLW0
      rw [hwd] at d3 z3 HLW0
      have HLW := Lib.hid HLW0
      have HBC := Lib.hid (show ws[1]? = some B ∧ ws[2]? = some C from ⟨by rw [← hwb]; exact List.getElem?_eq_getElem _, by rw [← hwc]; exact List.getElem?_eq_getElem _⟩)
      clear hwa hwb hwc hwd HLW0 hws
      have HD := Lib.hid (fun W (hW : Below w3.heap.size w3 W) => show W.cell? ⟨wg, 1, none⟩ = some (.string B) ∧ W.cell? ⟨wg, 2, none⟩ = some (.string C) ∧ W.cell? ⟨wg, 3, none⟩ = some (.string wd) from ⟨(hW.cell (p := ⟨wg, 1, none⟩) hlt3).trans d1, (hW.cell (p := ⟨wg, 2, none⟩) hlt3).trans d2, (hW.cell (p := ⟨wg, 3, none⟩) hlt3).trans d3⟩)
      obtain ⟨nn, hnn⟩ : ∃ q, ws.length = q := ⟨_, rfl⟩
      have HNN := Lib.hid hnn
      have K5 : Kn w [rowSN (some ⟨wg, 0, none⟩) nn wc ws, .row u5 27 5 M.length (cellsE M), bunA (rowsE M), rowSN (some ⟨lg, 0, none⟩) (pn + 1) lc ss] w3 := by rw [← hnn]; exact K4
      have hcap : nn ≤ wc := K5.capG
      have HRS := Lib.hid (K5.rowS_rl (j := 4) hnn (by omega))
      rw [hnn] at h4 hwl i4
      try rw [hnn]
      try simp only [hnn]
      clear hnn K4
      obtain ⟨RS, hRS⟩ : ∃ q, ws.drop 4 = q := ⟨_, rfl⟩
      rw [hRS] at HLW HRS
      have HRSE := Lib.hid hRS
      clear hRS
      have j0 : (0 : Int) < (nn : Int) := by omega
      have j1 : (1 : Int) < (nn : Int) := by omega
      have j2 : (2 : Int) < (nn : Int) := by omega
      have j3 : (3 : Int) < (nn : Int) := by omega
      have KR0 := Lib.hid (l01Number_any wa w3 (by omega))
      go_upto_region 12 with (with_reducible refine KR0.out.mono ?_; rintro e w4 ⟨rfl, hw4⟩; clear KR0)
      have K6 := K5.keep hw4
      obtain ⟨-, -, e3⟩ := HD.out _ hw4
      have KR3 := Lib.hid (l01Number_any wd w4 (by omega))
      clear d0 d1 d2 d3
      go_upto_region 13 with (with_reducible refine KR3.out.mono ?_; rintro e w5 ⟨rfl, hw5⟩; clear KR3)
      have K7 := K6.keep hw5
      have hw35 := hw4.trans (hw5.mono hw4.size)
      obtain ⟨e1, e2, -⟩ := HD.out _ hw35
      clear K5 K6 hw4 hw5 e3
      obtain ⟨y0, hy0⟩ : ∃ y, rdN (strB wa) = y := ⟨_, rfl⟩
      obtain ⟨y3, hy3⟩ : ∃ y, rdN (strB wd) = y := ⟨_, rfl⟩
      rw [hy0, hy3] at HLW
      try rw [hy0, hy3]
      try simp only [hy0, hy3]
      clear hy0 hy3
      rcases hf0 : (rdDec (strB wa)).isSome with _ | _
      · have HLN : Hid (lineR (strB l) = none) := by simp only [Hid]; rw [HLW.out, hf0]; rfl
        try rw [hf0]
        try simp only [hf0]
        go_wp2_with fail
        go_ret2
        have HF := Lib.hid (show readsB (strB s) = false from (reads_bad HMEM.out HLN.out))
        rw [HF.out, reads_no HF.out]
        exact RERet.none K7.below
      rcases hf3 : (rdDec (strB wd)).isSome with _ | _
      · have HLN : Hid (lineR (strB l) = none) := by simp only [Hid]; rw [HLW.out, hf0, hf3]; rfl
        try rw [hf0, hf3]
        try simp only [hf0, hf3]
        go_wp2_with fail
        go_ret2
        have HF := Lib.hid (show readsB (strB s) = false from (reads_bad HMEM.out HLN.out))
        rw [HF.out, reads_no HF.out]
        exact RERet.none K7.below
      have HLN : Hid (lineR (strB l) = some ⟨y0, B, C, y3, RS⟩) := by simp only [Hid]; rw [HLW.out, hf0, hf3]; rfl
      try rw [hf0, hf3]
      try simp only [hf0, hf3]
      clear hf0 hf3 HLW
      clear hw35 hlt3
      have j4 : (4 : Int) ≤ (nn : Int) := by omega
      have j5 : (nn : Int) ≤ (wc : Int) := by omega
      have j6 : (4 : Int) ≤ (wc : Int) := by omega
      have HG := Lib.hid (And.intro e1 e2)
      have HGd : Hid (w5.drew.cell? ⟨wg, 1, none⟩ = some (.string B) ∧ w5.drew.cell? ⟨wg, 2, none⟩ = some (.string C)) := HG
      have Ka := ((K7.al [] 9).litRow (n := 0) (size := 1) rfl (by decide)).drew
      have HGa := Lib.hid ((Ka.front 1 rfl).rowS_c12 HNN.out HBC.out)
      have HGo := HGd
      by_cases hc4 : wc = 4
      · obtain rfl : nn = 4 := by omega
        have HR0 : RS = [] := by rw [← HRSE.out]; exact List.drop_eq_nil_of_le (by have := HNN.out; omega)
        subst HR0
        subst hc4
        have K9 := (((K7.al [] 9).litRow (n := 0) (size := 1) rfl (by decide)).al [.int .i64 y0, .string B, .string C, .int .i64 y3, .slice (some ⟨w5.heap.size, 0, none⟩) 0 0] 27).drew
        simp only [World.size_alloc] at K9
        clear HGo
        have HGo := Lib.hid ((K9.front 2 rfl).rowS_c12 HNN.out HBC.out)
        clear j0 j1 j2 j3 j4 j5 j6 i4
        clear e1 e2
        go_upto_region 15 with fail
        go_region_held3 (fun W => W.cell? ⟨wg, 1, none⟩ = some (.string B) ∧ W.cell? ⟨wg, 2, none⟩ = some (.string C)) (first | with_reducible exact HGd.out | with_reducible exact HGa.out | with_reducible exact HGo.out | exact HGd.out | exact HGa.out | exact HGo.out) (first

          | (refine kn_stepE rfl _ _ rfl _ M ⟨⟨y0, B, C, y3, []⟩, (some ⟨w5.heap.size, 0, none⟩), 0⟩ rfl rfl (K9.sel [0, 3, 4, 1, 2, 5] 6 (by decide) (by decide)) (by omega) ?_; intro v7 w7 K10; clear HGo; have HGo := Lib.hid ((K10.front 2 rfl).rowS_c12 HNN.out HBC.out)))
        all_goals
          have HMN : Hid (((ss.take (k + 1)).map strB).map lineR = ((M ++ [(⟨⟨y0, B, C, y3, []⟩, (some ⟨w5.heap.size, 0, none⟩), 0⟩ : EE)]).map EE.t).map some) := by
            simp only [Hid]
            rw [HTK.out, List.map_append, List.map_append, HM.out, List.map_append, List.map_append]
            simp only [List.map_cons, List.map_nil, HLN.out]
          clear HGo HGa HGd
          go_wp2_with fail
          go_roundw
          case rel => exact ⟨k + 1, M ++ [(⟨⟨y0, B, C, y3, []⟩, (some ⟨w5.heap.size, 0, none⟩), 0⟩ : EE)], by omega, by go_num, HMN, K10.sel [0, 1, 3] 99 (by decide) (by decide)⟩
          case measure => simp only [intOf]; omega
      · have hc5 : ¬ (wc : Int) = 4 := by omega
        have hc6 : ¬ (4 : Int) = (wc : Int) := by omega
        have HRSa := Lib.hid ((Ka.front 1 rfl).rowS_rl (j := 4) HNN.out (by omega))
        rw [HRSE.out] at HRSa
        clear e1 e2
        go_upto_region 15 with fail
        go_region_held3 (fun W => W.cell? ⟨wg, 1, none⟩ = some (.string B) ∧ W.cell? ⟨wg, 2, none⟩ = some (.string C)) (first | with_reducible exact HGd.out | with_reducible exact HGa.out | with_reducible exact HGo.out | exact HGd.out | exact HGa.out | exact HGo.out) (first
          | (refine kn_stepRS rfl _ _ rfl _ [] rfl rfl HRSa.out Ka (by simp; omega) ?_; intro v6 w6 K8; rw [List.nil_append] at K8; obtain ⟨X, x, rfl⟩ := row_form K8.at0; have K9 := K8.al [.int .i64 y0, .string B, .string C, .int .i64 y3, .slice X RS.length x] 27; clear HGo; have HGo := Lib.hid ((K8.front 1 rfl).rowS_c12 HNN.out HBC.out); clear HGa; have HGa := Lib.hid ((K9.front 2 rfl).rowS_c12 HNN.out HBC.out))
          | (refine kn_stepE rfl _ _ rfl _ M ⟨⟨y0, B, C, y3, RS⟩, X, x⟩ rfl rfl (K9.sel [0, 3, 4, 1, 2, 5] 6 (by decide) (by decide)) (by omega) ?_; intro v7 w7 K10; clear HGo; have HGo := Lib.hid ((K10.front 2 rfl).rowS_c12 HNN.out HBC.out)))
        all_goals
          have HMN : Hid (((ss.take (k + 1)).map strB).map lineR = ((M ++ [(⟨⟨y0, B, C, y3, RS⟩, X, x⟩ : EE)]).map EE.t).map some) := by
            simp only [Hid]
            rw [HTK.out, List.map_append, List.map_append, HM.out, List.map_append, List.map_append]
            simp only [List.map_cons, List.map_nil, HLN.out]
          clear HGo HGa HGd
          go_wp2_with fail
          go_roundw
          case rel => exact ⟨k + 1, M ++ [(⟨⟨y0, B, C, y3, RS⟩, X, x⟩ : EE)], by omega, by go_num, HMN, K10.sel [0, 1, 3] 99 (by decide) (by decide)⟩
          case measure => simp only [intOf]; omega
    · have i1 : ¬ (k : Int) < (pn : Int) := by omega
      obtain rfl : pn = k := by omega
      have HALL : Hid ((linesR (strB s)).map lineR = (M.map EE.t).map some) := by
        simp only [Hid]
        rw [← HSS.out, ← HM.out]
      have HRD := Lib.hid (reads_all HE.out HALL.out)
      have hM1 : M.length ≤ 9223372036854775807 := by omega
      clear hml
      obtain ⟨A, c, rfl⟩ := row_form hK.at0
      have hrl := ((hK.sel [0, 1] 99 (by decide) (by decide)).rlE)
      obtain ⟨A', c', e, hRL⟩ := hrl
      injection e with e1 e2 e3
      rw [← e1] at hRL
      clear e1 e2 e3 A' c'
      have HRL := Lib.hid (fun W (hW : Below wr.heap.size wr W) => hRL.below steady_EtrM hW)
      have hSM : ∀ x ∈ M.map EE.t, SmE x := sm_all (by rw [strB_len]; have := HZ.out; omega) HALL.out
      have HSM := Lib.hid hSM
      have KV := Lib.hid (l25Ok_any A M.length c (M.map EE.t) wr hRL hM1 hSM)
      clear hRL hSM HRL
      rcases hok : entsOk (M.map EE.t) with _ | _
      · rw [hok] at KV
        have HF := Lib.hid (show readsB (strB s) = false from by rw [HRD.out.1]; exact hok)
        clear hok
        go_wp2_with (with_reducible refine KV.out.mono ?_; rintro e w8 ⟨rfl, hw8⟩)
        go_ret2
        rw [HF.out, reads_no HF.out]
        exact RERet.none (hK.keep hw8).below
      · have HF := Lib.hid (show readsB (strB s) = true from by rw [HRD.out.1]; exact hok)
        have HG := Lib.hid (HRD.out.2 hok)
        rw [hok] at KV
        clear hok
        go_wp2_with (with_reducible refine KV.out.mono ?_; rintro e w8 ⟨rfl, hw8⟩; clear KV)
        go_ret2
        rw [HF.out, HG.out.1]
        exact ⟨A, c, M, rfl, rfl, ((hK.keep hw8).sel [0, 1] 99 (by decide) (by decide))⟩
end Go.Proofs.YtgljafiegpjlkaaGreatDoor
