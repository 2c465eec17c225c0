/- Part 8: lemmas and contracts of the claim's functions. -/
import Derived.Test.YtgljafiegpjlkaaGreatDoorZC1
import Derived.Test.YtgljafiegpjlkaaGreatDoorZC2
import Derived.Test.YtgljafiegpjlkaaGreatDoorZC3
import Derived.Test.YtgljafiegpjlkaaGreatDoorZC4
import Derived.Test.YtgljafiegpjlkaaGreatDoorZC5
import Derived.Test.YtgljafiegpjlkaaGreatDoorZC6
import Derived.Test.YtgljafiegpjlkaaGreatDoorZC7
import Derived.Lib.QuietBelow
import Derived.Test.YtgljafiegpjlkaaGreatDoorTie
import Derived.Test.YtgljafiegpjlkaaGreatDoorCards
import Derived.Deep.DeepHandedRow
import Derived.Lib.LaidTab
import Derived.ProofKit
import Derived.Carry
namespace Go.Proofs.YtgljafiegpjlkaaGreatDoor
open Go.RowKit Go.Sort
set_option maxRecDepth 100000 in
set_option maxHeartbeats 3200000 in
theorem specSameEntries_any (A B : Option Addr) (n m c d : Nat) (L M : List Etr) (w : World) (hr : RL EtrM 5 w A n L) (hs : RL EtrM 5 w B m M) (hn : n ≤ 9223372036854775807) (hm : m ≤ 9223372036854775807) (hz : ∀ x ∈ L, SmE x) (hy : ∀ x ∈ M, SmE x) :
    Calls Tryz.prog 23 #[.slice A n c, .slice B m d] w fun e w' => e = .returned (.bool (eqEs L M)) ∧ Below w.heap.size w w' := by
  by_cases hnm : n = m
  rotate_left
  · rw [eqEs_len (by rw [hr.1, hs.1]; exact hnm)]
    have h2 : ¬ (n : Int) = (m : Int) := by omega
    have h3 : ((n : Int) == (m : Int)) = false := by simp; omega
    clear hr hs
    go_enter Tryz.func23, Tryz.ntmps23
    go_wp2_with fail
    go_ret
    exact ⟨rfl, Below.refl _ _⟩
  subst hnm
  have HE := Lib.hid (show eqEs L M = eqEs (L.drop 0) (M.drop 0) from rfl)
  obtain ⟨R, hR⟩ : ∃ R, eqEs L M = R := ⟨_, rfl⟩
  rw [hR] at HE ⊢
  have HR := Lib.hid (fun W (hW : Below w.heap.size w W) => hr.below steady_EtrM hW)
  have HS := Lib.hid (fun W (hW : Below w.heap.size w W) => hs.below steady_EtrM hW)
  have HL := Lib.hid hr.1
  have HML := Lib.hid hs.1
  have HZ := Lib.hid hz
  have HY := Lib.hid hy
  clear hr hs hR hz hy
  go_enter Tryz.func23, Tryz.ntmps23
  go_wp2_with fail
  go_loopw [5] (fun ii wr => ∃ (k : Nat), k ≤ n ∧ ii = .int .i64 (k : Int) ∧ Hid (R = eqEs (L.drop k) (M.drop k)) ∧ Below w.heap.size w wr) (fun ii _ => n - (intOf ii).toNat)
  case atStart => exact ⟨0, Nat.zero_le _, rfl, HE, Below.refl _ _⟩
  case round =>
    obtain ⟨k, hk, rfl, HA, hb⟩ := hrel
    by_cases hkn : k < n
    · obtain ⟨ad, hA, hlt, hkl, hx⟩ := (HR.out _ hb).at_ hkn
      obtain ⟨bd, hB, hlt2, hkl2, hy⟩ := (HS.out _ hb).at_ hkn
      have hdd := eqEs_drop hkl hkl2
      have hsx := HZ.out _ (List.getElem_mem hkl)
      have hsy := HY.out _ (List.getElem_mem hkl2)
      obtain ⟨x, hxe⟩ : ∃ x, L[k] = x := ⟨_, rfl⟩
      obtain ⟨y, hye⟩ : ∃ y, M[k] = y := ⟨_, rfl⟩
      rw [hxe] at hx hdd hsx
      rw [hye] at hy hdd hsy
      have HD := Lib.hid (HA.out.trans hdd)
      obtain ⟨xn, xa, xm, xt, xw⟩ := x
      obtain ⟨yn, ya, ym, yt, yw⟩ := y
      obtain ⟨XA, xc, -, ⟨c0, c1, c2, c3, c4⟩, hxr⟩ := hx
      obtain ⟨YA, yc, -, ⟨d0, d1, d2, d3, d4⟩, hyr⟩ := hy
      have KW0 := (fun W (hW : Below wr.heap.size wr W) => (l25Texts_any XA YA xw.length yw.length xc yc xw yw W (hxr.below steady_StrM hW) (hyr.below steady_StrM hW) hsx.len hsy.len).mono fun e w' h => (⟨h.1, drewN_Bw h.2⟩ : _ ∧ Below W.heap.size W w'))
      dsimp only at c0 c1 c2 c3 c4 d0 d1 d2 d3 d4
      have hi0 : (0 : Int) ≤ (k : Int) := by omega
      have hi1 : (k : Int) < (n : Int) := by omega
      obtain ⟨b, hb5⟩ : ∃ b, decide (xw = yw) = b := ⟨_, rfl⟩
      rw [hb5] at KW0
      have KW := Lib.hid KW0
      obtain ⟨w2, hw20⟩ : ∃ W, W = wr := ⟨_, rfl⟩
      subst hw20
      have K2 := Kn.nil w2
      subst hA
      subst hB
      clear hxe hye hdd hsx hsy hxr hyr KW0 hlt hlt2
      go_upto_region 8 with fail
      have c0 := cell_regrown c0
      have c1 := cell_regrown c1
      have c2 := cell_regrown c2
      have c3 := cell_regrown c3
      have c4 := cell_regrown c4
      have d0 := cell_regrown d0
      have d1 := cell_regrown d1
      have d2 := cell_regrown d2
      have d3 := cell_regrown d3
      have d4 := cell_regrown d4
      by_cases h1 : xn = yn
      rotate_left
      · have hd1 : decide (xn = yn) = false := decide_eq_false h1
        have he1 : (xn == yn) = false := by simpa using h1
        have hf1 : (xn != yn) = true := bne_iff_ne.2 h1
        have HQ := Lib.hid (show R = false by rw [HD.out, eqEt_no (fun h => by simp_all), Bool.false_and])
        refine wp_region_quiet_below (by kernel_rfl) (by kernel_rfl) ?_
        repeat (go_big_quiet_step ((go_at_call 86; with_reducible exact quietB KW.out)))
        refine wpQuiet_nil ?_
        intro _ hw'
        obtain ⟨⟨dq, osq⟩, hw''⟩ := hw'
        subst hw''
        obtain ⟨w3, hw3⟩ : ∃ W, grow (redrawn w2 dq) osq = W := ⟨_, rfl⟩
        have K3 := K2.keep (below_regrown w2 dq osq)
        dsimp only
        rw [hw3] at K3 ⊢
        clear hw3
        have hb3 := hb.trans (K3.below.mono hb.size)
        go_wp2_with fail
        go_ret
        exact ⟨ret_bool HQ.out.symm, hb3⟩
      subst h1
      by_cases h2 : xa = ya
      rotate_left
      · have hs2 := tl_ne h2
        have HQ := Lib.hid (show R = false by rw [HD.out, eqEt_no (fun h => by simp_all), Bool.false_and])
        refine wp_region_quiet_below (by kernel_rfl) (by kernel_rfl) ?_
        repeat (go_big_quiet_step ((go_at_call 86; with_reducible exact quietB KW.out)))
        refine wpQuiet_nil ?_
        intro _ hw'
        obtain ⟨⟨dq, osq⟩, hw''⟩ := hw'
        subst hw''
        obtain ⟨w3, hw3⟩ : ∃ W, grow (redrawn w2 dq) osq = W := ⟨_, rfl⟩
        have K3 := K2.keep (below_regrown w2 dq osq)
        dsimp only
        rw [hw3] at K3 ⊢
        clear hw3
        have hb3 := hb.trans (K3.below.mono hb.size)
        go_wp2_with fail
        go_ret
        exact ⟨ret_bool HQ.out.symm, hb3⟩
      subst h2
      have hs2 := tl_eq xa
      by_cases h3 : xm = ym
      rotate_left
      · have hs3 := tl_ne h3
        have HQ := Lib.hid (show R = false by rw [HD.out, eqEt_no (fun h => by simp_all), Bool.false_and])
        refine wp_region_quiet_below (by kernel_rfl) (by kernel_rfl) ?_
        repeat (go_big_quiet_step ((go_at_call 86; with_reducible exact quietB KW.out)))
        refine wpQuiet_nil ?_
        intro _ hw'
        obtain ⟨⟨dq, osq⟩, hw''⟩ := hw'
        subst hw''
        obtain ⟨w3, hw3⟩ : ∃ W, grow (redrawn w2 dq) osq = W := ⟨_, rfl⟩
        have K3 := K2.keep (below_regrown w2 dq osq)
        dsimp only
        rw [hw3] at K3 ⊢
        clear hw3
        have hb3 := hb.trans (K3.below.mono hb.size)
        go_wp2_with fail
        go_ret
        exact ⟨ret_bool HQ.out.symm, hb3⟩
      subst h3
      have hs3 := tl_eq xm
      by_cases h4 : xt = yt
      rotate_left
      · have hd1 : decide (xt = yt) = false := decide_eq_false h4
        have he1 : (xt == yt) = false := by simpa using h4
        have hf1 : (xt != yt) = true := bne_iff_ne.2 h4
        have HQ := Lib.hid (show R = false by rw [HD.out, eqEt_no (fun h => by simp_all), Bool.false_and])
        refine wp_region_quiet_below (by kernel_rfl) (by kernel_rfl) ?_
        repeat (go_big_quiet_step ((go_at_call 86; with_reducible exact quietB KW.out)))
        refine wpQuiet_nil ?_
        intro _ hw'
        obtain ⟨⟨dq, osq⟩, hw''⟩ := hw'
        subst hw''
        obtain ⟨w3, hw3⟩ : ∃ W, grow (redrawn w2 dq) osq = W := ⟨_, rfl⟩
        have K3 := K2.keep (below_regrown w2 dq osq)
        dsimp only
        rw [hw3] at K3 ⊢
        clear hw3
        have hb3 := hb.trans (K3.below.mono hb.size)
        go_wp2_with fail
        go_ret
        exact ⟨ret_bool HQ.out.symm, hb3⟩
      subst h4
      have hew : eqEt ⟨xn, xa, xm, xt, xw⟩ ⟨xn, xa, xm, xt, yw⟩ = decide (xw = yw) := eqEt_of rfl rfl rfl rfl
      rw [hew, hb5] at HD
      clear hew hb5
      rcases b with _ | _
      · have HQ := Lib.hid (show R = false by rw [HD.out, Bool.false_and])
        refine wp_region_quiet_below (by kernel_rfl) (by kernel_rfl) ?_
        repeat (go_big_quiet_step ((go_at_call 86; with_reducible exact quietB KW.out)))
        refine wpQuiet_nil ?_
        intro _ hw'
        obtain ⟨⟨dq, osq⟩, hw''⟩ := hw'
        subst hw''
        obtain ⟨w3, hw3⟩ : ∃ W, grow (redrawn w2 dq) osq = W := ⟨_, rfl⟩
        have K3 := K2.keep (below_regrown w2 dq osq)
        dsimp only
        rw [hw3] at K3 ⊢
        clear hw3
        have hb3 := hb.trans (K3.below.mono hb.size)
        go_wp2_with fail
        go_ret
        exact ⟨ret_bool HQ.out.symm, hb3⟩
      · have HQ := Lib.hid (show R = eqEs (L.drop (k + 1)) (M.drop (k + 1)) by rw [HD.out, Bool.true_and])
        refine wp_region_quiet_below (by kernel_rfl) (by kernel_rfl) ?_
        repeat (go_big_quiet_step ((go_at_call 86; with_reducible exact quietB KW.out)))
        refine wpQuiet_nil ?_
        intro _ hw'
        obtain ⟨⟨dq, osq⟩, hw''⟩ := hw'
        subst hw''
        obtain ⟨w3, hw3⟩ : ∃ W, grow (redrawn w2 dq) osq = W := ⟨_, rfl⟩
        have K3 := K2.keep (below_regrown w2 dq osq)
        dsimp only
        rw [hw3] at K3 ⊢
        clear hw3
        have hb3 := hb.trans (K3.below.mono hb.size)
        go_wp2_with fail
        go_roundw
        case rel => exact ⟨k + 1, by omega, by go_num, Lib.hid HQ.out, hb3⟩
        case measure => simp [intOf] <;> omega
    · have hi1 : ¬ (k : Int) < (n : Int) := by omega
      have HQ := Lib.hid (show R = true by
        rw [HA.out, List.drop_eq_nil_of_le (by have := HL.out; omega), List.drop_eq_nil_of_le (by have := HML.out; omega)]; rfl)
      go_wp2_with fail
      go_ret
      exact ⟨ret_bool HQ.out.symm, hb⟩
end Go.Proofs.YtgljafiegpjlkaaGreatDoor

namespace Go.Proofs.YtgljafiegpjlkaaGreatDoor
open Go.RowKit Go.ChangeShapes Go.WideShapes Go.ChangeAt
theorem laid_tail {P : Program} {W : World} {x : String × DataW Unit} {rest : List (String × DataW Unit)} (h : laidMet P (x :: rest) W) : laidMet P rest W := by
  obtain ⟨ps, ⟨g, t, cs, fuel, p, q, h1, h2, h3, h4, h5, rfl⟩, hn, hr⟩ := h
  exact ⟨q, h5, (List.nodup_append.1 hn).2.1, fun b off hb => hr b off (List.mem_append_right _ hb)⟩
theorem cellsU64 : Tryz.prog.cellsOf 152 = 1 := by kernel_rfl
theorem cellsTab : Tryz.prog.cellsOf 319 = 20 := by kernel_rfl
theorem gTab : Tryz.prog.globalNamed "internal/strconv.uint64pow10" = some 0 := by kernel_rfl
theorem gTabType : (Tryz.prog.globals[0]?).map (·.type) = some 319 := by kernel_rfl
theorem tb_of_laid {W : World} (h : laidMetH Tryz.prog [("math/bits.deBruijn32tab", Rows.laid_math_bits_deBruijn32tab), ("math/bits.deBruijn64tab", Rows.laid_math_bits_deBruijn64tab), ("internal/strconv.uint64pow10", Rows.laid_internal_strconv_uint64pow10)] W) : TB W := by
  have h1 : laidMet Tryz.prog [("math/bits.deBruijn32tab", Rows.laid_math_bits_deBruijn32tab), ("math/bits.deBruijn64tab", Rows.laid_math_bits_deBruijn64tab), ("internal/strconv.uint64pow10", Rows.laid_internal_strconv_uint64pow10)] W := h
  exact Lib.tabIs_of_head (rest := []) gTab gTabType Tryz.underlying319 Tryz.underlying152 cellsU64 cellsTab (laid_tail (laid_tail h1))
def tabCells (l : DataW Unit) (k : IntKind) : Array Value := match l with
  | .agg ds => (ds.map fun d => match d with | .lit (.int _ n) => Value.int k n | _ => .int k 0).toArray
  | _ => #[]
def setTab (cs : Array Value) (o : Obj) : Obj := match o with
  | .cells _ t frozen => .cells cs t frozen
  | o => o
noncomputable def laidWorld (os : Os) : World :=
  { World.holding Tryz.prog os ⟨#[], #[], []⟩ with heap := (((World.holding Tryz.prog os ⟨#[], #[], []⟩).heap.modify 0 (setTab (tabCells Rows.laid_internal_strconv_uint64pow10 .u64))).modify 1 (setTab (tabCells Rows.laid_math_bits_deBruijn32tab .u8))).modify 2 (setTab (tabCells Rows.laid_math_bits_deBruijn64tab .u8)) }
theorem laid_met (os : Os) (args : Array Value) : laidMet Tryz.prog [("math/bits.deBruijn32tab", Rows.laid_math_bits_deBruijn32tab), ("math/bits.deBruijn64tab", Rows.laid_math_bits_deBruijn64tab), ("internal/strconv.uint64pow10", Rows.laid_internal_strconv_uint64pow10)] ((laidWorld os).forCall (fun _ _ => 0) ⟨#[], args, []⟩).memory :=
  laidMet_of_run' 8 (by kernel_rfl) (by kernel_rfl)
theorem own : ownKnob Tryz.prog.godebug = none := by kernel_rfl
theorem laidOut : laidOutB Tryz.prog = true := by kernel_rfl
end Go.Proofs.YtgljafiegpjlkaaGreatDoor

namespace Go.Proofs.YtgljafiegpjlkaaGreatDoor
open Go.RowKit Go.Sort
theorem rm_sub {L : List Etr} {num : Int} {y : Etr} (h : y ∈ rmL L num) : y ∈ L := by
  unfold rmL at h
  split at h
  · rcases List.mem_append.1 h with h | h
    · exact List.mem_of_mem_take h
    · exact List.mem_of_mem_drop h
  · cases h
theorem en_sm {L : List Etr} {num : Int} (h : ∀ x ∈ L, SmE x) : SmE (enE L num) := by
  have h0 : SmE default := ⟨Nat.zero_le _, Nat.zero_le _, fun s hs => (by cases hs), Nat.zero_le _⟩
  unfold enE
  split
  · rw [List.getD_eq_getElem?_getD]
    rcases hq : L[rmI L num]? with _ | y
    · exact h0
    · exact h y (List.mem_of_getElem? hq)
  · exact h0
theorem readE_sm {bs : List UInt8} (hb : bs.length ≤ 1000000) : ∀ x ∈ readE bs, SmE x := fun x hx => by
  unfold readE at hx
  split at hx
  · obtain ⟨l, hl, e⟩ := List.mem_filterMap.1 hx
    refine smE_line ?_
    rw [lineR_back e]
    exact Nat.le_trans (lines_mem hl) hb
  · cases hx
theorem rm_len (L : List Etr) (num : Int) : (rmL L num).length ≤ L.length := by
  unfold rmL
  split
  · rw [List.length_append, List.length_take, List.length_drop]
    rename_i h
    have := (show rmI L num < L.length ∨ L.length ≤ rmI L num by omega)
    rcases this with h1 | h1 <;> omega
  · exact Nat.zero_le _
theorem readE_len (bs : List UInt8) : (readE bs).length ≤ bs.length := by
  unfold readE
  split
  · exact Nat.le_trans (List.length_filterMap_le _ _) (lines_len bs)
  · exact Nat.zero_le _
theorem text_back {L : List Etr} {T : ByteArray} (h : mkS (entT L) = T) : T.size ≤ 8700 ∧ (T.toList.isEmpty = false → readsB (strB T) = true ∧ readE (strB T) = L) := by
  have hl := entT_len L
  refine ⟨by rw [← h, mkS_size]; exact hl, fun he => ?_⟩
  rcases hok : entsOk L with _ | _
  · have h1 : entT L = [] := by unfold entT; rw [hok]; rfl
    rw [h1] at h
    rw [← h, strB_toList, strB_mkS] at he
    cases he
  · have h1 : entT L = txtE L := by unfold entT; rw [hok]; rfl
    rw [h1] at h
    rw [← h, strB_mkS]
    exact read_txt hok
theorem boxKeep {w W : World} {g : Nat} {v0 v1 v2 v3 v4 : Value} (hW : Below w.heap.size w W) (hl : g < w.heap.size) (h : w.cell? ⟨g, 0, none⟩ = some v0 ∧ w.cell? ⟨g, 1, none⟩ = some v1 ∧ w.cell? ⟨g, 2, none⟩ = some v2 ∧ w.cell? ⟨g, 3, none⟩ = some v3 ∧ w.cell? ⟨g, 4, none⟩ = some v4) :
    W.cell? ⟨g, 0, none⟩ = some v0 ∧ W.cell? ⟨g, 1, none⟩ = some v1 ∧ W.cell? ⟨g, 2, none⟩ = some v2 ∧ W.cell? ⟨g, 3, none⟩ = some v3 ∧ W.cell? ⟨g, 4, none⟩ = some v4 :=
  ⟨(hW.cell (p := ⟨g, 0, none⟩) hl).trans h.1, (hW.cell (p := ⟨g, 1, none⟩) hl).trans h.2.1, (hW.cell (p := ⟨g, 2, none⟩) hl).trans h.2.2.1, (hW.cell (p := ⟨g, 3, none⟩) hl).trans h.2.2.2.1, (hW.cell (p := ⟨g, 4, none⟩) hl).trans h.2.2.2.2⟩
theorem ad_sm {L : List Etr} {t : Etr} (h : ∀ x ∈ L, SmE x) (ht : SmE t) : ∀ x ∈ adL L t, SmE x := fun x hx => by
  rcases ad_mem hx with h1 | h1
  · exact h x h1
  · rw [h1]; exact ht
theorem bun_rl {w0 w : World} {m : List Ent} {h : Nat} {y : Etr} {X : Option Addr} {c : Nat} (hK : Kn w0 (.blk h [.int .i64 y.num, .string y.name, .string y.maker, .int .i64 y.year, .slice X y.words.length c] 27 :: m) w) (hr : RL StrM 1 w X y.words.length y.words) (hn : X = none → c = 0) :
    RL EtrM 5 w (some ⟨h, 0, none⟩) 1 [y] := by
  obtain ⟨c0, c1, c2, c3, c4⟩ := box5 hK
  refine ⟨rfl, fun _ => ⟨_, rfl, hK.cells.2.2.1, fun k hk => ?_⟩⟩
  obtain rfl : k = 0 := by simpa using hk
  exact ⟨X, c, hn, ⟨c0, c1, c2, c3, c4⟩, hr⟩
set_option maxHeartbeats 1600000 in
theorem specValidEntries_any (A : Option Addr) (n c : Nat) (L : List Etr) (w : World) (hr : RL EtrM 5 w A n L) (hn : n ≤ 9223372036854775807) (hz : ∀ x ∈ L, SmE x) :
    Calls Tryz.prog 27 #[.slice A n c] w fun e w' => e = .returned (.bool (entsOk L)) ∧ Below w.heap.size w w' := by
  have KV := Lib.hid (l25Ok_any A n c L w hr hn hz)
  go_enter Tryz.func27, Tryz.ntmps27
  go_wp2_with fail
  refine KV.out.mono ?_; rintro e w1 ⟨rfl, hw⟩
  go_wp2_with fail
  go_ret
  exact ⟨rfl, hw⟩
set_option maxRecDepth 100000 in
set_option maxHeartbeats 12800000 in
theorem law_Entries (A : Option Addr) (n c : Nat) (bs : List UInt8) (w : World) (hb : RB w A n bs) (hn : n ≤ 9223372036854775807) (ht : TB w) :
    Calls Tryz.prog 3 #[.slice A n c] w fun e w' => e = .returned (.bool true) ∧ Below w.heap.size w w' := by
  have KD := Lib.hid (DrawAddEntry_any A n c bs w hb hn)
  have KR := Lib.hid (fun W (hW : Below w.heap.size w W) => DrawRemoveEntry_any A n c bs W (hb.below hW) hn)
  have KT := Lib.hid (fun W (hW : Below w.heap.size w W) => DrawEntriesText_any A n c bs W (hb.below hW) hn)
  have KS := Lib.hid (fun W (hW : Below w.heap.size w W) => DrawReadEntries_any A n c bs W (hb.below hW) hn)
  have KU := Lib.hid (fun W (hW : Below w.heap.size w W) => DrawSameEntries_any A n c bs W (hb.below hW) hn)
  have HTB := Lib.hid (fun W (hW : Below w.heap.size w W) => TB.below ht hW)
  unfold OESE at KD
  unfold OESI at KR
  unfold OES at KT
  unfold SDRet at KU
  clear hb ht
  have KG := (fun W => f6big_any A n c W)
  obtain ⟨bg, hbg⟩ : ∃ b, decide ((n : Int) > 4096) = b := ⟨_, rfl⟩
  rw [hbg] at KG
  replace KG := Lib.hid KG
  clear hbg
  rcases bg with _ | _
  rotate_left
  · go_enter Tryz.func3, Tryz.ntmps3
    go_wp2_with (go_at_call 8; refine (KG.out _).mono ?_; rintro e w' ⟨rfl, hww⟩; obtain rfl := hww.symm)
    go_ret
    exact ⟨rfl, Below.refl _ _⟩
  go_enter Tryz.func3, Tryz.ntmps3
  go_wp2_with (go_at_call 8; refine (KG.out _).mono ?_; rintro e w' ⟨rfl, hww⟩; obtain rfl := hww.symm)
  refine KD.out.mono ?_; rintro e w1 ⟨X, x, M, t, XA, xc, rfl, ⟨hl, hm⟩, hnew, K1⟩
  clear KD KG
  obtain ⟨L, hL⟩ : ∃ l, M.map EE.t = l := ⟨_, rfl⟩
  have HLn := Lib.hid (show L.length = M.length from by rw [← hL, List.length_map])
  have HSL := Lib.hid (show ∀ x ∈ L, SmE x from by rw [← hL]; exact LsOk.sm hm)
  have HST := Lib.hid hnew.sm
  have hcap := (K1.front 1 rfl).capB
  have hnc := K1.noneCap
  have hwl := hnew.wl
  have HEQ := Lib.hid hL
  clear hm hnew hL
  obtain ⟨g4, hg4⟩ : ∃ g, w1.heap.size = g := ⟨_, rfl⟩
  have K2 := K1.al [.int .i64 t.num, .string t.name, .string t.maker, .int .i64 t.year, .slice XA t.words.length xc] 27
  rw [hg4] at K2
  go_upto_region 4 with fail
  try rw [hg4]
  refine Code.wp.kn K2 ?_; clear K1 K2 hg4; intro w2 K2
  obtain ⟨AL, hAL⟩ : ∃ v, adL L t = v := ⟨_, rfl⟩
  obtain ⟨AC, hAC⟩ : ∃ v, adC L t = v := ⟨_, rfl⟩
  have HSA := Lib.hid (show ∀ x ∈ AL, SmE x from by rw [← hAL]; exact ad_sm HSL.out HST.out)
  have HAN := Lib.hid (show AL.length ≤ 61 from by rw [← hAL]; have := ad_len L t; have := HLn.out; omega)
  have HUN := Lib.hid (fun (h : AC = 0) => show (rmC AL t.num = 0 ∧ enE AL t.num = t ∧ rmL AL t.num = L) ∧ entsOk AL = true from by rw [← hAL]; exact ⟨ad_undo (hAC.trans h), ad_ok (hAC.trans h)⟩)
  have hr1 := ((K2.sel [2, 3] 99 (by decide) (by decide)).rlE' rfl)
  rw [HEQ.out] at hr1
  have KA := AddEntry_any X M.length x L t XA xc w2 hr1 (by omega) HSL.out (Kn.rlSN (K2.front 1 rfl)).2 hnc HST.out
  rw [hAL, hAC] at KA
  unfold AERet at KA
  replace KA := Lib.hid KA
  clear hr1
  obtain ⟨a1, a2, a3, -⟩ := K2.cells
  go_wp2_with fail
  refine KA.out.mono ?_; rintro e w3 ⟨X1, x1, M1, rfl, hM1, hK⟩
  have K3 := K2.join hK
  have HM1 := Lib.hid hM1
  have HL1 := Lib.hid (show M1.length ≤ 61 from by have h1 := congrArg List.length hM1; rw [List.length_map] at h1; have := HAN.out; omega)
  have hcap1 := K3.capB
  clear K2 hK KA a1 a2 a3 hM1
  have hr1 := ((K3.sel [4, 5] 99 (by decide) (by decide)).rlE' rfl)
  rw [HEQ.out] at hr1
  have KA := specAddEntry_any X M.length x L t XA xc w3 hr1 (by omega) hcap.1 hcap.2.2 hcap.2.1 HSL.out (Kn.rlSN (K3.front 3 rfl)).2 hnc HST.out
  rw [hAL, hAC] at KA
  unfold AERet at KA
  replace KA := Lib.hid KA
  clear hr1 hAL hAC
  obtain ⟨a1, a2, a3, -⟩ := (K3.front 2 rfl).cells
  go_wp2_with fail
  refine KA.out.mono ?_; rintro e w4 ⟨X2, x2, M2, rfl, hM2, hK⟩
  have K4 := K3.join hK
  have HM2 := Lib.hid hM2
  have HL2 := Lib.hid (show M2.length ≤ 61 from by have h1 := congrArg List.length hM2; rw [List.length_map] at h1; have := HAN.out; omega)
  clear K3 hK KA a1 a2 a3 hM2
  go_wp2_with fail
  refine (KR.out _ K4.below).mono ?_; rintro e w5 ⟨X3, x3, M3, num, rfl, ⟨hl3, hm3⟩, hK⟩
  have K5 := K4.join hK
  clear K4 hK KR
  obtain ⟨L3, hL3⟩ : ∃ l, M3.map EE.t = l := ⟨_, rfl⟩
  have HLn3 := Lib.hid (show L3.length = M3.length from by rw [← hL3, List.length_map])
  have HSL3 := Lib.hid (show ∀ x ∈ L3, SmE x from by rw [← hL3]; exact LsOk.sm hm3)
  have hcap3 := K5.capB
  have HEQ3 := Lib.hid hL3
  clear hm3 hL3
  obtain ⟨RM, hRM⟩ : ∃ v, rmL L3 num = v := ⟨_, rfl⟩
  obtain ⟨RC, hRC⟩ : ∃ v, rmC L3 num = v := ⟨_, rfl⟩
  obtain ⟨en, hen⟩ : ∃ v, enE L3 num = v := ⟨_, rfl⟩
  have HSR := Lib.hid (show ∀ x ∈ RM, SmE x from by rw [← hRM]; exact fun x hx => HSL3.out x (rm_sub hx))
  have HRN := Lib.hid (show RM.length ≤ 60 from by rw [← hRM]; have := rm_len L3 num; have := HLn3.out; omega)
  have HSE := Lib.hid (show SmE en from by rw [← hen]; exact en_sm HSL3.out)
  have hr3 := ((K5.sel [0, 1] 99 (by decide) (by decide)).rlE' rfl)
  rw [HEQ3.out] at hr3
  have KA := RemoveEntry_any X3 M3.length x3 L3 num w5 hr3 (by omega) hcap3.1 hcap3.2.1 HSL3.out
  rw [hRM, hRC] at KA
  unfold AERet at KA
  replace KA := Lib.hid KA
  clear hr3
  go_wp2_with fail
  refine KA.out.mono ?_; rintro e w6 ⟨X4, x4, M4, rfl, hM4, hK⟩
  have K6 := K5.join hK
  have HM4 := Lib.hid hM4
  have HL4 := Lib.hid (show M4.length ≤ 60 from by have h1 := congrArg List.length hM4; rw [List.length_map] at h1; have := HRN.out; omega)
  clear K5 hK KA hM4
  have hr3 := ((K6.sel [2, 3] 99 (by decide) (by decide)).rlE' rfl)
  rw [HEQ3.out] at hr3
  have KA := specRemoveEntry_any X3 M3.length x3 L3 num w6 hr3 (by omega) hcap3.1 hcap3.2.1 HSL3.out
  rw [hRM, hRC] at KA
  unfold AERet at KA
  replace KA := Lib.hid KA
  clear hr3
  go_wp2_with fail
  refine KA.out.mono ?_; rintro e w7 ⟨X5, x5, M5, rfl, hM5, hK⟩
  have K7 := K6.join hK
  have HM5 := Lib.hid hM5
  have HL5 := Lib.hid (show M5.length ≤ 60 from by have h1 := congrArg List.length hM5; rw [List.length_map] at h1; have := HRN.out; omega)
  clear K6 hK KA hM5
  have hr3 := ((K7.sel [4, 5] 99 (by decide) (by decide)).rlE' rfl)
  rw [HEQ3.out] at hr3
  have KA := EntryNumbered_any X3 M3.length x3 L3 num w7 hr3 (by omega) HSL3.out
  rw [hen, hRC] at KA
  unfold ENRet at KA
  replace KA := Lib.hid KA
  clear hr3
  go_wp2_with fail
  refine KA.out.mono ?_; rintro e w8 ⟨XE, xe, rfl, hK⟩
  have K8' := K7.join hK
  have hne := hK.noneCap
  clear K7 hK KA
  obtain ⟨g15, hg15⟩ : ∃ g, w8.heap.size = g := ⟨_, rfl⟩
  have K8 := K8'.al [.int .i64 en.num, .string en.name, .string en.maker, .int .i64 en.year, .slice XE en.words.length xe] 27
  rw [hg15] at K8
  go_upto_region 10 with fail
  try rw [hg15]
  refine Code.wp.kn K8 ?_; clear K8' K8 hg15; intro w9 K8
  have hr3 := ((K8.sel [6, 7] 99 (by decide) (by decide)).rlE' rfl)
  rw [HEQ3.out] at hr3
  have KA := specEntryNumbered_any X3 M3.length x3 L3 num w9 hr3 (by omega) HSL3.out
  rw [hen, hRC] at KA
  unfold ENRet at KA
  replace KA := Lib.hid KA
  clear hr3 hen hRC hRM
  go_wp2_with fail
  refine KA.out.mono ?_; rintro e w10 ⟨XO, xo, rfl, hK⟩
  have K9' := K8.join hK
  have hno := hK.noneCap
  clear K8 hK KA
  obtain ⟨g17, hg17⟩ : ∃ g, w10.heap.size = g := ⟨_, rfl⟩
  have K9 := K9'.al [.int .i64 en.num, .string en.name, .string en.maker, .int .i64 en.year, .slice XO en.words.length xo] 27
  rw [hg17] at K9
  go_upto_region 11 with fail
  try rw [hg17]
  refine Code.wp.kn K9 ?_; clear K9' K9 hg17; intro w11 K9
  go_wp2_with fail
  refine (KT.out _ K9.below).mono ?_; rintro e w12 ⟨X6, x6, M6, rfl, ⟨hl6, hm6⟩, hK⟩
  have K10 := K9.join hK
  clear K9 hK KT
  obtain ⟨L6, hL6⟩ : ∃ l, M6.map EE.t = l := ⟨_, rfl⟩
  have HSL6 := Lib.hid (show ∀ x ∈ L6, SmE x from by rw [← hL6]; exact LsOk.sm hm6)
  have HEQ6 := Lib.hid hL6
  clear hm6 hL6
  obtain ⟨T, hT⟩ : ∃ T, mkS (entT L6) = T := ⟨_, rfl⟩
  have hTs := (text_back hT).1
  have HTX := Lib.hid (text_back hT).2
  have hr6 := ((K10.sel [0, 1] 99 (by decide) (by decide)).rlE' rfl)
  rw [HEQ6.out] at hr6
  have KA := EntriesText_any X6 M6.length x6 L6 w12 hr6 (by omega) HSL6.out (HTB.out _ K10.below)
  rw [hT] at KA
  replace KA := Lib.hid KA
  clear hr6
  go_wp2_with fail
  refine KA.out.mono ?_; rintro e w13 ⟨rfl, hw⟩
  have K11 := K10.keep hw
  clear K10 hw KA
  obtain ⟨RB1, hRB1⟩ : ∃ v, readsB (strB T) = v := ⟨_, rfl⟩
  obtain ⟨RE1, hRE1⟩ : ∃ v, readE (strB T) = v := ⟨_, rfl⟩
  have KA := ReadEntries_any T w13 (by omega) (HTB.out _ K11.below)
  rw [hRB1, hRE1] at KA HTX
  have HSE1 := Lib.hid (show ∀ x ∈ RE1, SmE x from by rw [← hRE1]; exact readE_sm (by rw [strB_len]; omega))
  have HN1 := Lib.hid (show RE1.length ≤ 100000 from by rw [← hRE1]; have := readE_len (strB T); rw [strB_len] at this; omega)
  unfold RERet at KA
  replace KA := Lib.hid KA
  go_wp2_with fail
  refine KA.out.mono ?_; rintro e w14 ⟨X7, x7, M7, rfl, hM7, hK⟩
  have K12 := K11.join hK
  have HM7 := Lib.hid hM7
  have HL7 := Lib.hid (show M7.length ≤ 100000 from by have h1 := congrArg List.length hM7; rw [List.length_map] at h1; have := HN1.out; omega)
  clear K11 hK KA hM7 hRB1 hRE1
  go_wp2_with fail
  refine (KS.out _ K12.below).mono ?_; rintro e w15 ⟨S, rfl, hSs, hw⟩
  have K13 := K12.keep hw
  clear K12 hw KS
  obtain ⟨RB2, hRB2⟩ : ∃ v, readsB (strB S) = v := ⟨_, rfl⟩
  obtain ⟨RE2, hRE2⟩ : ∃ v, readE (strB S) = v := ⟨_, rfl⟩
  have HSE2 := Lib.hid (show ∀ x ∈ RE2, SmE x from by rw [← hRE2]; exact readE_sm (by rw [strB_len]; omega))
  have HN2 := Lib.hid (show RE2.length ≤ 100000 from by rw [← hRE2]; have := readE_len (strB S); rw [strB_len] at this; omega)
  have KA := ReadEntries_any S w15 (by omega) (HTB.out _ K13.below)
  have KB := fun W => specReadEntries_any S W (by omega)
  unfold RERet at KA KB
  simp only [hRB2, hRE2] at KA KB
  replace KA := Lib.hid KA
  replace KB := Lib.hid KB
  clear hRB2 hRE2
  go_wp2_with fail
  refine KA.out.mono ?_; rintro e w16 ⟨X8, x8, M8, rfl, hM8, hK⟩
  have K14 := K13.join hK
  have HM8 := Lib.hid hM8
  have HL8 := Lib.hid (show M8.length ≤ 100000 from by have h1 := congrArg List.length hM8; rw [List.length_map] at h1; have := HN2.out; omega)
  clear K13 hK KA hM8
  go_wp2_with fail
  refine (KB.out _).mono ?_; rintro e w17 ⟨X9, x9, M9, rfl, hM9, hK⟩
  have K15 := K14.join hK
  have HM9 := Lib.hid hM9
  have HL9 := Lib.hid (show M9.length ≤ 100000 from by have h1 := congrArg List.length hM9; rw [List.length_map] at h1; have := HN2.out; omega)
  clear K14 hK KB hM9
  go_wp2_with fail
  refine (KU.out _ K15.below).mono ?_; rintro e w20 ⟨PA, pn, pc, PL, QA, qn, qc, QL, rfl, hPR, hQR, ⟨hpn, hqn⟩, hPS, hQS, hw⟩
  have K := K15.keep hw
  clear K15 hw KU
  have q9 := ((K.sel [0, 1] 99 (by decide) (by decide)).rlE' rfl)
  rw [HM9.out] at q9
  have q8 := ((K.sel [2, 3] 99 (by decide) (by decide)).rlE' rfl)
  rw [HM8.out] at q8
  have q7 := ((K.sel [4, 5] 99 (by decide) (by decide)).rlE' rfl)
  rw [HM7.out] at q7
  have q6 := ((K.sel [6, 7] 99 (by decide) (by decide)).rlE' rfl)
  rw [HEQ6.out] at q6
  have q5 := ((K.sel [12, 13] 99 (by decide) (by decide)).rlE' rfl)
  rw [HM5.out] at q5
  have q4 := ((K.sel [14, 15] 99 (by decide) (by decide)).rlE' rfl)
  rw [HM4.out] at q4
  have q2 := ((K.sel [18, 19] 99 (by decide) (by decide)).rlE' rfl)
  rw [HM2.out] at q2
  have q1 := ((K.sel [20, 21] 99 (by decide) (by decide)).rlE' rfl)
  rw [HM1.out] at q1
  have q0 := ((K.sel [24, 25] 99 (by decide) (by decide)).rlE' rfl)
  rw [HEQ.out] at q0
  have R9 := Lib.hid (fun W (hW : Below w20.heap.size w20 W) => q9.below steady_EtrM hW)
  have R8 := Lib.hid (fun W (hW : Below w20.heap.size w20 W) => q8.below steady_EtrM hW)
  have R7 := Lib.hid (fun W (hW : Below w20.heap.size w20 W) => q7.below steady_EtrM hW)
  have R6 := Lib.hid (fun W (hW : Below w20.heap.size w20 W) => q6.below steady_EtrM hW)
  have R5 := Lib.hid (fun W (hW : Below w20.heap.size w20 W) => q5.below steady_EtrM hW)
  have R4 := Lib.hid (fun W (hW : Below w20.heap.size w20 W) => q4.below steady_EtrM hW)
  have R2 := Lib.hid (fun W (hW : Below w20.heap.size w20 W) => q2.below steady_EtrM hW)
  have R1 := Lib.hid (fun W (hW : Below w20.heap.size w20 W) => q1.below steady_EtrM hW)
  have R0 := Lib.hid (fun W (hW : Below w20.heap.size w20 W) => q0.below steady_EtrM hW)
  have RP := Lib.hid (fun W (hW : Below w20.heap.size w20 W) => hPR.below steady_EtrM hW)
  have RQ := Lib.hid (fun W (hW : Below w20.heap.size w20 W) => hQR.below steady_EtrM hW)
  have W0 := Lib.hid (fun W (hW : Below w20.heap.size w20 W) => (Kn.rlSN (K.front 23 rfl)).2.below steady_StrM hW)
  have WE := Lib.hid (fun W (hW : Below w20.heap.size w20 W) => (Kn.rlSN (K.front 11 rfl)).2.below steady_StrM hW)
  have WO := Lib.hid (fun W (hW : Below w20.heap.size w20 W) => (Kn.rlSN (K.front 9 rfl)).2.below steady_StrM hW)
  have B4 := Lib.hid (fun W (hW : Below w20.heap.size w20 W) => boxKeep hW (K.front 22 rfl).cells.2.2.1 (box5 (K.front 22 rfl)))
  have B15 := Lib.hid (fun W (hW : Below w20.heap.size w20 W) => boxKeep hW (K.front 10 rfl).cells.2.2.1 (box5 (K.front 10 rfl)))
  have B17 := Lib.hid (fun W (hW : Below w20.heap.size w20 W) => boxKeep hW (K.front 8 rfl).cells.2.2.1 (box5 (K.front 8 rfl)))
  have HPS := Lib.hid hPS
  have HQS := Lib.hid hQS
  have HBW := Lib.hid K.below
  clear K q9 q8 q7 q6 q5 q4 q2 q1 q0 hPR hQR hPS hQS HM9 HM8 HM7 HEQ6 HM5 HM4 HM2 HM1 HEQ
  have K0 := Kn.nil w20
  have HT6 := Lib.hid hT
  clear hT
  have KA := specSameEntries_any X1 X2 M1.length M2.length x1 x2 AL AL w20 (R1.out _ K0.below) (R2.out _ K0.below) (by have := HL1.out; omega) (by have := HL2.out; omega) HSA.out HSA.out
  try rw [eqEs_same] at KA
  go_wp2_with fail
  all_goals first | (exfalso; rename_i hq1 _ _ _; cases hq1; done) | skip
  refine KA.mono ?_; rintro e w21 ⟨rfl, hw⟩
  have K1 := K0.keep hw
  clear KA K0 hw
  have KA := specSameEntries_any X4 X5 M4.length M5.length x4 x5 RM RM w21 (R4.out _ K1.below) (R5.out _ K1.below) (by have := HL4.out; omega) (by have := HL5.out; omega) HSR.out HSR.out
  try rw [eqEs_same] at KA
  go_wp2_with fail
  all_goals first | (exfalso; rename_i hq1 _ _ _; cases hq1; done) | skip
  refine KA.mono ?_; rintro e w22 ⟨rfl, hw⟩
  have K2 := K1.keep hw
  clear KA K1 hw
  obtain ⟨e0, e1, e2, e3, e4⟩ := B15.out _ K2.below
  have hO : (w22.alloc (.cells #[.int .i64 en.num, .string en.name, .string en.maker, .int .i64 en.year, .slice XE en.words.length xe] 27)).cell? ⟨g17, 0, none⟩ = some (.int .i64 en.num) ∧ (w22.alloc (.cells #[.int .i64 en.num, .string en.name, .string en.maker, .int .i64 en.year, .slice XE en.words.length xe] 27)).cell? ⟨g17, 1, none⟩ = some (.string en.name) ∧ (w22.alloc (.cells #[.int .i64 en.num, .string en.name, .string en.maker, .int .i64 en.year, .slice XE en.words.length xe] 27)).cell? ⟨g17, 2, none⟩ = some (.string en.maker) ∧ (w22.alloc (.cells #[.int .i64 en.num, .string en.name, .string en.maker, .int .i64 en.year, .slice XE en.words.length xe] 27)).cell? ⟨g17, 3, none⟩ = some (.int .i64 en.year) ∧ (w22.alloc (.cells #[.int .i64 en.num, .string en.name, .string en.maker, .int .i64 en.year, .slice XE en.words.length xe] 27)).cell? ⟨g17, 4, none⟩ = some (.slice XO en.words.length xo) := B17.out _ (K2.al [.int .i64 en.num, .string en.name, .string en.maker, .int .i64 en.year, .slice XE en.words.length xe] 27).below
  obtain ⟨o0, o1, o2, o3, o4⟩ := hO
  have K3 := (K2.al [.int .i64 en.num, .string en.name, .string en.maker, .int .i64 en.year, .slice XE en.words.length xe] 27).al [.int .i64 en.num, .string en.name, .string en.maker, .int .i64 en.year, .slice XO en.words.length xo] 27
  simp only [World.size_alloc] at K3
  go_wp2_with fail
  clear e0 e1 e2 e3 e4 o0 o1 o2 o3 o4
  obtain ⟨h1, hh1⟩ : ∃ h, w22.heap.size = h := ⟨_, rfl⟩
  rw [hh1] at K3
  try rw [hh1]
  try simp only [hh1]
  refine Calls.kn K3 ?_; clear K2 K3 hh1; intro w23 K3
  have KA := specSameEntries_any (some ⟨h1, 0, none⟩) (some ⟨h1 + 1, 0, none⟩) 1 1 1 1 [en] [en] w23 (bun_rl (K3.front 1 rfl) (WE.out _ K3.below) hne) (bun_rl K3 (WO.out _ K3.below) hno) (by omega) (by omega) (fun x hx => by rw [List.mem_singleton.1 hx]; exact HSE.out) (fun x hx => by rw [List.mem_singleton.1 hx]; exact HSE.out)
  rw [eqEs_same] at KA
  refine KA.mono ?_; rintro e w24 ⟨rfl, hw⟩
  have K4 := (K3.keep hw).bare
  clear KA K3 hw
  have KA := specEntriesText_any X6 M6.length x6 L6 w24 (R6.out _ K4.below) (by omega) HSL6.out
  rw [HT6.out] at KA
  have hxx : (T.toList == T.toList) = true := by simp
  have hxy : (T.toList != T.toList) = false := by simp
  go_wp2_with fail
  refine KA.mono ?_; rintro e w25 ⟨rfl, hw⟩
  have K5 := K4.keep hw
  clear KA K4 hw
  by_cases hT0 : 0 < T.size
  · have hE := str_nonempty hT0
    obtain ⟨hq1, hq2⟩ := HTX.out hE
    subst hq1
    subst hq2
    have KA := specSameEntries_any X7 X6 M7.length M6.length x7 x6 RE1 RE1 w25 (R7.out _ K5.below) (R6.out _ K5.below) (by have := HL7.out; omega) (by have := hl6; omega) HSE1.out HSL6.out
    try rw [eqEs_same] at KA
    go_wp2_with fail
    all_goals first | (exfalso; rename_i hq1 _ _ _; cases hq1; done) | skip
    refine KA.mono ?_; rintro e w26 ⟨rfl, hw⟩
    have K6 := K5.keep hw
    clear KA K5 hw
    have hbb : (RB2 != RB2) = false := by simp
    have KA := specSameEntries_any X8 X9 M8.length M9.length x8 x9 RE2 RE2 w26 (R8.out _ K6.below) (R9.out _ K6.below) (by have := HL8.out; omega) (by have := HL9.out; omega) HSE2.out HSE2.out
    try rw [eqEs_same] at KA
    go_wp2_with fail
    all_goals first | (exfalso; rename_i hq1 _ _ _; cases hq1; done) | skip
    refine KA.mono ?_; rintro e w27 ⟨rfl, hw⟩
    have K7 := K6.keep hw
    clear KA K6 hw
    obtain ⟨sb, hsb⟩ : ∃ v, eqEs PL QL = v := ⟨_, rfl⟩
    have hss : (sb != sb) = false := by simp
    have KA := SameEntries_any PA QA pn qn pc qc PL QL w27 (RP.out _ K7.below) (RQ.out _ K7.below) (by omega) (by omega) HPS.out HQS.out
    rw [hsb] at KA
    go_wp2_with fail
    refine KA.mono ?_; rintro e w28 ⟨rfl, hw⟩
    have K8 := K7.keep hw
    clear KA K7 hw
    have KA := specSameEntries_any PA QA pn qn pc qc PL QL w28 (RP.out _ K8.below) (RQ.out _ K8.below) (by omega) (by omega) HPS.out HQS.out
    rw [hsb] at KA
    go_wp2_with fail
    refine KA.mono ?_; rintro e w29 ⟨rfl, hw⟩
    have K9 := K8.keep hw
    clear KA K8 hw hsb
    obtain ⟨vb, hvb⟩ : ∃ v, entsOk L = v := ⟨_, rfl⟩
    have hvv : (vb != vb) = false := by simp
    have KA := ValidEntries_any X M.length x L w29 (R0.out _ K9.below) (by omega) HSL.out
    rw [hvb] at KA
    go_wp2_with fail
    refine KA.mono ?_; rintro e w30 ⟨rfl, hw⟩
    have K10 := K9.keep hw
    clear KA K9 hw
    have KA := specValidEntries_any X M.length x L w30 (R0.out _ K10.below) (by omega) HSL.out
    rw [hvb] at KA
    go_wp2_with fail
    refine KA.mono ?_; rintro e w31 ⟨rfl, hw⟩
    have K11 := K10.keep hw
    clear KA K10 hw hvb
    by_cases hAC : AC = 0
    rotate_left
    · have hac : (AC == 0) = false := beq_eq_false_iff_ne.2 hAC
      have had : (AC != 0) = true := bne_iff_ne.2 hAC
      go_wp2_with fail
      go_ret
      exact ⟨rfl, HBW.out.trans (K11.below.mono HBW.out.size)⟩
    · subst hAC
      obtain ⟨⟨u1, u2, u3⟩, u4⟩ := HUN.out rfl
      have KA := (fun W (hW : Below w20.heap.size w20 W) => EntryNumbered_any X1 M1.length x1 AL t.num W (R1.out _ hW) (by have := HL1.out; omega) HSA.out)
      have KB := (fun W (hW : Below w20.heap.size w20 W) => RemoveEntry_any X1 M1.length x1 AL t.num W (R1.out _ hW) (by have := HL1.out; omega) hcap1.1 hcap1.2.1 HSA.out)
      have KC := (fun W (hW : Below w20.heap.size w20 W) => ValidEntries_any X1 M1.length x1 AL W (R1.out _ hW) (by have := HL1.out; omega) HSA.out)
      simp only [u1, u2] at KA
      simp only [u1, u3] at KB
      simp only [u4] at KC
      unfold ENRet at KA
      unfold AERet at KB
      replace KA := Lib.hid KA
      replace KB := Lib.hid KB
      replace KC := Lib.hid KC
      clear u1 u2 u3 u4
      obtain ⟨b0, b1, b2, b3, b4⟩ := B4.out _ K11.below
      go_wp2_with fail
      refine (KA.out _ K11.below).mono ?_; rintro e w32 ⟨XF, xf, rfl, hK⟩
      have K12' := K11.join hK
      have hnf := hK.noneCap
      clear K11 hK KA b0 b1 b2 b3 b4
      obtain ⟨g30, hg30⟩ : ∃ g, w32.heap.size = g := ⟨_, rfl⟩
      have K12 := K12'.al [.int .i64 t.num, .string t.name, .string t.maker, .int .i64 t.year, .slice XF t.words.length xf] 27
      rw [hg30] at K12
      go_upto_region 23 with fail
      try rw [hg30]
      refine Code.wp.kn K12 ?_; clear K12' K12 hg30; intro w33 K12
      obtain ⟨b0, b1, b2, b3, b4⟩ := B4.out _ K12.below
      go_wp2_with fail
      refine (KB.out _ K12.below).mono ?_; rintro e w34 ⟨XG, xg, MG, rfl, hMG, hK⟩
      have K13 := K12.join hK
      clear K12 hK KB b0 b1 b2 b3 b4
      have hlg : MG.length ≤ 100 := by have h1 := congrArg List.length hMG; rw [List.length_map] at h1; have := HLn.out; omega
      obtain ⟨e0, e1, e2, e3, e4⟩ := box5 (K13.front 2 rfl)
      have hO : (w34.alloc (.cells #[.int .i64 t.num, .string t.name, .string t.maker, .int .i64 t.year, .slice XF t.words.length xf] 27)).cell? ⟨g4, 0, none⟩ = some (.int .i64 t.num) ∧ (w34.alloc (.cells #[.int .i64 t.num, .string t.name, .string t.maker, .int .i64 t.year, .slice XF t.words.length xf] 27)).cell? ⟨g4, 1, none⟩ = some (.string t.name) ∧ (w34.alloc (.cells #[.int .i64 t.num, .string t.name, .string t.maker, .int .i64 t.year, .slice XF t.words.length xf] 27)).cell? ⟨g4, 2, none⟩ = some (.string t.maker) ∧ (w34.alloc (.cells #[.int .i64 t.num, .string t.name, .string t.maker, .int .i64 t.year, .slice XF t.words.length xf] 27)).cell? ⟨g4, 3, none⟩ = some (.int .i64 t.year) ∧ (w34.alloc (.cells #[.int .i64 t.num, .string t.name, .string t.maker, .int .i64 t.year, .slice XF t.words.length xf] 27)).cell? ⟨g4, 4, none⟩ = some (.slice XA t.words.length xc) := B4.out _ (K13.al [.int .i64 t.num, .string t.name, .string t.maker, .int .i64 t.year, .slice XF t.words.length xf] 27).below
      obtain ⟨o0, o1, o2, o3, o4⟩ := hO
      have K14 := (K13.al [.int .i64 t.num, .string t.name, .string t.maker, .int .i64 t.year, .slice XF t.words.length xf] 27).al [.int .i64 t.num, .string t.name, .string t.maker, .int .i64 t.year, .slice XA t.words.length xc] 27
      simp only [World.size_alloc] at K14
      go_wp2_with fail
      clear e0 e1 e2 e3 e4 o0 o1 o2 o3 o4
      obtain ⟨h1, hh1⟩ : ∃ h, w34.heap.size = h := ⟨_, rfl⟩
      rw [hh1] at K14
      try rw [hh1]
      try simp only [hh1]
      refine Calls.kn K14 ?_; clear K13 K14 hh1; intro w35 K14
      have KA := specSameEntries_any (some ⟨h1, 0, none⟩) (some ⟨h1 + 1, 0, none⟩) 1 1 1 1 [t] [t] w35 (bun_rl (K14.front 1 rfl) (Kn.rlSN (K14.front 5 rfl)).2 hnf) (bun_rl K14 (W0.out _ K14.below) hnc) (by omega) (by omega) (fun x hx => by rw [List.mem_singleton.1 hx]; exact HST.out) (fun x hx => by rw [List.mem_singleton.1 hx]; exact HST.out)
      rw [eqEs_same] at KA
      refine KA.mono ?_; rintro e w36 ⟨rfl, hw⟩
      have K15 := K14.keep hw
      clear KA K14 hw
      have hrg := (K15.sel [2, 3] 99 (by decide) (by decide)).rlE' rfl
      rw [hMG] at hrg
      have KD := specSameEntries_any XG X MG.length M.length xg x L L w36 hrg (R0.out _ K15.below) (by omega) (by omega) HSL.out HSL.out
      rw [eqEs_same] at KD
      clear hrg hMG
      go_wp2_with fail
      refine KD.mono ?_; rintro e w37 ⟨rfl, hw⟩
      have K16 := K15.keep hw
      clear KD K15 hw
      go_wp2_with fail
      refine (KC.out _ K16.below).mono ?_; rintro e w38 ⟨rfl, hw⟩
      have K17 := K16.keep hw
      clear KC K16 hw
      go_wp2_with fail
      go_ret
      exact ⟨rfl, HBW.out.trans (K17.below.mono HBW.out.size)⟩
  · obtain rfl := size_zero (show T.size = 0 by omega)
    have K6 := K5
    obtain ⟨w26, hw26⟩ : ∃ W, w25 = W := ⟨_, rfl⟩
    rw [hw26] at K6
    rw [hw26]
    clear K5 hw26
    have hbb : (RB2 != RB2) = false := by simp
    have KA := specSameEntries_any X8 X9 M8.length M9.length x8 x9 RE2 RE2 w26 (R8.out _ K6.below) (R9.out _ K6.below) (by have := HL8.out; omega) (by have := HL9.out; omega) HSE2.out HSE2.out
    try rw [eqEs_same] at KA
    go_wp2_with fail
    all_goals first | (exfalso; rename_i hq1 _ _ _; cases hq1; done) | skip
    refine KA.mono ?_; rintro e w27 ⟨rfl, hw⟩
    have K7 := K6.keep hw
    clear KA K6 hw
    obtain ⟨sb, hsb⟩ : ∃ v, eqEs PL QL = v := ⟨_, rfl⟩
    have hss : (sb != sb) = false := by simp
    have KA := SameEntries_any PA QA pn qn pc qc PL QL w27 (RP.out _ K7.below) (RQ.out _ K7.below) (by omega) (by omega) HPS.out HQS.out
    rw [hsb] at KA
    go_wp2_with fail
    refine KA.mono ?_; rintro e w28 ⟨rfl, hw⟩
    have K8 := K7.keep hw
    clear KA K7 hw
    have KA := specSameEntries_any PA QA pn qn pc qc PL QL w28 (RP.out _ K8.below) (RQ.out _ K8.below) (by omega) (by omega) HPS.out HQS.out
    rw [hsb] at KA
    go_wp2_with fail
    refine KA.mono ?_; rintro e w29 ⟨rfl, hw⟩
    have K9 := K8.keep hw
    clear KA K8 hw hsb
    obtain ⟨vb, hvb⟩ : ∃ v, entsOk L = v := ⟨_, rfl⟩
    have hvv : (vb != vb) = false := by simp
    have KA := ValidEntries_any X M.length x L w29 (R0.out _ K9.below) (by omega) HSL.out
    rw [hvb] at KA
    go_wp2_with fail
    refine KA.mono ?_; rintro e w30 ⟨rfl, hw⟩
    have K10 := K9.keep hw
    clear KA K9 hw
    have KA := specValidEntries_any X M.length x L w30 (R0.out _ K10.below) (by omega) HSL.out
    rw [hvb] at KA
    go_wp2_with fail
    refine KA.mono ?_; rintro e w31 ⟨rfl, hw⟩
    have K11 := K10.keep hw
    clear KA K10 hw hvb
    by_cases hAC : AC = 0
    rotate_left
    · have hac : (AC == 0) = false := beq_eq_false_iff_ne.2 hAC
      have had : (AC != 0) = true := bne_iff_ne.2 hAC
      go_wp2_with fail
      go_ret
      exact ⟨rfl, HBW.out.trans (K11.below.mono HBW.out.size)⟩
    · subst hAC
      obtain ⟨⟨u1, u2, u3⟩, u4⟩ := HUN.out rfl
      have KA := (fun W (hW : Below w20.heap.size w20 W) => EntryNumbered_any X1 M1.length x1 AL t.num W (R1.out _ hW) (by have := HL1.out; omega) HSA.out)
      have KB := (fun W (hW : Below w20.heap.size w20 W) => RemoveEntry_any X1 M1.length x1 AL t.num W (R1.out _ hW) (by have := HL1.out; omega) hcap1.1 hcap1.2.1 HSA.out)
      have KC := (fun W (hW : Below w20.heap.size w20 W) => ValidEntries_any X1 M1.length x1 AL W (R1.out _ hW) (by have := HL1.out; omega) HSA.out)
      simp only [u1, u2] at KA
      simp only [u1, u3] at KB
      simp only [u4] at KC
      unfold ENRet at KA
      unfold AERet at KB
      replace KA := Lib.hid KA
      replace KB := Lib.hid KB
      replace KC := Lib.hid KC
      clear u1 u2 u3 u4
      obtain ⟨b0, b1, b2, b3, b4⟩ := B4.out _ K11.below
      go_wp2_with fail
      refine (KA.out _ K11.below).mono ?_; rintro e w32 ⟨XF, xf, rfl, hK⟩
      have K12' := K11.join hK
      have hnf := hK.noneCap
      clear K11 hK KA b0 b1 b2 b3 b4
      obtain ⟨g30, hg30⟩ : ∃ g, w32.heap.size = g := ⟨_, rfl⟩
      have K12 := K12'.al [.int .i64 t.num, .string t.name, .string t.maker, .int .i64 t.year, .slice XF t.words.length xf] 27
      rw [hg30] at K12
      go_upto_region 23 with fail
      try rw [hg30]
      refine Code.wp.kn K12 ?_; clear K12' K12 hg30; intro w33 K12
      obtain ⟨b0, b1, b2, b3, b4⟩ := B4.out _ K12.below
      go_wp2_with fail
      refine (KB.out _ K12.below).mono ?_; rintro e w34 ⟨XG, xg, MG, rfl, hMG, hK⟩
      have K13 := K12.join hK
      clear K12 hK KB b0 b1 b2 b3 b4
      have hlg : MG.length ≤ 100 := by have h1 := congrArg List.length hMG; rw [List.length_map] at h1; have := HLn.out; omega
      obtain ⟨e0, e1, e2, e3, e4⟩ := box5 (K13.front 2 rfl)
      have hO : (w34.alloc (.cells #[.int .i64 t.num, .string t.name, .string t.maker, .int .i64 t.year, .slice XF t.words.length xf] 27)).cell? ⟨g4, 0, none⟩ = some (.int .i64 t.num) ∧ (w34.alloc (.cells #[.int .i64 t.num, .string t.name, .string t.maker, .int .i64 t.year, .slice XF t.words.length xf] 27)).cell? ⟨g4, 1, none⟩ = some (.string t.name) ∧ (w34.alloc (.cells #[.int .i64 t.num, .string t.name, .string t.maker, .int .i64 t.year, .slice XF t.words.length xf] 27)).cell? ⟨g4, 2, none⟩ = some (.string t.maker) ∧ (w34.alloc (.cells #[.int .i64 t.num, .string t.name, .string t.maker, .int .i64 t.year, .slice XF t.words.length xf] 27)).cell? ⟨g4, 3, none⟩ = some (.int .i64 t.year) ∧ (w34.alloc (.cells #[.int .i64 t.num, .string t.name, .string t.maker, .int .i64 t.year, .slice XF t.words.length xf] 27)).cell? ⟨g4, 4, none⟩ = some (.slice XA t.words.length xc) := B4.out _ (K13.al [.int .i64 t.num, .string t.name, .string t.maker, .int .i64 t.year, .slice XF t.words.length xf] 27).below
      obtain ⟨o0, o1, o2, o3, o4⟩ := hO
      have K14 := (K13.al [.int .i64 t.num, .string t.name, .string t.maker, .int .i64 t.year, .slice XF t.words.length xf] 27).al [.int .i64 t.num, .string t.name, .string t.maker, .int .i64 t.year, .slice XA t.words.length xc] 27
      simp only [World.size_alloc] at K14
      go_wp2_with fail
      clear e0 e1 e2 e3 e4 o0 o1 o2 o3 o4
      obtain ⟨h1, hh1⟩ : ∃ h, w34.heap.size = h := ⟨_, rfl⟩
      rw [hh1] at K14
      try rw [hh1]
      try simp only [hh1]
      refine Calls.kn K14 ?_; clear K13 K14 hh1; intro w35 K14
      have KA := specSameEntries_any (some ⟨h1, 0, none⟩) (some ⟨h1 + 1, 0, none⟩) 1 1 1 1 [t] [t] w35 (bun_rl (K14.front 1 rfl) (Kn.rlSN (K14.front 5 rfl)).2 hnf) (bun_rl K14 (W0.out _ K14.below) hnc) (by omega) (by omega) (fun x hx => by rw [List.mem_singleton.1 hx]; exact HST.out) (fun x hx => by rw [List.mem_singleton.1 hx]; exact HST.out)
      rw [eqEs_same] at KA
      refine KA.mono ?_; rintro e w36 ⟨rfl, hw⟩
      have K15 := K14.keep hw
      clear KA K14 hw
      have hrg := (K15.sel [2, 3] 99 (by decide) (by decide)).rlE' rfl
      rw [hMG] at hrg
      have KD := specSameEntries_any XG X MG.length M.length xg x L L w36 hrg (R0.out _ K15.below) (by omega) (by omega) HSL.out HSL.out
      rw [eqEs_same] at KD
      clear hrg hMG
      go_wp2_with fail
      refine KD.mono ?_; rintro e w37 ⟨rfl, hw⟩
      have K16 := K15.keep hw
      clear KD K15 hw
      go_wp2_with fail
      refine (KC.out _ K16.below).mono ?_; rintro e w38 ⟨rfl, hw⟩
      have K17 := K16.keep hw
      clear KC K16 hw
      go_wp2_with fail
      go_ret
      exact ⟨rfl, HBW.out.trans (K17.below.mono HBW.out.size)⟩
end Go.Proofs.YtgljafiegpjlkaaGreatDoor

namespace Go.Proofs.YtgljafiegpjlkaaGreatDoor
open Go.RowKit Go.ChangeShapes Go.WideShapes Go.ChangeAt
section
variable {H : Type} {enc : TypeId × Value → H} {w : World} {base : Nat} {spare : Nat → Bool} {held : Bool} {fuel : Nat} {cs : List Value} {x : DataW H × List MemPlace}
theorem cellsU8 : Tryz.prog.cellsOf 5 = 1 := by kernel_rfl
theorem byteV_of (z : Int) (h0 : 0 ≤ z) (h1 : z ≤ 255) : Value.int .u8 z = byteV (UInt8.ofNat z.toNat) := by
  unfold byteV
  congr 1
  rw [UInt8.toNat_ofNat']
  omega
theorem rd_bytes (h : DataW.trod enc Tryz.prog w base spare held fuel 22 cs = some x) : ∃ A n c bs, cs = [.slice A n c] ∧ RB w A n bs ∧ n ≤ 9223372036854775807 := by
  rcases open_ints Tryz.underlying22 Tryz.underlying5 cellsU8 h with ⟨rfl, _⟩ | ⟨a, len, cap, zs, rfl, _, hl, hm, hz, _, hcell, hwf⟩
  · exact ⟨none, 0, 0, [], rfl, ⟨rfl, fun h => absurd h (by omega)⟩, by omega⟩
  · have hlen : len ≤ zs.length := by rw [hz]; split <;> omega
    have hw : ∀ z ∈ zs, 0 ≤ z ∧ z ≤ 255 := fun z hz => by
      have h := hwf z hz
      have h1 : IntKind.u8.min = 0 := by decide
      have h2 : IntKind.u8.max = 255 := by decide
      simp [Lit.wf] at h
      omega
    refine ⟨some a, len, cap, (zs.take len).map (fun z => UInt8.ofNat z.toNat), rfl, ⟨by simp; omega, fun h0 => ⟨a, rfl, ?_, fun j u hu => ?_⟩⟩, by simp only [maxLen] at hm; omega⟩
    · have := World.block_lt_of_cell? w _ (hcell 0 (by omega)); rwa [block_of_add] at this
    · rw [List.getElem?_map, List.getElem?_take] at hu
      split at hu
      · have hj : j < zs.length := by omega
        rw [List.getElem?_eq_getElem hj] at hu
        have hu' : UInt8.ofNat zs[j].toNat = u := by simpa using hu
        obtain ⟨z0, z1⟩ := hw zs[j] (List.getElem_mem _)
        rw [hcell j hj, ← hu', ← byteV_of _ z0 z1]
        simp [List.getD, List.getElem?_eq_getElem hj]
      · simp at hu
end
end Go.Proofs.YtgljafiegpjlkaaGreatDoor
