/- For every input the law FnAccumulators returns true and leaves its arguments as they were: what is set is shown, the opposite of the opposite is the number, and widening keeps it. Condition: the tables of strconv hold what the program's text lays (tied by the card). -/
import Derived.Test.YtcapccadpbiecaaDoorZC1
import Derived.Test.YtcapccadpbiecaaDoorZC2
import Derived.Test.YtcapccadpbiecaaDoorZC3
import Derived.Test.YtcapccadpbiecaaDoorZC4
import Derived.Test.YtcapccadpbiecaaDoorZC5
import Derived.Test.YtcapccadpbiecaaDoorZC6
import Derived.Test.YtcapccadpbiecaaDoorZC7
import Derived.Test.YtcapccadpbiecaaDoorZC8
import Derived.Test.YtcapccadpbiecaaDoorZC9
import Derived.WalkSmall
import Derived.Laws.Bits64b
import Derived.Deep.RegionHeld3
import Derived.Deep.DeepCutAuto
import Derived.ProofKit
import Derived.Carry
import Derived.OpenShut
import Derived.ChangeMaps5
namespace Go.Proofs.YtcapccadpbiecaaDoor
open Go.RowKit Go.Sort
theorem gtrans {w a b : World} {o : Option Nat} (h1 : w.grownBy a o) (h2 : a.grownBy b o) : w.grownBy b o :=
  ⟨h2.os.trans h1.os, h2.tape.trans h1.tape, h2.output.trans h1.output, Nat.le_trans h1.size h2.size, fun k hk hne => (h2.block k (Nat.lt_of_lt_of_le hk h1.size) hne).trans (h1.block k hk hne)⟩
/-- a source of draws at block b, from which at most N draws were taken -/
def Src (w : World) (b N : Nat) : Prop := ∃ (A : Option Addr) (n c k : Nat) (seed : Int) (bs : List UInt8), w.cell? ⟨b, 0, none⟩ = some (.slice A n c) ∧ w.cell? ⟨b, 1, none⟩ = some (.int .i64 (k : Int)) ∧ w.cell? ⟨b, 2, none⟩ = some (.int .u64 seed) ∧
  w.frozen? ⟨b, 1, none⟩ = false ∧ w.frozen? ⟨b, 2, none⟩ = false ∧ RB w A n bs ∧ k ≤ N ∧ n ≤ 9223372036854775807 ∧ (0 < n → ∀ ad, A = some ad → ad.block < b) ∧ b < w.heap.size
theorem low_byte (x : Int) : 0 ≤ wrap64 (bits .and .u64 (IntKind.u64.wrap x / 1099511627776) 255) ∧ wrap64 (bits .and .u64 (IntKind.u64.wrap x / 1099511627776) 255) ≤ 255 := by
  obtain ⟨a, ha, ha2⟩ : ∃ a : Nat, IntKind.u64.wrap x / 1099511627776 = (a : Int) ∧ a < 18446744073709551616 := by
    rw [IntKind.wrap_u64]
    exact ⟨(x % 18446744073709551616 / 1099511627776).toNat, by omega, by omega⟩
  rw [ha]
  have h := bits_and_u64_nat a 255 ha2 (by omega)
  have h2 : a &&& 255 ≤ 255 := Nat.and_le_right
  have h3 : bits .and .u64 (a : Int) 255 = ((a &&& 255 : Nat) : Int) := h
  rw [h3]
  unfold wrap64
  omega
theorem src_step {w : World} {b N k n c : Nat} {A : Option Addr} {seed : Int} {bs : List UInt8} (c0 : w.cell? ⟨b, 0, none⟩ = some (.slice A n c)) (c1 : w.cell? ⟨b, 1, none⟩ = some (.int .i64 (k : Int))) (c2 : w.cell? ⟨b, 2, none⟩ = some (.int .u64 seed))
    (f1 : w.frozen? ⟨b, 1, none⟩ = false) (f2 : w.frozen? ⟨b, 2, none⟩ = false) (hb : RB w A n bs) (hk : k ≤ N) (hn : n ≤ 9223372036854775807) (hne : 0 < n → ∀ ad, A = some ad → ad.block < b) (hlt : b < w.heap.size) (s : Int) :
    Src ((w.setCell ⟨b, 1, none⟩ (.int .i64 ((k : Int) + 1))).setCell ⟨b, 2, none⟩ (.int .u64 s)) b (N + 1) ∧ w.grownBy ((w.setCell ⟨b, 1, none⟩ (.int .i64 ((k : Int) + 1))).setCell ⟨b, 2, none⟩ (.int .u64 s)) (some b) := by
  refine ⟨⟨A, n, c, k + 1, s, bs, by go_simp, by go_simp, by go_simp, by go_simp, by go_simp, ⟨hb.1, fun h0 => ?_⟩, by omega, hn, hne, by simp [World.setCell]; exact hlt⟩, ⟨rfl, rfl, rfl, by simp [World.setCell], fun g _ hg => ?_⟩⟩
  · obtain ⟨ad, e, hl, hc⟩ := hb.2 h0
    refine ⟨ad, e, by simp [World.setCell]; exact hl, fun j u hu => ?_⟩
    have h1 : ad.block ≠ b := Nat.ne_of_lt (hne h0 ad e)
    rw [World.cell?_setCell_far _ _ _ _ (by rw [block_of_add]; exact Ne.symm h1), World.cell?_setCell_far _ _ _ _ (by rw [block_of_add]; exact Ne.symm h1)]
    exact hc j u hu
  · rw [heap_setCell_other _ _ _ _ (fun e => hg (by rw [e])), heap_setCell_other _ _ _ _ (fun e => hg (by rw [e]))]
theorem Src.drewN {w : World} {b N : Nat} (h : Src w b N) (q : Nat) : Src (w.drewN q) b N := h
theorem gDrew {w w' : World} {o : Option Nat} (h : w.grownBy w' o) (q : Nat) : w.grownBy (w'.drewN q) o := ⟨h.os, h.tape, h.output, h.size, h.block⟩
theorem gDrewL {w w' : World} {o : Option Nat} {q : Nat} (h : (w.drewN q).grownBy w' o) : w.grownBy w' o := ⟨h.os, h.tape, h.output, h.size, h.block⟩
set_option maxHeartbeats 1600000 in
theorem srcNext_any (b N : Nat) (w : World) (h : Src w b N) (hN : N ≤ 1000000) :
    Calls Tryd.prog 178 #[.pointer (some ⟨b, 0, none⟩)] w fun e w' => ∃ x : Int, e = .returned (.int .i64 x) ∧ 0 ≤ x ∧ x ≤ 255 ∧ Src w' b (N + 1) ∧ w.grownBy w' (some b) := by
  obtain ⟨A, n, c, k, seed, bs, c0, c1, c2, f1, f2, hb, hk, hn, hne, hlt⟩ := h
  have HB := Lib.hid hb
  by_cases hkn : k < n
  · obtain ⟨ad, hA, hl, hc⟩ := hb.2 (by omega)
    have hbl : k < bs.length := by have := hb.1; omega
    have hcb := hc k _ (List.getElem?_eq_getElem hbl)
    have hi0 : (0 : Int) ≤ (k : Int) := by omega
    have hi1 : (k : Int) < (n : Int) := by omega
    have hi2 : (k : Int) + 1 ≤ (n : Int) := by omega
    unfold byteV at hcb
    obtain ⟨u, hu⟩ : ∃ u : Nat, u = bs[k].toNat := ⟨_, rfl⟩
    have hu2 : u < 256 := by rw [hu]; exact UInt8.toNat_lt _
    rw [← hu] at hcb
    subst hA
    clear hu hb hc
    go_enter Tryd.func178, Tryd.ntmps178
    go_wp2
    go_quiet (fail)
    go_wp2
    go_quiet (fail)
    go_wp2
    go_quiet (fail)
    go_wp2
    go_ret
    refine ⟨_, rfl, by omega, by omega, ?_⟩
    have z := fun q => src_step (w := w.drewN q) c0 c1 c2 f1 f2 HB.out hk hn hne hlt
    exact ⟨(z _ _).1.drewN _, gDrew (gDrewL (z _ _).2) _⟩
  · have hi1 : ¬ (k : Int) < (n : Int) := by omega
    have hi2 : ¬ (k : Int) + 1 ≤ (n : Int) := by omega
    clear hb
    go_enter Tryd.func178, Tryd.ntmps178
    go_wp2
    go_quiet (fail)
    go_wp2
    go_quiet (fail)
    go_wp2
    go_ret
    obtain ⟨q1, q2⟩ := low_byte (IntKind.u64.wrap (IntKind.u64.wrap (seed * 6364136223846793005)) + 1442695040888963407)
    refine ⟨_, rfl, q1, q2, ?_⟩
    have z := fun q => src_step (w := w.drewN q) c0 c1 c2 f1 f2 HB.out hk hn hne hlt
    exact ⟨(z _ _).1.drewN _, gDrew (gDrewL (z _ _).2) _⟩
theorem Src.keep {w w' : World} {b N : Nat} (h : Src w b N) (hs : w.heap.size ≤ w'.heap.size) (hk : ∀ k, k ≤ b → w'.heap[k]? = w.heap[k]?) : Src w' b N := by
  obtain ⟨A, n, c, k, seed, bs, c0, c1, c2, f1, f2, hb, hkN, hn, hne, hlt⟩ := h
  have hcell : ∀ o, w'.cell? ⟨b, o, none⟩ = w.cell? ⟨b, o, none⟩ := fun o => World.cell?_of_block (hk b (Nat.le_refl _))
  have hfz : ∀ o, w'.frozen? ⟨b, o, none⟩ = w.frozen? ⟨b, o, none⟩ := fun o => World.frozen?_of_block (hk b (Nat.le_refl _))
  refine ⟨A, n, c, k, seed, bs, by rw [hcell]; exact c0, by rw [hcell]; exact c1, by rw [hcell]; exact c2, by rw [hfz]; exact f1, by rw [hfz]; exact f2, ⟨hb.1, fun h0 => ?_⟩, hkN, hn, hne, Nat.lt_of_lt_of_le hlt hs⟩
  obtain ⟨ad, e, hl, hc⟩ := hb.2 h0
  refine ⟨ad, e, Nat.lt_of_lt_of_le hl hs, fun j u hu => ?_⟩
  rw [World.cell?_of_block (w := w) (by rw [block_of_add]; exact hk _ (Nat.le_of_lt (hne h0 ad e)))]
  exact hc j u hu
theorem Src.mono {w : World} {b N M : Nat} (h : Src w b N) (hm : N ≤ M) : Src w b M := by
  obtain ⟨A, n, c, k, seed, bs, c0, c1, c2, f1, f2, hb, hkN, hr⟩ := h
  exact ⟨A, n, c, k, seed, bs, c0, c1, c2, f1, f2, hb, by omega, hr⟩
theorem Src.lt {w : World} {b N : Nat} (h : Src w b N) : b < w.heap.size := by
  obtain ⟨A, n, c, k, seed, bs, c0, c1, c2, f1, f2, hb, hkN, hn, hne, hlt⟩ := h
  exact hlt
theorem gRefl (w : World) (o : Option Nat) : w.grownBy w o := ⟨rfl, rfl, rfl, Nat.le_refl _, fun _ _ _ => rfl⟩
theorem gMore {w a c : World} {o o2 : Option Nat} (h1 : w.grownBy a o) (h2 : a.grownBy c o2) (ho : ∀ k, o2 = some k → w.heap.size ≤ k) : w.grownBy c o :=
  ⟨h2.os.trans h1.os, h2.tape.trans h1.tape, h2.output.trans h1.output, Nat.le_trans h1.size h2.size, fun k hk hne => (h2.block k (Nat.lt_of_lt_of_le hk h1.size) (fun e => by have := ho k e.symm; omega)).trans (h1.block k hk hne)⟩
theorem gBelow {w a c : World} {o : Option Nat} (h1 : w.grownBy a o) (h2 : Below a.heap.size a c) : w.grownBy c o :=
  ⟨h2.os.trans h1.os, h2.tape.trans h1.tape, h2.output.trans h1.output, Nat.le_trans h1.size h2.size, fun k hk hne => (h2.block k (Nat.lt_of_lt_of_le hk h1.size)).trans (h1.block k hk hne)⟩
theorem ofBelow {w c : World} (h2 : Below w.heap.size w c) (o : Option Nat) : w.grownBy c o := gBelow (gRefl w o) h2
/-- from a source's own block on, everything is new -/
theorem belowG {B b : Nat} {a w c : World} (h : Below B a w) (h2 : w.grownBy c (some b)) (hb : B ≤ b) (hs : B ≤ w.heap.size) : Below B a c :=
  h.grown h2 hs (fun k hk => by injection hk with hk; omega)
theorem Src.below {w w' : World} {b N : Nat} (h : Src w b N) (hb : Below w.heap.size w w') : Src w' b N := h.keep hb.size (fun k hk => hb.block k (Nat.lt_of_le_of_lt hk h.lt))
theorem OwnI.grown {w w' : World} {base b : Nat} {v : Value} {ds : List Int} (h : OwnI w base v ds) (hg : w.grownBy w' (some b)) (hb : b < base) : OwnI w' base v ds := by
  refine ⟨h.1, ?_⟩
  rcases h.2 with hn | ⟨g, cap, cur, rfl, hbg, hc, rest⟩
  · exact .inl hn
  · exact .inr ⟨g, cap, cur, rfl, hbg, by rw [hg.block g (Array.getElem?_eq_some_iff.1 hc).1 (fun e => by injection e with e; omega)]; exact hc, rest⟩
theorem ownI_lo {w : World} {base : Nat} {v : Value} {ds : List Int} (h : OwnI w base v ds) : ∀ k, v.ownBlock = some k → base ≤ k := by
  intro k hk
  rcases h.2 with ⟨rfl, -⟩ | ⟨g, cap, cur, rfl, hb, -⟩
  · simp [Value.ownBlock] at hk
  · simp only [Value.ownBlock, Option.some.injEq] at hk; omega
set_option maxHeartbeats 1600000 in
theorem pick_any (b N : Nat) (n : Int) (w : World) (h : Src w b N) (hN : N ≤ 999999) :
    Calls Tryd.prog 112 #[.pointer (some ⟨b, 0, none⟩), .int .i64 n] w fun e w' => ∃ x : Int, e = .returned (.int .i64 x) ∧ 0 ≤ x ∧ (x < n ∨ (n ≤ 1 ∧ x = 0)) ∧ Src w' b (N + 2) ∧ w.grownBy w' (some b) := by
  have H := Lib.hid h; clear h
  by_cases h1 : n ≤ 1
  · go_enter Tryd.func112, Tryd.ntmps112
    go_wp2
    go_ret
    exact ⟨0, rfl, by omega, .inr ⟨h1, rfl⟩, H.out.mono (by omega), gRefl _ _⟩
  · by_cases h2 : 200 < n
    · go_enter Tryd.func112, Tryd.ntmps112
      go_wp2_with fail
      refine (srcNext_any b N w H.out (by omega)).mono ?_; rintro e w1 ⟨x, rfl, x0, x1, hs1, hg1⟩
      have HS1 := Lib.hid hs1; clear hs1
      have HG1 := Lib.hid hg1; clear hg1
      go_wp2_with fail
      refine (srcNext_any b (N + 1) w1 HS1.out (by omega)).mono ?_; rintro e w2 ⟨y, rfl, y0, y1, hs2, hg2⟩
      have HS2 := Lib.hid hs2; clear hs2
      have HG2 := Lib.hid (gtrans HG1.out hg2); clear hg2
      go_wp2
      go_ret
      exact ⟨_, rfl, Int.emod_nonneg _ (by omega), .inl (Int.emod_lt_of_pos _ (by omega)), HS2.out, HG2.out⟩
    · go_enter Tryd.func112, Tryd.ntmps112
      go_wp2_with fail
      refine (srcNext_any b N w H.out (by omega)).mono ?_; rintro e w1 ⟨x, rfl, x0, x1, hs1, hg1⟩
      have HS1 := Lib.hid hs1; clear hs1
      have HG1 := Lib.hid hg1; clear hg1
      go_wp2
      go_ret
      exact ⟨_, rfl, Int.emod_nonneg _ (by omega), .inl (Int.emod_lt_of_pos _ (by omega)), HS1.out.mono (by omega), HG1.out⟩
set_option maxHeartbeats 800000 in
theorem one_any (b N : Nat) (n : Int) (w : World) (h : Src w b N) (hN : N ≤ 999999) :
    Calls Tryd.prog 110 #[.pointer (some ⟨b, 0, none⟩), .int .i64 n] w fun e w' => ∃ x : Bool, e = .returned (.bool x) ∧ Src w' b (N + 2) ∧ w.grownBy w' (some b) := by
  have H := Lib.hid h; clear h
  go_enter Tryd.func110, Tryd.ntmps110
  go_wp2_with fail
  refine (pick_any b N n w H.out hN).mono ?_; rintro e w1 ⟨x, rfl, x0, -, hs1, hg1⟩
  have HS1 := Lib.hid hs1; clear hs1
  have HG1 := Lib.hid hg1; clear hg1
  go_wp2
  go_ret
  exact ⟨_, rfl, HS1.out, HG1.out⟩
set_option maxHeartbeats 800000 in
theorem among_any (b N : Nat) (A : Option Addr) (n c : Nat) (ds : List Int) (w : World) (h : Src w b N) (hN : N ≤ 999999) (hr : RI w A n ds) (hA : ∀ ad, A = some ad → ad.block ≠ b) (hn0 : 0 < n) (hn : n ≤ 1000000) :
    Calls Tryd.prog 126 #[.pointer (some ⟨b, 0, none⟩), .slice A n c] w fun e w' => ∃ x : Int, e = .returned (.int .i64 x) ∧ x ∈ ds ∧ Src w' b (N + 2) ∧ w.grownBy w' (some b) := by
  have H := Lib.hid h; clear h
  go_enter Tryd.func126, Tryd.ntmps126
  go_wp2_with fail
  refine (pick_any b N n w H.out hN).mono ?_; rintro e w1 ⟨x, rfl, x0, xn, hs1, hg1⟩
  have HS1 := Lib.hid hs1; clear hs1
  have HG1 := Lib.hid hg1; clear hg1
  obtain ⟨j, rfl⟩ : ∃ j : Nat, x = j := ⟨x.toNat, by omega⟩
  have hjn : j < n := by omega
  obtain ⟨ad, hAd, hlt, hjl, hc⟩ := hr.at_ hjn
  have hc2 : w1.cell? (ad.add j) = some (.int .i64 ds[j]) := by
    rw [World.cell?_of_block (w := w) (by rw [block_of_add]; exact HG1.out.block _ hlt (fun e => by injection e with e; exact hA ad hAd e))]; exact hc
  have hi1 : (j : Int) < (n : Int) := by omega
  have HM := Lib.hid (List.getElem_mem hjl)
  subst hAd
  clear hc xn
  go_wp2
  go_ret
  exact ⟨_, rfl, HM.out, HS1.out, HG1.out⟩
set_option maxHeartbeats 800000 in
theorem l00From_any (A : Option Addr) (n c : Nat) (bs : List UInt8) (w : World) (hb : RB w A n bs) (hn : n ≤ 9223372036854775807) :
    Calls Tryd.prog 102 #[.slice A n c] w fun e w' => e = .returned (.pointer (some ⟨w.heap.size, 0, none⟩)) ∧ Src w' w.heap.size 0 ∧ Below w.heap.size w w' := by
  have HB := Lib.hid hb; clear hb
  go_enter Tryd.func102, Tryd.ntmps102
  go_wp2
  go_ret
  have hba : Below w.heap.size w (w.alloc (.cells #[.slice A n c, .int .i64 0, .int .u64 0] 196)) := (Below.refl _ _).alloc (Nat.le_refl _) _
  exact ⟨rfl, ⟨A, n, c, 0, 0, bs, by go_simp, by go_simp, by go_simp, by go_simp, by go_simp, HB.out.below hba, Nat.le_refl _, hn, (fun h0 ad e => by obtain ⟨ad', e', hl, -⟩ := HB.out.2 h0; rw [e] at e'; injection e' with e'; rw [e']; exact hl), by simp⟩, hba⟩
set_option maxRecDepth 100000 in
set_option maxHeartbeats 1600000 in
theorem l02DrawDigits_any (b N : Nat) (base : Int) (width : Nat) (w : World) (h : Src w b N) (hN : N + width * 4 ≤ 900000) (hb2 : 2 ≤ base) (hb16 : base ≤ 1000) (hw : width ≤ 1000) :
    Calls Tryd.prog 175 #[.pointer (some ⟨b, 0, none⟩), .int .i64 base, .int .i64 width] w fun e w' => ∃ A c ds, e = .returned (.slice A width c) ∧ OwnI w' w.heap.size (.slice A width c) ds ∧ ds.length = width ∧ (∀ d ∈ ds, 0 ≤ d ∧ d < base) ∧ Src w' b (N + width * 4) ∧ w.grownBy w' (some b) := by
  have H := Lib.hid h
  have hlt := h.lt
  clear h
  go_enter Tryd.func175, Tryd.ntmps175
  go_wp2_with fail
  go_loopw [8, 7] (fun kk out wr => ∃ (k : Nat) (ds : List Int), k ≤ width ∧ kk = .int .i64 k ∧ OwnI wr w.heap.size out ds ∧ ds.length = k ∧ (∀ d ∈ ds, 0 ≤ d ∧ d < base) ∧ Src wr b (N + k * 4) ∧ w.grownBy wr (some b)) (fun kk _ _ => width - (intOf kk).toNat)
  case atStart =>
    have hba : Below w.heap.size w (w.alloc (.cells #[] 2)) := (Below.refl _ _).alloc (Nat.le_refl _) _
    exact ⟨0, [], Nat.zero_le _, rfl, ⟨rfl, .inr ⟨w.heap.size, 0, #[], rfl, Nat.le_refl _, heap_alloc_new _ _, Nat.le_refl _, by decide, rfl, rfl⟩⟩, rfl, (fun d hd => by cases hd), by simpa using H.out.below hba, ofBelow hba _⟩
  case round =>
    obtain ⟨k, ds, hk, rfl, hown, hlen, hds, hsr, hg⟩ := hrel
    have HO := Lib.hid hown
    have HD := Lib.hid hds
    have HS := Lib.hid hsr
    have HG := Lib.hid hg
    have HL := Lib.hid hlen
    have hwz := hg.size
    clear hown hds hsr hg hlen
    by_cases hkn : k < width
    · have hi1 : (k : Int) < (width : Int) := by omega
      go_wp2_with fail
      refine (pick_any b _ base wr HS.out (by omega)).mono ?_; rintro e w1 ⟨x, rfl, x0, xn, hs1, hg1⟩
      have HS1 := Lib.hid hs1
      have HG1 := Lib.hid (gtrans HG.out hg1)
      have HO1 := Lib.hid (HO.out.grown hg1 hlt)
      have hz1 := hg1.size
      have hxb : x < base := by omega
      clear hs1 hg1 xn
      go_wp2_with fail
      refine (one_any b _ 3 w1 HS1.out (by omega)).mono ?_; rintro e w2 ⟨y, rfl, hs2, hg2⟩
      have HS2 := Lib.hid hs2
      have HG2 := Lib.hid (gtrans HG1.out hg2)
      have HO2 := Lib.hid (HO1.out.grown hg2 hlt)
      have hz2 := hg2.size
      have hlen := HL.out
      clear hs2 hg2
      cases y
      · have HOB := Lib.hid (HO2.out.below ((Below.refl _ _).alloc (Nat.le_refl _) (.cells #[.int .i64 x] 2)))
        have hgb := gBelow HG2.out ((Below.refl _ _).alloc (Nat.le_refl _) (.cells #[.int .i64 x] 2))
        have hsb := HS2.out.below ((Below.refl _ _).alloc (Nat.le_refl _) (.cells #[.int .i64 x] 2))
        have HGB := Lib.hid hgb; clear hgb
        have HSB := Lib.hid hsb; clear hsb
        go_wp2_with (at_builtin; refine app1I rfl _ _ rfl w.heap.size _ ds rfl HOB.out w2.heap.size x rfl (heap_alloc_new _ _) (by omega) (by simp; omega) ?_; intro v5 w6 hown5 hg5 hv5)
        have hlo := ownI_lo HOB.out
        have HGF := Lib.hid (gMore HGB.out hg5 hlo)
        have HSF := Lib.hid ((HSB.out.keep hg5.size (fun k hk => hg5.block k (by simp; omega) (fun e => by have := hlo k e.symm; omega))).mono (show N + k * 4 + 2 + 2 ≤ N + (k + 1) * 4 by omega))
        have HOF := Lib.hid hown5; clear hown5
        go_roundw
        case rel => exact ⟨k + 1, ds ++ [x], by omega, by go_num, HOF.out, by rw [List.length_append, HL.out]; rfl, fun d hd => by
          rcases List.mem_append.1 hd with hd | hd
          · exact HD.out d hd
          · rw [List.mem_singleton.1 hd]; omega, HSF.out, HGF.out⟩
        case measure => simp [intOf]; omega
      · have HOB := Lib.hid (HO2.out.below ((Below.refl _ _).alloc (Nat.le_refl _) (.cells #[.int .i64 (base - 1)] 2)))
        have hgb := gBelow HG2.out ((Below.refl _ _).alloc (Nat.le_refl _) (.cells #[.int .i64 (base - 1)] 2))
        have hsb := HS2.out.below ((Below.refl _ _).alloc (Nat.le_refl _) (.cells #[.int .i64 (base - 1)] 2))
        have HGB := Lib.hid hgb; clear hgb
        have HSB := Lib.hid hsb; clear hsb
        go_wp2_with (at_builtin; refine app1I rfl _ _ rfl w.heap.size _ ds rfl HOB.out w2.heap.size (base - 1) rfl (heap_alloc_new _ _) (by omega) (by simp; omega) ?_; intro v5 w6 hown5 hg5 hv5)
        have hlo := ownI_lo HOB.out
        have HGF := Lib.hid (gMore HGB.out hg5 hlo)
        have HSF := Lib.hid ((HSB.out.keep hg5.size (fun k hk => hg5.block k (by simp; omega) (fun e => by have := hlo k e.symm; omega))).mono (show N + k * 4 + 2 + 2 ≤ N + (k + 1) * 4 by omega))
        have HOF := Lib.hid hown5; clear hown5
        go_roundw
        case rel => exact ⟨k + 1, ds ++ [(base - 1)], by omega, by go_num, HOF.out, by rw [List.length_append, HL.out]; rfl, fun d hd => by
          rcases List.mem_append.1 hd with hd | hd
          · exact HD.out d hd
          · rw [List.mem_singleton.1 hd]; omega, HSF.out, HGF.out⟩
        case measure => simp [intOf]; omega
    · have HK : Hid (k = width) := by simp only [Hid]; omega
      obtain ⟨AO, cO, rfl, -⟩ := HO.out.reads
      have HE : Hid (ds.length = width) := by simp only [Hid]; have := HL.out; have := HK.out; omega
      have HOW : Hid (OwnI wr w.heap.size (.slice AO width cO) ds) := by have h := HO.out; rw [HE.out] at h; exact h
      have HSF : Hid (Src wr b (N + width * 4)) := HS.out.mono (by have := HK.out; omega)
      rw [HE.out]
      go_wp2
      go_ret
      exact ⟨AO, cO, ds, rfl, HOW.out, HE.out, HD.out, HSF.out, HG.out⟩
end Go.Proofs.YtcapccadpbiecaaDoor

namespace Go.Proofs.YtcapccadpbiecaaDoor
open Go.RowKit Go.Sort
/-- w with its first n blocks alone -/
def trunc (w : World) (n : Nat) : World := { w with heap := w.heap.extract 0 n }
theorem trunc_size {w : World} {n : Nat} (h : n ≤ w.heap.size) : (trunc w n).heap.size = n := by
  simp only [trunc, Array.size_extract]; omega
theorem trunc_get {w : World} {n k : Nat} (h : n ≤ w.heap.size) (hk : k < n) : (trunc w n).heap[k]? = w.heap[k]? := by
  simp only [trunc, Array.getElem?_extract, Nat.sub_zero, Nat.zero_add]
  rw [if_pos (by omega)]
theorem trunc_below {w : World} {n : Nat} (h : n ≤ w.heap.size) : Below (trunc w n).heap.size (trunc w n) w := by
  rw [trunc_size h]
  exact ⟨rfl, rfl, rfl, by rw [trunc_size h]; exact h, fun k hk => (trunc_get h hk).symm⟩
/-- v is w with block b turned -/
def Tw (b : Nat) (w v : World) : Prop := w.grownBy v (some b) ∧ v.heap.size = w.heap.size
theorem Tw.refl (b : Nat) (w : World) : Tw b w w := ⟨gRefl w _, rfl⟩
theorem Tw.of {b : Nat} {w w' : World} (h : w.grownBy w' (some b)) : Tw b w (trunc w' w.heap.size) :=
  ⟨⟨h.os, h.tape, h.output, by rw [trunc_size h.size]; exact Nat.le_refl _, fun k hk hne => (trunc_get h.size hk).trans (h.block k hk hne)⟩, trunc_size h.size⟩
theorem Src.trunc {b N : Nat} {w : World} {n : Nat} (h : Src w b N) (hb : b < n) (hn : n ≤ w.heap.size) : Src (trunc w n) b N := by
  obtain ⟨A, m, c, k, seed, bs, c0, c1, c2, f1, f2, hB, hkN, hm, hne, hlt⟩ := h
  have hbl : ∀ k, k ≤ b → (Go.Proofs.YtcapccadpbiecaaDoor.trunc w n).heap[k]? = w.heap[k]? := fun k hk => trunc_get hn (by omega)
  have hcell : ∀ o, (Go.Proofs.YtcapccadpbiecaaDoor.trunc w n).cell? ⟨b, o, none⟩ = w.cell? ⟨b, o, none⟩ := fun o => World.cell?_of_block (hbl b (Nat.le_refl _))
  have hfz : ∀ o, (Go.Proofs.YtcapccadpbiecaaDoor.trunc w n).frozen? ⟨b, o, none⟩ = w.frozen? ⟨b, o, none⟩ := fun o => World.frozen?_of_block (hbl b (Nat.le_refl _))
  refine ⟨A, m, c, k, seed, bs, by rw [hcell]; exact c0, by rw [hcell]; exact c1, by rw [hcell]; exact c2, by rw [hfz]; exact f1, by rw [hfz]; exact f2, ⟨hB.1, fun h0 => ?_⟩, hkN, hm, hne, by rw [trunc_size hn]; exact hb⟩
  obtain ⟨ad, e, hl, hc⟩ := hB.2 h0
  have hab := hne h0 ad e
  refine ⟨ad, e, by rw [trunc_size hn]; omega, fun j u hu => ?_⟩
  rw [World.cell?_of_block (w := w) (by rw [block_of_add]; exact hbl _ (by omega))]
  exact hc j u hu
/-- what a draw leaves: the source's block is turned, and the call owns the things of m -/
def DR (b N : Nat) (w : World) (m : List Ent) (w' : World) : Prop := ∃ v, Tw b w v ∧ Src v b N ∧ Kn v m w'
theorem DR.src {b N : Nat} {w : World} {m : List Ent} {w' : World} (h : DR b N w m w') : Src w' b N := by
  obtain ⟨v, -, hS, hK⟩ := h
  exact hS.below hK.below
theorem DR.of {b N : Nat} {w w' : World} (hs : Src w' b N) (hg : w.grownBy w' (some b)) (hb : b < w.heap.size) : DR b N w [] w' :=
  ⟨_, Tw.of hg, hs.trunc hb hg.size, (Kn.nil _).keep (trunc_below hg.size)⟩
theorem DR.nil {b N : Nat} {w : World} (hs : Src w b N) : DR b N w [] w := ⟨w, Tw.refl b w, hs, Kn.nil w⟩
theorem DR.mono {b N M : Nat} {w w' : World} {m : List Ent} (h : DR b N w m w') (hm : N ≤ M) : DR b M w m w' := by
  obtain ⟨v, hT, hS, hK⟩ := h
  exact ⟨v, hT, hS.mono hm, hK⟩
theorem DR.kn {b N : Nat} {w w' : World} {m m' : List Ent} (h : DR b N w m w') {w2 : World} (f : ∀ v, Kn v m w' → Kn v m' w2) : DR b N w m' w2 := by
  obtain ⟨v, hT, hS, hK⟩ := h
  exact ⟨v, hT, hS, f v hK⟩
theorem Kn.tw {b : Nat} {w v : World} {m : List Ent} {wi wi' : World} (hT : Tw b w v) (hK : Kn v m wi) (hb : b < w.heap.size) (hg : wi.grownBy wi' (some b)) : Tw b w (trunc wi' w.heap.size) ∧ Kn (trunc wi' w.heap.size) m wi' := by
  have hs : w.heap.size ≤ wi.heap.size := by have := hK.size; rw [hT.2] at this; exact this
  have hs' : w.heap.size ≤ wi'.heap.size := Nat.le_trans hs hg.size
  have hbw := hK.below
  refine ⟨⟨⟨hg.os.trans (hbw.os.trans hT.1.os), hg.tape.trans (hbw.tape.trans hT.1.tape), hg.output.trans (hbw.output.trans hT.1.output), by rw [trunc_size hs']; exact Nat.le_refl _, fun k hk hne => ?_⟩, trunc_size hs'⟩, trunc_below hs', fun e he => ?_, fun e he k hk => ?_, hK.apart⟩
  · rw [trunc_get hs' hk, hg.block k (by omega) hne, hbw.block k (by rw [hT.2]; exact hk)]
    exact hT.1.block k hk hne
  · refine Ent.stable (hK.ents e he) hg.size (fun k hk => hg.block k (Ent.lt (hK.ents e he) hk) (fun h2 => ?_))
    have h3 := hK.own e he k hk
    rw [hT.2] at h3
    injection h2 with h2
    omega
  · rw [trunc_size hs']
    have h3 := hK.own e he k hk
    rw [hT.2] at h3
    exact h3
theorem Tw.grown {b : Nat} {w v : World} (h : Tw b w v) : w.grownBy v (some b) := h.1
/-- one draw behind another -/
theorem DR.join {b N M : Nat} {w wi w' : World} {m m' : List Ent} (h : DR b N w m wi) (h1 : DR b M wi m' w') (hb : b < w.heap.size) : DR b M w (m' ++ m) w' := by
  obtain ⟨v, hT, hS, hK⟩ := h
  obtain ⟨v1, hT1, hS1, hK1⟩ := h1
  have hs : w.heap.size ≤ wi.heap.size := by have := hK.size; rw [hT.2] at this; exact this
  have hs1 : w.heap.size ≤ v1.heap.size := by rw [hT1.2]; exact hs
  obtain ⟨h2, h3⟩ := hK.tw hT hb hT1.1
  exact ⟨_, h2, hS1.trunc hb hs1, h3.join hK1⟩
/-- a source of the call's own -/
theorem Kn.ofDR {w w1 w2 : World} {b N : Nat} {m : List Ent} (hb : Below w.heap.size w w1) (hlo : w.heap.size ≤ b) (h : DR b N w1 m w2) : Kn w m w2 := by
  obtain ⟨v, hT, -, hK⟩ := h
  exact hK.mono (belowG hb hT.1 hlo hb.size)
theorem pick_dr (b N : Nat) (n : Int) (w : World) (h : Src w b N) (hN : N ≤ 999999) :
    Calls Tryd.prog 112 #[.pointer (some ⟨b, 0, none⟩), .int .i64 n] w fun e w' => ∃ x : Int, e = .returned (.int .i64 x) ∧ (0 ≤ x ∧ (x < n ∨ (n ≤ 1 ∧ x = 0))) ∧ DR b (N + 2) w [] w' := by
  refine (pick_any b N n w h hN).mono ?_
  rintro e w' ⟨x, rfl, h0, h1, hs, hg⟩
  exact ⟨x, rfl, ⟨h0, h1⟩, .of hs hg h.lt⟩
theorem one_dr (b N : Nat) (n : Int) (w : World) (h : Src w b N) (hN : N ≤ 999999) :
    Calls Tryd.prog 110 #[.pointer (some ⟨b, 0, none⟩), .int .i64 n] w fun e w' => ∃ x : Bool, e = .returned (.bool x) ∧ DR b (N + 2) w [] w' := by
  refine (one_any b N n w h hN).mono ?_
  rintro e w' ⟨x, rfl, hs, hg⟩
  exact ⟨x, rfl, .of hs hg h.lt⟩
theorem among_dr (b N : Nat) (A : Option Addr) (n c : Nat) (ds : List Int) (w : World) (h : Src w b N) (hN : N ≤ 999999) (hr : RI w A n ds) (hA : ∀ ad, A = some ad → ad.block ≠ b) (hn0 : 0 < n) (hn : n ≤ 1000000) :
    Calls Tryd.prog 126 #[.pointer (some ⟨b, 0, none⟩), .slice A n c] w fun e w' => ∃ x : Int, e = .returned (.int .i64 x) ∧ x ∈ ds ∧ DR b (N + 2) w [] w' := by
  refine (among_any b N A n c ds w h hN hr hA hn0 hn).mono ?_
  rintro e w' ⟨x, rfl, hx, hs, hg⟩
  exact ⟨x, rfl, hx, .of hs hg h.lt⟩
theorem digits_dr (b N : Nat) (base : Int) (width : Nat) (w : World) (h : Src w b N) (hN : N + width * 4 ≤ 900000) (hb2 : 2 ≤ base) (hb16 : base ≤ 1000) (hw : width ≤ 1000) :
    Calls Tryd.prog 175 #[.pointer (some ⟨b, 0, none⟩), .int .i64 base, .int .i64 width] w fun e w' => ∃ A c ds, e = .returned (.slice A width c) ∧ ds.length = width ∧ (∀ d ∈ ds, 0 ≤ d ∧ d < base) ∧ DR b (N + width * 4) w [rowI A c ds] w' := by
  refine (l02DrawDigits_any b N base width w h hN hb2 hb16 hw).mono ?_
  rintro e w' ⟨A, c, ds, rfl, ho, hl, hd, hs, hg⟩
  refine ⟨A, c, ds, rfl, hl, hd, _, Tw.of hg, hs.trunc h.lt hg.size, ?_⟩
  have hk := (Kn.nil (trunc w' w.heap.size)).addI (trunc_below hg.size) (by rw [trunc_size hg.size]; exact ho)
  rw [← hl] at hk
  exact hk
end Go.Proofs.YtcapccadpbiecaaDoor

namespace Go.Proofs.YtcapccadpbiecaaDoor
open Go.RowKit Go.Sort
section
variable {b N : Nat} {w wi : World} {m : List Ent}
theorem DR.al (h : DR b N w m wi) (l : List Value) (T : TypeId) : DR b N w (.blk wi.heap.size l T :: m) (wi.alloc (.cells l.toArray T)) := h.kn (fun _ hK => hK.al l T)
theorem DR.al_ (h : DR b N w m wi) (o : Obj) : DR b N w m (wi.alloc o) := h.kn (fun _ hK => hK.al_ o)
theorem DR.st {g : Nat} {l : List Value} {T : TypeId} (h : DR b N w (.blk g l T :: m) wi) (j : Nat) (v : Value) : DR b N w (.blk g (l.set j v) T :: m) (wi.setCell ⟨g, j, none⟩ v) := h.kn (fun _ hK => hK.st j v)
theorem DR.drew (h : DR b N w m wi) : DR b N w m wi.drew := h.kn (fun _ hK => hK.drew)
theorem DR.front (h : DR b N w m wi) (i : Nat) {e : Ent} (hi : m[i]? = some e) : DR b N w (e :: m.eraseIdx i) wi := h.kn (fun _ hK => hK.front i hi)
theorem DR.sel (h : DR b N w m wi) (is : List Nat) (n : Nat) (h1 : is.Nodup) (h2 : ∀ i ∈ is, i < n) : DR b N w (is.filterMap (fun i => m[i]?) ++ m.drop n) wi := h.kn (fun _ hK => hK.sel is n h1 h2)
theorem DR.cells (h : DR b N w m wi) : Cells m wi := by
  obtain ⟨v, -, -, hK⟩ := h
  exact hK.cells
theorem DR.lt (h : DR b N w m wi) : b < w.heap.size := by
  obtain ⟨v, hT, hS, -⟩ := h
  have := hS.lt
  rw [hT.2] at this
  exact this
theorem DR.add (h : DR b N w m wi) {M : Nat} {w' : World} {m' : List Ent} (h1 : DR b M wi m' w') : DR b M w (m' ++ m) w' := h.join h1 h.lt
theorem DR.keep (h : DR b N w m wi) {w' : World} (hb : Below wi.heap.size wi w') : DR b N w m w' := h.kn (fun _ hK => hK.keep hb)
theorem DR.box2 {g : Nat} {v0 v1 : Value} {T : TypeId} (h : DR b N w (.blk g [v0, v1] T :: m) wi) : wi.cell? ⟨g, 0, none⟩ = some v0 ∧ wi.cell? ⟨g, 1, none⟩ = some v1 := by
  obtain ⟨v, -, -, hK⟩ := h
  exact Go.Proofs.YtcapccadpbiecaaDoor.box2 hK
theorem Calls.dr {P : Program} {f : FuncId} {args : Array Value} {R : Ending → World → Prop} (h : DR b N w m wi) (k : ∀ W, DR b N w m W → Calls P f args W R) : Calls P f args wi R := k wi h
theorem Code.wp.dr {P : Program} {c : Code} {Q : Exit → Act → World → Prop} {a : Act} (h : DR b N w m wi) (k : ∀ W, DR b N w m W → c.wp P Q a W) : c.wp P Q a wi := k wi h
theorem bodyPost.dr {P : Program} {f : Func} {R : Ending → World → Prop} {x : Exit} {a : Act} (h : DR b N w m wi) (k : ∀ W, DR b N w m W → bodyPost P f R x a W) : bodyPost P f R x a wi := k wi h
end
theorem DR.lit {b N : Nat} {w wi : World} {m : List Ent} {g : Nat} {ds : List Int} (h : DR b N w (.blk g (ds.map (Value.int .i64)) 2 :: m) wi) (hd : ds.length ≤ 1000) :
    RI wi (some ⟨g, 0, none⟩) ds.length ds ∧ (∀ ad, some (⟨g, 0, none⟩ : Addr) = some ad → ad.block ≠ b) := by
  obtain ⟨v, -, hS, hK⟩ := h
  have hb := hS.lt
  have ho := hK.own _ (List.mem_cons_self ..) g rfl
  have hr : Kn v (rowI (some ⟨g, 0, none⟩) ds.length ds :: m) wi := hK.litRow (size := 1) (n := ds.length) (by simp) (by unfold maxLen; omega)
  refine ⟨Kn.riv hr, fun ad he => ?_⟩
  injection he with he
  subst he
  show g ≠ b
  omega
set_option maxHeartbeats 800000 in
theorem l02Most_any (x : Int) (w : World) : Calls Tryd.prog 213 #[.int .i64 x] w fun e w' => (∃ k : Nat, e = .returned (.int .i64 (k : Int)) ∧ 1 ≤ k ∧ k ≤ 16) ∧ w = w' := by
  go_enter Tryd.func213, Tryd.ntmps213
  go_wp2_with fail
  go_loopw [3, 4] (fun nn pp wr => ∃ (k : Nat) (p : Int), nn = .int .i64 (k : Int) ∧ 1 ≤ k ∧ k ≤ 16 ∧ pp = .int .i64 p ∧ w = wr) (fun nn _ _ => 16 - (intOf nn).toNat)
  case atStart => exact ⟨1, _, rfl, by omega, by omega, rfl, rfl⟩
  case round =>
    obtain ⟨k, p, rfl, k1, k2, rfl, rfl⟩ := hrel
    obtain ⟨q, hq⟩ : ∃ q, IntKind.i64.wrap (p - 1) = q := ⟨_, rfl⟩
    by_cases hc : q ≤ 1000000000000
    · by_cases hk : k < 16
      · have hk2 : (k : Int) < 16 := by omega
        go_wp2_with fail
        go_roundw
        case rel => exact ⟨k + 1, _, by go_num, by omega, by omega, rfl, by first | exact trivial | rfl⟩
        case measure => simp [intOf]; omega
      · have hk2 : ¬ (k : Int) < 16 := by omega
        go_wp2_with fail
        go_ret
        exact ⟨⟨k, rfl, k1, k2⟩, rfl⟩
    · go_wp2_with fail
      go_ret
      exact ⟨⟨k, rfl, k1, k2⟩, rfl⟩
end Go.Proofs.YtcapccadpbiecaaDoor

namespace Go.Proofs.YtcapccadpbiecaaDoor
open Go.RowKit Go.Sort
instance : Inhabited RS := ⟨⟨default, [], 0, 0⟩⟩
/-- where a run ends -/
noncomputable def endR (L : List Ins) (t : Tri) : RS := Classical.epsilon (fun s' => ∃ b', Ev L (.run 0 L.length) (startR t) s' b')
theorem endR_eq {L : List Ins} {t : Tri} {s' : RS} {b' : Bool} (h : Ev L (.run 0 L.length) (startR t) s' b') : endR L t = s' := by
  obtain ⟨b2, h2⟩ := Classical.epsilon_spec (p := fun s' => ∃ b', Ev L (.run 0 L.length) (startR t) s' b') ⟨s', b', h⟩
  exact (h2.one h).1
noncomputable def rpC (L : List Ins) (t : Tri) : Int := if vmach t && vprog L then (endR L t).code else 1
noncomputable def rpM (L : List Ins) (t : Tri) : Tri := if rpC L t = 0 ∧ vmach (endR L t).m = true then (endR L t).m else zTri
noncomputable def rpT (L : List Ins) (t : Tri) : List Int := if rpC L t = 0 ∧ (endR L t).tr.length ≤ 3001 then (endR L t).tr else []
theorem rp_bad {L : List Ins} {t : Tri} (h : (vmach t && vprog L) = false) : rpC L t = 1 ∧ rpM L t = zTri ∧ rpT L t = [] := by
  have h1 : rpC L t = 1 := by unfold rpC; rw [h]; rfl
  refine ⟨h1, ?_, ?_⟩
  · unfold rpM; rw [h1, if_neg (fun h => absurd h.1 (by decide))]
  · unfold rpT; rw [h1, if_neg (fun h => absurd h.1 (by decide))]
theorem rp_code {L : List Ins} {t : Tri} (h1 : vmach t = true) (h2 : vprog L = true) {s' : RS} {b' : Bool} (h : Ev L (.run 0 L.length) (startR t) s' b') (hc : ¬ s'.code = 0) : rpC L t = s'.code ∧ rpM L t = zTri ∧ rpT L t = [] := by
  have h3 : rpC L t = s'.code := by unfold rpC; rw [h1, h2, endR_eq h]; rfl
  refine ⟨h3, ?_, ?_⟩
  · unfold rpM; rw [h3, if_neg (fun h => hc h.1)]
  · unfold rpT; rw [h3, if_neg (fun h => hc h.1)]
theorem rp_fine {L : List Ins} {t : Tri} (h1 : vmach t = true) (h2 : vprog L = true) {s' : RS} {b' : Bool} (h : Ev L (.run 0 L.length) (startR t) s' b') (hg : s'.Good) (hc : s'.code = 0) : rpC L t = 0 ∧ rpM L t = s'.m ∧ rpT L t = s'.tr := by
  have h3 : rpC L t = 0 := by unfold rpC; rw [h1, h2, endR_eq h]; exact hc
  refine ⟨h3, ?_, ?_⟩
  · unfold rpM; rw [h3, endR_eq h, if_pos ⟨rfl, hg.m⟩]
  · unfold rpT; rw [h3, endR_eq h, if_pos ⟨rfl, by have := hg.tr; have := hg.top; omega⟩]
theorem rpM_len (L : List Ins) (t : Tri) : (rpM L t).a.digits.length ≤ 16 ∧ (rpM L t).b.digits.length ≤ 16 ∧ (rpM L t).s.digits.length ≤ 16 := by
  unfold rpM
  split
  · rename_i h
    have := sized_of h.2
    exact ⟨this.a, this.b, this.s⟩
  · simp [zTri]
theorem rpT_len (L : List Ins) (t : Tri) : (rpT L t).length ≤ 3001 := by
  unfold rpT
  split
  · rename_i h; exact h.2
  · simp
/-- what RunProgram returns -/
def RPRet (L : List Ins) (t : Tri) (w : World) (e : Ending) (w' : World) : Prop := ∃ A1 c1 A2 c2 A3 c3, e = .returned (.tuple #[.agg #[.int .i64 (rpM L t).a.base, .slice A1 (rpM L t).a.digits.length c1, .int .i64 (rpM L t).b.base, .slice A2 (rpM L t).b.digits.length c2, .int .i64 (rpM L t).s.base, .slice A3 (rpM L t).s.digits.length c3, .int .i64 (rpM L t).carry], .int .i64 ((rpT L t).length : Int), .int .i64 (rpC L t)]) ∧
  Kn w [rowI A3 c3 (rpM L t).s.digits, rowI A2 c2 (rpM L t).b.digits, rowI A1 c1 (rpM L t).a.digits] w'
/-- what TraceProgram returns -/
def TPRet (L : List Ins) (t : Tri) (w : World) (e : Ending) (w' : World) : Prop := ∃ A c, e = .returned (.tuple #[.slice A (rpT L t).length c, .int .i64 (rpC L t)]) ∧ Kn w [rowI A c (rpT L t)] w'
end Go.Proofs.YtcapccadpbiecaaDoor

namespace Go.Proofs.YtcapccadpbiecaaDoor
open Go.RowKit Go.Sort
theorem cellsIns_app (xs ys : List Ins) : cellsIns (xs ++ ys) = cellsIns xs ++ cellsIns ys := by simp [cellsIns]
/-- the program that divides -/
def divHead (p : Nat) : List Ins := if 1 < p then [⟨4, (p : Int) - 1⟩] else []
def divPart (p j : Nat) : List Ins := [⟨9, 0⟩, ⟨3, 1⟩, ⟨10, 0⟩, ⟨2, 1⟩] ++ (if j + 1 < p then [⟨5, 1⟩] else [])
def divUpto (p : Nat) : Nat → List Ins
  | 0 => divHead p
  | j + 1 => divUpto p j ++ divPart p j
def divProg (p : Nat) : List Ins := divUpto p p
theorem divUpto_len (p j : Nat) : (divUpto p j).length ≤ 1 + 5 * j := by
  induction j with
  | zero => simp only [divUpto, divHead]; split <;> simp
  | succ j ih => simp only [divUpto, divPart, List.length_append]; split <;> simp <;> omega
theorem divProg_ok {p : Nat} (h1 : 1 ≤ p) (h2 : p ≤ 16) : vprog (divProg p) = true := by
  have H : ∀ p : Fin 17, 1 ≤ p.val → vprog (divProg p.val) = true := by decide +kernel
  exact H ⟨p, by omega⟩ h1
end Go.Proofs.YtcapccadpbiecaaDoor

namespace Go.Proofs.YtcapccadpbiecaaDoor
open Go.RowKit Go.Sort
/-- a fresh machine of a base and widths -/
def newT (b : Int) (n1 n2 n3 : Nat) : Tri := ⟨⟨b, digD b n1 0⟩, ⟨b, digD b n2 0⟩, ⟨b, digD b n3 0⟩, 0⟩
set_option maxRecDepth 100000 in
set_option maxHeartbeats 1600000 in
theorem l10New_any (b : Int) (n1 n2 n3 : Nat) (w : World) (b1 : 2 ≤ b) (b2 : b ≤ 16) (h1 : n1 ≤ 1000000) (h2 : n2 ≤ 1000000) (h3 : n3 ≤ 1000000) :
    Calls Tryd.prog 174 #[.int .i64 b, .int .i64 n1, .int .i64 n2, .int .i64 n3] w fun e w' => ∃ E1 g1 E2 g2 E3 g3, e = .returned (.agg #[.int .i64 b, .slice E1 (digD b n1 0).length g1, .int .i64 b, .slice E2 (digD b n2 0).length g2, .int .i64 b, .slice E3 (digD b n3 0).length g3, .int .i64 0]) ∧
      Kn w [rowI E3 g3 (digD b n3 0), rowI E2 g2 (digD b n2 0), rowI E1 g1 (digD b n1 0)] w' := by
  have K1 := (fun W => l02NewV_any b n1 0 W b1 b2 h1 (by decide) (by decide))
  have K2 := (fun W => l02NewV_any b n2 0 W b1 b2 h2 (by decide) (by decide))
  have K3 := (fun W => l02NewV_any b n3 0 W b1 b2 h3 (by decide) (by decide))
  obtain ⟨x1, hx1⟩ : ∃ x, digD b n1 0 = x := ⟨_, rfl⟩
  obtain ⟨x2, hx2⟩ : ∃ x, digD b n2 0 = x := ⟨_, rfl⟩
  obtain ⟨x3, hx3⟩ : ∃ x, digD b n3 0 = x := ⟨_, rfl⟩
  rw [hx1] at K1 ⊢
  rw [hx2] at K2 ⊢
  rw [hx3] at K3 ⊢
  have K1 := Lib.hid K1
  have K2 := Lib.hid K2
  have K3 := Lib.hid K3
  clear hx1 hx2 hx3
  go_enter Tryd.func174, Tryd.ntmps174
  go_wp2_with fail
  refine Calls.kn ((Kn.nil w).al [.int .i64 0, .slice none 0 0, .int .i64 0, .slice none 0 0, .int .i64 0, .slice none 0 0, .int .i64 0] 37) ?_; intro w1 hK1
  (with_reducible refine (K1.out _).mono ?_); rintro e w2 ⟨E1, g1, rfl, hKn⟩
  have hK2 := hK1.join hKn
  go_wp2_with fail
  refine Calls.kn (hK2.al [.int .i64 b, .slice E1 x1.length g1] 35) ?_; intro w3 hK3
  (with_reducible refine (K2.out _).mono ?_); rintro e w4 ⟨E2, g2, rfl, hKm⟩
  have hK4 := hK3.join hKm
  go_wp2_with fail
  refine Calls.kn (hK4.al [.int .i64 b, .slice E2 x2.length g2] 35) ?_; intro w5 hK5
  (with_reducible refine (K3.out _).mono ?_); rintro e w6 ⟨E3, g3, rfl, hKo⟩
  have hK6 := hK5.join hKo
  clear hK1 hK2 hK3 hK4 hK5 hKn hKm hKo
  obtain ⟨a1, a2, a3, d1, d2, d3, c1, c2, c3, -⟩ := hK6.cells
  go_wp2_with fail
  refine bodyPost.kn ((((((((hK6.front 5 rfl).st 0 (.int .i64 b)).st 1 (.slice E1 x1.length g1)).st 2 (.int .i64 b)).st 3 (.slice E2 x2.length g2)).st 4 (.int .i64 b)).st 5 (.slice E3 x3.length g3)).st 6 (.int .i64 0) |>.al_ _) ?_; intro w7 hK7
  clear a1 a2 a3 d1 d2 d3 c1 c2 c3
  obtain ⟨a1, a2, a3, -⟩ := hK7.cells
  refine bodyPost_ret (v := .agg #[.int .i64 b, .slice E1 x1.length g1, .int .i64 b, .slice E2 x2.length g2, .int .i64 b, .slice E3 x3.length g3, .int .i64 0]) (by simp [results, Tryd.results174, go_sem, a1]) rfl ⟨E1, g1, E2, g2, E3, g3, rfl, ?_⟩
  exact hK7.sel [1, 3, 5] 99 (by decide) (by decide)
end Go.Proofs.YtcapccadpbiecaaDoor

namespace Go.Proofs.YtcapccadpbiecaaDoor
open Go.RowKit Go.Sort
/-- a base and widths are those of machines -/
def nmOk (b n1 n2 n3 : Int) : Bool := (betB b 2 16 && betB n1 1 16 && betB n2 1 16 && betB n3 1 16) && vmach (newT b n1.toNat n2.toNat n3.toNat)
theorem regWidth_any (n : Int) (w : World) : Calls Tryd.prog 181 #[.int .i64 n] w fun e w' => e = .returned (.bool (betB n 1 16)) ∧ w = w' := by
  go_enter Tryd.func181, Tryd.ntmps181
  go_wp2_with (go_at_call 127; refine (between_any _ _ _ _).mono ?_; rintro e w' ⟨rfl, rfl⟩)
  go_ret
  exact ⟨rfl, rfl⟩
theorem l07Size_any (n : Int) (w : World) : Calls Tryd.prog 210 #[.int .i64 n] w fun e w' => e = .returned (.bool (betB n 1 16)) ∧ w = w' := by
  go_enter Tryd.func210, Tryd.ntmps210
  go_wp2_with (go_at_call 128; refine (l00In_any _ _ _ _).mono ?_; rintro e w' ⟨rfl, rfl⟩)
  go_ret
  exact ⟨rfl, rfl⟩
/-- what NewMachine returns for widths in range -/
def NMRet (b : Int) (n1 n2 n3 : Nat) (v : Bool) (w : World) (e : Ending) (w' : World) : Prop :=
  (v = true ∧ ∃ E1 g1 E2 g2 E3 g3, e = .returned (.tuple #[.agg #[.int .i64 b, .slice E1 (digD b n1 0).length g1, .int .i64 b, .slice E2 (digD b n2 0).length g2, .int .i64 b, .slice E3 (digD b n3 0).length g3, .int .i64 0], .int .i64 0]) ∧ Kn w [rowI E3 g3 (digD b n3 0), rowI E2 g2 (digD b n2 0), rowI E1 g1 (digD b n1 0)] w') ∨
  (v = false ∧ e = .returned (.tuple #[.agg #[.int .i64 0, .slice none 0 0, .int .i64 0, .slice none 0 0, .int .i64 0, .slice none 0 0, .int .i64 0], .int .i64 2]) ∧ Below w.heap.size w w')
end Go.Proofs.YtcapccadpbiecaaDoor

namespace Go.Proofs.YtcapccadpbiecaaDoor
open Go.RowKit Go.Sort
/-- accumulators: which registers they are, and what they show -/
def aOk (b : Int) (ds : List Int) : Bool := vreg b ds && decide (pw b ds.length ≤ 1000000000001)
def aSize (b : Int) (ds : List Int) : Int := if aOk b ds = true then pw b ds.length else 0
def isNm (n x : Int) : Bool := betB x (-(n.tdiv 2)) (n - 1 - n.tdiv 2)
def aNum (b : Int) (ds : List Int) : Int := if valL b ds ≤ pw b ds.length - 1 - (pw b ds.length).tdiv 2 then valL b ds else valL b ds - pw b ds.length
def aNorm (n x : Int) : Int := (x.tmod n + n).tmod n
def aSet (b : Int) (k : Nat) (x : Int) : List Int := digD b k (aNorm (pw b k) x)
theorem aOk_iff {b : Int} {ds : List Int} : aOk b ds = true ↔ vreg b ds = true ∧ pw b ds.length ≤ 1000000000001 := by
  unfold aOk; rw [Bool.and_eq_true, decide_eq_true_eq]
theorem aNorm_bd {n x : Int} (hn : 1 ≤ n) : 0 ≤ aNorm n x ∧ aNorm n x < n := by
  unfold aNorm
  have h1 : -n < x.tmod n ∧ x.tmod n < n := by
    rcases Int.le_total 0 x with h | h
    · rw [Int.tmod_eq_emod_of_nonneg h]
      have := Int.emod_nonneg x (show n ≠ 0 by omega)
      have := Int.emod_lt_of_pos x (show 0 < n by omega)
      omega
    · have h2 := Int.neg_tmod (-x) n
      rw [Int.neg_neg] at h2
      rw [h2, Int.tmod_eq_emod_of_nonneg (by omega)]
      have := Int.emod_nonneg (-x) (show n ≠ 0 by omega)
      have := Int.emod_lt_of_pos (-x) (show 0 < n by omega)
      omega
  rw [Int.tmod_eq_emod_of_nonneg (by omega)]
  exact ⟨Int.emod_nonneg _ (by omega), Int.emod_lt_of_pos _ (by omega)⟩
theorem half_bd {n : Int} (hn : 0 ≤ n) : 0 ≤ n.tdiv 2 ∧ 2 * n.tdiv 2 ≤ n ∧ n ≤ 2 * n.tdiv 2 + 1 := by
  rw [Int.tdiv_eq_ediv_of_nonneg hn]; omega
theorem valL_in {b : Int} {ds : List Int} (h : aOk b ds = true) : 0 ≤ valL b ds ∧ valL b ds < pw b ds.length ∧ 1 ≤ pw b ds.length ∧ pw b ds.length ≤ 1000000000001 := by
  obtain ⟨h1, h2⟩ := aOk_iff.1 h
  obtain ⟨⟨b1, b2⟩, -, hd, -⟩ := vreg_iff.1 h1
  exact ⟨(valL_bd b b1 ds (fun d hd' => (hd d hd').1)).1, valL_lt b b1 ds hd, pw_pos b b1 _, h2⟩
theorem aNum_bd {b : Int} {ds : List Int} (h : aOk b ds = true) : -1000000000001 ≤ aNum b ds ∧ aNum b ds ≤ 1000000000001 := by
  have := valL_in h
  unfold aNum
  split <;> omega
theorem numbersOf_any (b : Int) (k : Nat) (w : World) (hb1 : 2 ≤ b) (hb2 : b ≤ 16) (h1 : 1 ≤ k) (h2 : k ≤ 16) :
    Calls Tryd.prog 115 #[.int .i64 b, .int .i64 k] w fun e w' => e = .returned (.int .i64 (powC b k)) ∧ w = w' := by
  have KB := Lib.hid (fun W => calls_val (isBase_any b W) (congrArg Value.bool (betB_iff.2 ⟨hb1, hb2⟩)))
  have KW := Lib.hid (fun W => calls_val (regWidth_any k W) (congrArg Value.bool (betB_iff.2 (show (1 : Int) ≤ k ∧ (k : Int) ≤ 16 by omega))))
  have KP := Lib.hid (fun W => power_any b k W hb1 hb2 (by omega))
  go_enter Tryd.func115, Tryd.ntmps115
  go_wp2_with (first | (go_at_call 180; refine (KB.out _).mono ?_; rintro e w' ⟨rfl, rfl⟩) | (go_at_call 181; refine (KW.out _).mono ?_; rintro e w' ⟨rfl, rfl⟩) | (go_at_call 162; refine (KP.out _).mono ?_; rintro e w' ⟨rfl, rfl⟩))
  go_ret
  exact ⟨rfl, rfl⟩
set_option maxRecDepth 100000 in
theorem size_any (b : Int) (A : Option Addr) (c : Nat) (ds : List Int) (w : World) (hr : RI w A ds.length ds) (hm : ds.length ≤ 9223372036854775807) :
    Calls Tryd.prog 121 #[.agg #[.int .i64 b, .slice A ds.length c]] w fun e w' => e = .returned (.int .i64 (aSize b ds)) ∧ Below w.heap.size w w' := by
  have KV := (fun W (hW : Below w.heap.size w W) => ValidRegister_any b A ds.length c ds W (hr.below hW) hm)
  rcases hv : vreg b ds with _ | _
  · rw [hv] at KV
    have HS := Lib.hid (show aSize b ds = 0 by unfold aSize aOk; rw [hv]; rfl)
    have KV := Lib.hid KV
    clear hv hr
    go_enter Tryd.func121, Tryd.ntmps121
    go_wp2_with fail
    refine Calls.kn ((Kn.nil w).al [.int .i64 b, .slice A ds.length c] 35) ?_; intro w1 hK1
    refine (KV.out _ hK1.below).mono ?_; rintro e w2 ⟨rfl, hw⟩
    have hK2 := hK1.keep hw
    go_wp2_with fail
    go_ret
    exact ⟨ret_int HS.out.symm, hK2.below⟩
  rw [hv] at KV
  obtain ⟨⟨b1, b2⟩, ⟨n1, n2⟩, -⟩ := vreg_iff.1 hv
  have HS := Lib.hid (show aSize b ds = powC b ds.length by
    unfold aSize aOk powC
    rw [hv]
    by_cases h : pw b ds.length ≤ 1000000000001
    · rw [if_pos h, if_pos (by simpa using h)]
    · rw [if_neg h, if_neg (by simpa using h)])
  have KV := Lib.hid KV
  have KW := Lib.hid (fun W => width_any b A ds.length c W)
  have KN := Lib.hid (fun W => numbersOf_any b ds.length W b1 b2 n1 n2)
  clear hv hr
  go_enter Tryd.func121, Tryd.ntmps121
  go_wp2_with fail
  refine Calls.kn ((Kn.nil w).al [.int .i64 b, .slice A ds.length c] 35) ?_; intro w1 hK1
  refine (KV.out _ hK1.below).mono ?_; rintro e w2 ⟨rfl, hw⟩
  have hK2 := hK1.keep hw
  clear hK1 hw
  go_wp2_with fail
  have HG := Lib.hid (box2 hK2.drew)
  go_region_held3 (fun W => W.cell? ⟨w.heap.size, 0, none⟩ = some (.int .i64 b) ∧ W.cell? ⟨w.heap.size, 1, none⟩ = some (.slice A ds.length c)) (first | with_reducible exact HG.out | exact HG.out) (first
    | (go_at_call 123; (with_reducible refine (KW.out _).mono ?_); rintro e w3 ⟨rfl, hw⟩; have hK3 := hK2.drew.keep hw; clear HG; have HG := Lib.hid (box2 hK3))
    | (go_at_call 115; (with_reducible refine (KN.out _).mono ?_); rintro e w4 ⟨rfl, rfl⟩))
  all_goals
    go_wp2_with fail
    go_ret
    exact ⟨ret_int HS.out.symm, hK3.below⟩
theorem isNumber_any (n x : Int) (w : World) (h0 : 0 ≤ n) (h1 : n ≤ 1000000000001) :
    Calls Tryd.prog 116 #[.int .i64 n, .int .i64 x] w fun e w' => e = .returned (.bool (isNm n x)) ∧ w = w' := by
  have hh := half_bd h0
  have HN := Lib.hid (show isNm n x = betB x (-(n.tdiv 2)) (n - 1 - n.tdiv 2) from rfl)
  obtain ⟨q, hq⟩ : ∃ q, n.tdiv 2 = q := ⟨_, rfl⟩
  rw [hq] at hh HN
  have w1 : IntKind.i64.wrap q = q := wrapI64 (by omega)
  have w2 : IntKind.i64.wrap (-q) = -q := wrapI64 (by omega)
  have w3 : IntKind.i64.wrap (n - 1) = n - 1 := wrapI64 (by omega)
  have w4 : IntKind.i64.wrap (n - 1 - q) = n - 1 - q := wrapI64 (by omega)
  have w5 : IntKind.i64.wrap (n.tdiv 2) = q := by rw [hq]; exact w1
  go_enter Tryd.func116, Tryd.ntmps116
  go_wp2_with (go_at_call 127; refine (between_any _ _ _ _).mono ?_; rintro e w' ⟨rfl, rfl⟩)
  go_ret
  exact ⟨ret_bool HN.out.symm, rfl⟩
set_option maxRecDepth 100000 in
theorem accumulator_any (b : Int) (k : Nat) (n x : Int) (w : World) (hb1 : 2 ≤ b) (hb2 : b ≤ 16) (hk : k ≤ 16) (hn : pw b k = n) (hn2 : n ≤ 1000000000001) (hx : -9000000000000000000 ≤ x ∧ x ≤ 9000000000000000000) :
    Calls Tryd.prog 117 #[.int .i64 b, .int .i64 k, .int .i64 n, .int .i64 x] w fun e w' => ∃ A c, e = .returned (.agg #[.int .i64 b, .slice A (aSet b k x).length c]) ∧ Kn w [rowI A c (aSet b k x)] w' := by
  have hn1 := pw_pos b hb1 k
  rw [hn] at hn1
  have hbd := aNorm_bd (x := x) hn1
  have KR := (fun W => registerOf_any b k (aNorm n x) W hb1 hb2 (by omega) hbd.1 (by omega))
  have hs : aSet b k x = digD b k (aNorm n x) := by unfold aSet; rw [hn]
  rw [hs]
  obtain ⟨ds, hds⟩ : ∃ ds, digD b k (aNorm n x) = ds := ⟨_, rfl⟩
  obtain ⟨ok, hok⟩ : ∃ ok, (restD b k (aNorm n x) == 0) = ok := ⟨_, rfl⟩
  rw [hds, hok] at KR
  rw [hds]
  have ht : -n < x.tmod n ∧ x.tmod n < n := by
    rcases Int.le_total 0 x with h | h
    · rw [Int.tmod_eq_emod_of_nonneg h]
      have := Int.emod_nonneg x (show n ≠ 0 by omega)
      have := Int.emod_lt_of_pos x (show 0 < n by omega)
      omega
    · have h2 := Int.neg_tmod (-x) n
      rw [Int.neg_neg] at h2
      rw [h2, Int.tmod_eq_emod_of_nonneg (by omega)]
      have := Int.emod_nonneg (-x) (show n ≠ 0 by omega)
      have := Int.emod_lt_of_pos (-x) (show 0 < n by omega)
      omega
  have ha : aNorm n x = (x.tmod n + n).tmod n := rfl
  obtain ⟨y, hy⟩ : ∃ y, aNorm n x = y := ⟨_, rfl⟩
  rw [hy] at KR hbd ha
  obtain ⟨z, hz⟩ : ∃ z, x.tmod n = z := ⟨_, rfl⟩
  rw [hz] at ht ha
  have nz1 : n ≠ 0 := by omega
  have nz2 : (n == 0) = false := by simp; omega
  have w1 : IntKind.i64.wrap z = z := wrapI64 (by omega)
  have w2 : IntKind.i64.wrap (z + n) = z + n := wrapI64 (by omega)
  have w3 : IntKind.i64.wrap ((z + n).tmod n) = y := by rw [← ha]; exact wrapI64 (by omega)
  have w4 : IntKind.i64.wrap (x.tmod n) = z := by rw [hz]; exact w1
  have ha2 : (z + n).tmod n = y := ha.symm
  have w5 : IntKind.i64.wrap y = y := wrapI64 (by omega)
  have KR := Lib.hid KR
  clear hs hds hok hn hy ha
  go_enter Tryd.func117, Tryd.ntmps117
  go_wp2_with fail
  refine Calls.kn ((Kn.nil w).al [.int .i64 0, .slice none 0 0] 35) ?_; intro w1 hK1
  (with_reducible refine (KR.out _).mono ?_); rintro e w2 ⟨E, g, rfl, hKn⟩
  have hK2 := hK1.join hKn
  clear hK1 hKn
  obtain ⟨a1, a2, a3, -⟩ := hK2.cells
  go_wp2_with fail
  refine bodyPost.kn ((((hK2.front 1 rfl).st 0 (.int .i64 b)).st 1 (.slice E ds.length g)).al_ (.cells #[.int .i64 b, .slice E ds.length g] 35)) ?_; intro w9 hK9
  clear a1 a2 a3
  obtain ⟨a1, a2, a3, -⟩ := hK9.cells
  exact bodyPost_ret (v := .agg #[.int .i64 b, .slice E ds.length g]) (by simp [results, Tryd.results117, go_sem, a1]) rfl ⟨E, g, rfl, hK9.sel [1] 99 (by decide) (by decide)⟩
end Go.Proofs.YtcapccadpbiecaaDoor

namespace Go.Proofs.YtcapccadpbiecaaDoor
open Go.RowKit Go.Sort
set_option maxRecDepth 100000 in
theorem number_any (b : Int) (A : Option Addr) (c : Nat) (ds : List Int) (w : World) (hr : RI w A ds.length ds) (ho : aOk b ds = true) :
    Calls Tryd.prog 122 #[.agg #[.int .i64 b, .slice A ds.length c]] w fun e w' => e = .returned (.int .i64 (aNum b ds)) ∧ Below w.heap.size w w' := by
  obtain ⟨h1, h2⟩ := aOk_iff.1 ho
  obtain ⟨⟨b1, b2⟩, ⟨n1, n2⟩, hd, -⟩ := vreg_iff.1 h1
  have hv := valL_in ho
  have hh := half_bd (n := pw b ds.length) (by omega)
  have KS := (fun W (hW : Below w.heap.size w W) => size_any b A c ds W (hr.below hW) (by omega))
  have hs : aSize b ds = pw b ds.length := by unfold aSize; rw [if_pos ho]
  rw [hs] at KS
  have KV := (fun W (hW : Below w.heap.size w W) => value_any b A ds.length c ds W b1 b2 hd (hr.below hW) n2)
  have HN := (show aNum b ds = if valL b ds ≤ pw b ds.length - 1 - (pw b ds.length).tdiv 2 then valL b ds else valL b ds - pw b ds.length from rfl)
  obtain ⟨n, hn⟩ : ∃ n, pw b ds.length = n := ⟨_, rfl⟩
  obtain ⟨v, hvv⟩ : ∃ v, valL b ds = v := ⟨_, rfl⟩
  rw [hn] at KS HN hh hv
  rw [hvv] at KV HN hv
  obtain ⟨q, hq⟩ : ∃ q, n.tdiv 2 = q := ⟨_, rfl⟩
  rw [hq] at hh HN
  have w1 : IntKind.i64.wrap q = q := wrapI64 (by omega)
  have w3 : IntKind.i64.wrap (n - 1) = n - 1 := wrapI64 (by omega)
  have w4 : IntKind.i64.wrap (n - 1 - q) = n - 1 - q := wrapI64 (by omega)
  have w5 : IntKind.i64.wrap (n.tdiv 2) = q := by rw [hq]; exact w1
  have w6 : IntKind.i64.wrap (v - n) = v - n := wrapI64 (by omega)
  replace HN := Lib.hid HN
  have KS := Lib.hid KS
  have KV := Lib.hid KV
  clear hr ho h1 h2 hd hn hvv hs n1 n2 b1 b2
  go_enter Tryd.func122, Tryd.ntmps122
  go_wp2_with fail
  have hK1 := (Kn.nil w).al [.int .i64 b, .slice A ds.length c] 35
  generalize w.alloc (.cells #[.int .i64 b, .slice A ds.length c] 35) = wa at hK1 ⊢
  have HG := Lib.hid (box2 hK1.drew)
  go_cut [3, 4] (fun pp oo wx => pp = .int .i64 n ∧ oo = .int .i64 v ∧ Kn w [] wx)
  case first =>
    go_region_held3 (fun W => W.cell? ⟨w.heap.size, 0, none⟩ = some (.int .i64 b) ∧ W.cell? ⟨w.heap.size, 1, none⟩ = some (.slice A ds.length c)) (first | with_reducible exact HG.out | exact HG.out) (first
      | (go_at_call 121; (with_reducible refine (KS.out _ hK1.drew.below).mono ?_); rintro e w3 ⟨rfl, hw⟩; have hK3 := hK1.drew.keep hw; clear HG; have HG := Lib.hid (box2 hK3))
      | (go_at_call 164; (with_reducible refine (KV.out _ hK3.below).mono ?_); rintro e w4 ⟨rfl, hw⟩; have hK4 := hK3.keep hw; clear HG; have HG := Lib.hid (box2 hK4)))
    all_goals
      go_wp2_with fail
      go_meet
      exact ⟨rfl, rfl, hK4.bare⟩
  case rest =>
    obtain ⟨rfl, rfl, hK5⟩ := hcut
    clear HG hK1
    by_cases hc : v ≤ n - 1 - q
    · have HE := Lib.hid (show aNum b ds = v by rw [HN.out, if_pos hc])
      go_wp2_with fail
      go_ret
      exact ⟨ret_int HE.out.symm, hK5.below⟩
    · have HE := Lib.hid (show aNum b ds = v - n by rw [HN.out, if_neg hc])
      go_wp2_with fail
      go_ret
      exact ⟨ret_int HE.out.symm, hK5.below⟩
theorem NumberOf_any (b : Int) (A : Option Addr) (c : Nat) (ds : List Int) (w : World) (hr : RI w A ds.length ds) (hm : ds.length ≤ 9223372036854775807) :
    Calls Tryd.prog 55 #[.agg #[.int .i64 b, .slice A ds.length c]] w fun e w' => e = .returned (.tuple #[.int .i64 (if aOk b ds then aNum b ds else 0), .int .i64 (if aOk b ds then 0 else 1)]) ∧ Below w.heap.size w w' := by
  have KS := (fun W (hW : Below w.heap.size w W) => size_any b A c ds W (hr.below hW) hm)
  rcases ho : aOk b ds with _ | _
  · have hs : aSize b ds = 0 := by unfold aSize; rw [ho]; rfl
    rw [hs] at KS
    replace KS := Lib.hid KS
    clear hs hr ho
    go_enter Tryd.func55, Tryd.ntmps55
    go_wp2_with fail
    refine Calls.kn ((Kn.nil w).al [.int .i64 b, .slice A ds.length c] 35) ?_; intro w1 hK1
    (with_reducible refine (KS.out _ hK1.below).mono ?_); rintro e w2 ⟨rfl, hw⟩
    have hK2 := hK1.keep hw
    go_wp2_with fail
    go_ret2
    exact ⟨rfl, hK2.below⟩
  · have hs : aSize b ds = pw b ds.length := by unfold aSize; rw [if_pos ho]
    rw [hs] at KS
    have KN := (fun W (hW : Below w.heap.size w W) => number_any b A c ds W (hr.below hW) ho)
    have hv := valL_in ho
    obtain ⟨n, hn⟩ : ∃ n, pw b ds.length = n := ⟨_, rfl⟩
    rw [hn] at KS hv
    have nz : (n == 0) = false := by simp; omega
    replace KS := Lib.hid KS
    replace KN := Lib.hid KN
    clear hs hr ho hn
    go_enter Tryd.func55, Tryd.ntmps55
    go_wp2_with fail
    refine Calls.kn ((Kn.nil w).al [.int .i64 b, .slice A ds.length c] 35) ?_; intro w1 hK1
    (with_reducible refine (KS.out _ hK1.below).mono ?_); rintro e w2 ⟨rfl, hw⟩
    have hK2 := hK1.keep hw
    clear hK1 hw
    obtain ⟨a1, a2, a3, -⟩ := hK2.cells
    go_wp2_with fail
    (with_reducible refine (KN.out _ hK2.below).mono ?_); rintro e w3 ⟨rfl, hw⟩
    have hK3 := hK2.keep hw
    go_wp2_with fail
    go_ret2
    exact ⟨rfl, hK3.below⟩
/-- what a function that adds a number returns -/
def anuC (b : Int) (ds : List Int) (x : Int) : Int := if aOk b ds = false then 1 else if betB x (-1000000000000) 1000000000000 = false then 2 else 0
def ANRet (b : Int) (ds : List Int) (x : Int) (w : World) (e : Ending) (w' : World) : Prop :=
  (anuC b ds x ≠ 0 ∧ e = .returned (.tuple #[.agg #[.int .i64 0, .slice none 0 0], .bool false, .int .i64 (anuC b ds x)]) ∧ Below w.heap.size w w') ∨
  (anuC b ds x = 0 ∧ ∃ E g, e = .returned (.tuple #[.agg #[.int .i64 b, .slice E (aSet b ds.length (aNum b ds + x)).length g], .bool (!isNm (pw b ds.length) (aNum b ds + x)), .int .i64 0]) ∧ Kn w [rowI E g (aSet b ds.length (aNum b ds + x))] w')
end Go.Proofs.YtcapccadpbiecaaDoor

namespace Go.Proofs.YtcapccadpbiecaaDoor
open Go.RowKit Go.Sort
/-- a register in a block -/
def RegB (w : World) (g : Nat) (b : Int) (A : Option Addr) (c : Nat) (ds : List Int) : Prop := (w.cell? ⟨g, 0, none⟩ = some (.int .i64 b) ∧ w.cell? ⟨g, 1, none⟩ = some (.slice A ds.length c)) ∧ RI w A ds.length ds
theorem RegB.below {w w' : World} {g : Nat} {b : Int} {A : Option Addr} {c : Nat} {ds : List Int} (h : RegB w g b A c ds) (hb : Below w.heap.size w w') : RegB w' g b A c ds := by
  have hlt : g < w.heap.size := World.block_lt_of_cell? w _ h.1.1
  exact ⟨⟨(hb.cell (p := ⟨g, 0, none⟩) hlt).trans h.1.1, (hb.cell (p := ⟨g, 1, none⟩) hlt).trans h.1.2⟩, h.2.below hb⟩
set_option maxRecDepth 100000 in
set_option maxHeartbeats 1600000 in
theorem l09Ok_any (g : Nat) (b : Int) (A : Option Addr) (c : Nat) (ds : List Int) (w : World) (hB : RegB w g b A c ds) (hm : ds.length ≤ 9223372036854775807) :
    Calls Tryd.prog 124 #[.pointer (some ⟨g, 0, none⟩)] w fun e w' => e = .returned (.bool (aOk b ds)) ∧ Below w.heap.size w w' := by
  have hK0 := Kn.nil w
  have HB := Lib.hid (fun W (hW : Below w.heap.size w W) => hB.below hW)
  have KO := (fun W (hW : Below w.heap.size w W) => l02Ok_any ⟨g, 0, none⟩ b A ds.length c ds W (hB.below hW).1 (hB.below hW).2 hm)
  have HG := Lib.hid (hB.below (hK0.drew).below).1
  rcases hv : vreg b ds with _ | _
  · have HF := Lib.hid (show aOk b ds = false by unfold aOk; rw [hv]; rfl)
    rw [hv] at KO
    replace KO := Lib.hid KO
    clear hv hB
    go_enter Tryd.func124, Tryd.ntmps124
    go_wp2_with fail
    refine wp_region_held_drew (S := (fun W => W.cell? ⟨g, 0, none⟩ = some (.int .i64 b) ∧ W.cell? ⟨g, 1, none⟩ = some (.slice A ds.length c))) (by kernel_rfl) ?_ (fun hHeld => ?_)
    · exact HG.out
    try dsimp only
    refine wpAnyH_take (i := 0) (v := ?_) rfl (by kernel_rfl) (by kernel_rfl) (by kernel_rfl) (fun _ _ _ h => h) (Or.inl ⟨by rfl, ?_⟩) hHeld ?_
    rotate_left
    · (intro w hSw; (try dsimp only at hSw); go_simp; try with_reducible rfl)
    try simp only [Act.put, List.setIfInBounds_toArray, List.set_cons_zero, List.set_cons_succ, List.getElem_toArray, List.getElem_cons_succ, List.getElem_cons_zero]
    refine wpAnyH_ready (rs := [1]) (by kernel_rfl) (by decide) (AllReadyH.cons (o := _) rfl (fun K hK => ?_) AllReadyH.nil)
    go_simp
    go_at_call 150
    (refine (KO.out _ hK0.drew.below).mono ?_); rintro e w2 ⟨rfl, q2, rfl⟩
    have hK1 := hK0.drew.drewN q2
    generalize w.drew.drewN q2 = w2 at hK1 ⊢
    have HG := Lib.hid (HB.out _ hK1.below).1
    refine hK.out _ _ HG.out (fun hHeld2 => ?_)
    clear hK K hHeld
    have hHeld := hHeld2
    clear hHeld2
    try simp only [Act.put, List.setIfInBounds_toArray]
    refine wpAnyH_take (i := 2) (v := ?_) rfl (by kernel_rfl) (by kernel_rfl) (by kernel_rfl) (fun _ _ _ h => h) (Or.inl ⟨by rfl, ?_⟩) hHeld ?_
    rotate_left
    · (intro w hSw; (try dsimp only at hSw); go_simp; try with_reducible rfl)
    try simp only [Act.put, List.setIfInBounds_toArray, List.set_cons_zero, List.set_cons_succ, List.getElem_toArray, List.getElem_cons_succ, List.getElem_cons_zero]
    refine wpAnyH_take (i := 3) (v := undef) rfl (by kernel_rfl) (by kernel_rfl) (by kernel_rfl) (fun _ _ _ h => h) (Or.inr ⟨by rfl, rfl⟩) hHeld ?_
    try simp only [Act.put, List.setIfInBounds_toArray, List.set_cons_zero, List.set_cons_succ, List.getElem_toArray, List.getElem_cons_succ, List.getElem_cons_zero]
    refine wpAnyH_take (i := 4) (v := undef) rfl (by kernel_rfl) (by kernel_rfl) (by kernel_rfl) (fun _ _ _ h => h) (Or.inr ⟨by rfl, rfl⟩) hHeld ?_
    try simp only [Act.put, List.setIfInBounds_toArray, List.set_cons_zero, List.set_cons_succ, List.getElem_toArray, List.getElem_cons_succ, List.getElem_cons_zero]
    refine wpAnyH_take (i := 5) (v := undef) rfl (by kernel_rfl) (by kernel_rfl) (by kernel_rfl) (fun _ _ _ h => h) (Or.inr ⟨by rfl, rfl⟩) hHeld ?_
    try simp only [Act.put, List.setIfInBounds_toArray, List.set_cons_zero, List.set_cons_succ, List.getElem_toArray, List.getElem_cons_succ, List.getElem_cons_zero]
    refine wpAnyH_take (i := 6) (v := undef) rfl (by kernel_rfl) (by kernel_rfl) (by kernel_rfl) (fun _ _ _ h => h) (Or.inr ⟨by rfl, rfl⟩) hHeld ?_
    try simp only [Act.put, List.setIfInBounds_toArray, List.set_cons_zero, List.set_cons_succ, List.getElem_toArray, List.getElem_cons_succ, List.getElem_cons_zero]
    refine wpAnyH_take (i := 7) (v := undef) rfl (by kernel_rfl) (by kernel_rfl) (by kernel_rfl) (fun _ _ _ h => h) (Or.inr ⟨by rfl, rfl⟩) hHeld ?_
    try simp only [Act.put, List.setIfInBounds_toArray, List.set_cons_zero, List.set_cons_succ, List.getElem_toArray, List.getElem_cons_succ, List.getElem_cons_zero]
    refine wpAnyH_take (i := 8) (v := undef) rfl (by kernel_rfl) (by kernel_rfl) (by kernel_rfl) (fun _ _ _ h => h) (Or.inr ⟨by rfl, rfl⟩) hHeld ?_
    try simp only [Act.put, List.setIfInBounds_toArray, List.set_cons_zero, List.set_cons_succ, List.getElem_toArray, List.getElem_cons_succ, List.getElem_cons_zero]
    refine wpAnyH_take (i := 9) (v := undef) rfl (by kernel_rfl) (by kernel_rfl) (by kernel_rfl) (fun _ _ _ h => h) (Or.inr ⟨by rfl, rfl⟩) hHeld ?_
    try simp only [Act.put, List.setIfInBounds_toArray, List.set_cons_zero, List.set_cons_succ, List.getElem_toArray, List.getElem_cons_succ, List.getElem_cons_zero]
    refine wpAnyH_take (i := 10) (v := undef) rfl (by kernel_rfl) (by kernel_rfl) (by kernel_rfl) (fun _ _ _ h => h) (Or.inr ⟨by rfl, rfl⟩) hHeld ?_
    try simp only [Act.put, List.setIfInBounds_toArray, List.set_cons_zero, List.set_cons_succ, List.getElem_toArray, List.getElem_cons_succ, List.getElem_cons_zero]
    refine wpAnyH_take (i := 11) (v := undef) rfl (by kernel_rfl) (by kernel_rfl) (by kernel_rfl) (fun _ _ _ h => h) (Or.inr ⟨by rfl, rfl⟩) hHeld ?_
    try simp only [Act.put, List.setIfInBounds_toArray, List.set_cons_zero, List.set_cons_succ, List.getElem_toArray, List.getElem_cons_succ, List.getElem_cons_zero]
    refine wpAnyH_take (i := 12) (v := undef) rfl (by kernel_rfl) (by kernel_rfl) (by kernel_rfl) (fun _ _ _ h => h) (Or.inr ⟨by rfl, rfl⟩) hHeld ?_
    try simp only [Act.put, List.setIfInBounds_toArray, List.set_cons_zero, List.set_cons_succ, List.getElem_toArray, List.getElem_cons_succ, List.getElem_cons_zero]
    refine wpAnyH_take (i := 13) (v := ?_) rfl (by kernel_rfl) (by kernel_rfl) (by kernel_rfl) (fun _ _ _ h => h) (Or.inl ⟨by rfl, ?_⟩) hHeld ?_
    rotate_left
    · (intro w hSw; (try dsimp only at hSw); go_simp; try with_reducible rfl)
    try simp only [Act.put, List.setIfInBounds_toArray, List.set_cons_zero, List.set_cons_succ, List.getElem_toArray, List.getElem_cons_succ, List.getElem_cons_zero]
    refine wpAnyH_take (i := 14) (v := ?_) rfl (by kernel_rfl) (by kernel_rfl) (by kernel_rfl) (fun _ _ _ h => h) (Or.inl ⟨by rfl, ?_⟩) hHeld ?_
    rotate_left
    · (intro w hSw; (try dsimp only at hSw); go_simp; try with_reducible rfl)
    try simp only [Act.put, List.setIfInBounds_toArray, List.set_cons_zero, List.set_cons_succ, List.getElem_toArray, List.getElem_cons_succ, List.getElem_cons_zero]
    refine wpAnyH_done (by kernel_rfl) ?_ _
    go_wp2_with fail
    go_ret
    exact ⟨ret_bool HF.out.symm, hK1.below⟩
  · obtain ⟨⟨b1, b2⟩, ⟨n1, n2⟩, hd, -⟩ := vreg_iff.1 hv
    have HF := Lib.hid (show aOk b ds = decide (pw b ds.length ≤ 1000000000001) by unfold aOk; rw [hv]; rfl)
    have KF := (fun W => l10Full_any b ds.length W b1 b2 (by omega))
    obtain ⟨r, hr⟩ : ∃ r, decide (pw b ds.length ≤ 1000000000001) = r := ⟨_, rfl⟩
    rw [hr] at KF
    have HF := HF.out
    rw [hr] at HF
    replace HF := Lib.hid HF
    replace KF := Lib.hid KF
    rw [hv] at KO
    replace KO := Lib.hid KO
    clear hv hB hr hd
    go_enter Tryd.func124, Tryd.ntmps124
    go_wp2_with fail
    refine wp_region_held_drew (S := (fun W => W.cell? ⟨g, 0, none⟩ = some (.int .i64 b) ∧ W.cell? ⟨g, 1, none⟩ = some (.slice A ds.length c))) (by kernel_rfl) ?_ (fun hHeld => ?_)
    · exact HG.out
    try dsimp only
    refine wpAnyH_take (i := 0) (v := ?_) rfl (by kernel_rfl) (by kernel_rfl) (by kernel_rfl) (fun _ _ _ h => h) (Or.inl ⟨by rfl, ?_⟩) hHeld ?_
    rotate_left
    · (intro w hSw; (try dsimp only at hSw); go_simp; try with_reducible rfl)
    try simp only [Act.put, List.setIfInBounds_toArray, List.set_cons_zero, List.set_cons_succ, List.getElem_toArray, List.getElem_cons_succ, List.getElem_cons_zero]
    refine wpAnyH_ready (rs := [1]) (by kernel_rfl) (by decide) (AllReadyH.cons (o := _) rfl (fun K hK => ?_) AllReadyH.nil)
    go_simp
    go_at_call 150
    (refine (KO.out _ hK0.drew.below).mono ?_); rintro e w2 ⟨rfl, q2, rfl⟩
    have hK1 := hK0.drew.drewN q2
    generalize w.drew.drewN q2 = w2 at hK1 ⊢
    have HG := Lib.hid (HB.out _ hK1.below).1
    refine hK.out _ _ HG.out (fun hHeld2 => ?_)
    clear hK K hHeld
    have hHeld := hHeld2
    clear hHeld2
    try simp only [Act.put, List.setIfInBounds_toArray]
    refine wpAnyH_take (i := 2) (v := ?_) rfl (by kernel_rfl) (by kernel_rfl) (by kernel_rfl) (fun _ _ _ h => h) (Or.inl ⟨by rfl, ?_⟩) hHeld ?_
    rotate_left
    · (intro w hSw; (try dsimp only at hSw); go_simp; try with_reducible rfl)
    try simp only [Act.put, List.setIfInBounds_toArray, List.set_cons_zero, List.set_cons_succ, List.getElem_toArray, List.getElem_cons_succ, List.getElem_cons_zero]
    refine wpAnyH_take (i := 3) (v := ?_) rfl (by kernel_rfl) (by kernel_rfl) (by kernel_rfl) (fun _ _ _ h => h) (Or.inl ⟨by rfl, ?_⟩) hHeld ?_
    rotate_left
    · (intro w hSw; (try dsimp only at hSw); go_simp; try with_reducible rfl)
    try simp only [Act.put, List.setIfInBounds_toArray, List.set_cons_zero, List.set_cons_succ, List.getElem_toArray, List.getElem_cons_succ, List.getElem_cons_zero]
    refine wpAnyH_take (i := 4) (v := ?_) rfl (by kernel_rfl) (by kernel_rfl) (by kernel_rfl) (fun _ _ _ h => h) (Or.inl ⟨by rfl, ?_⟩) hHeld ?_
    rotate_left
    · (intro w hSw; (try dsimp only at hSw); go_simp; try with_reducible rfl)
    try simp only [Act.put, List.setIfInBounds_toArray, List.set_cons_zero, List.set_cons_succ, List.getElem_toArray, List.getElem_cons_succ, List.getElem_cons_zero]
    refine wpAnyH_take (i := 5) (v := ?_) rfl (by kernel_rfl) (by kernel_rfl) (by kernel_rfl) (fun _ _ _ h => h) (Or.inl ⟨by rfl, ?_⟩) hHeld ?_
    rotate_left
    · (intro w hSw; (try dsimp only at hSw); go_simp; try with_reducible rfl)
    try simp only [Act.put, List.setIfInBounds_toArray, List.set_cons_zero, List.set_cons_succ, List.getElem_toArray, List.getElem_cons_succ, List.getElem_cons_zero]
    refine wpAnyH_take (i := 6) (v := ?_) rfl (by kernel_rfl) (by kernel_rfl) (by kernel_rfl) (fun _ _ _ h => h) (Or.inl ⟨by rfl, ?_⟩) hHeld ?_
    rotate_left
    · (intro w hSw; (try dsimp only at hSw); go_simp; try with_reducible rfl)
    try simp only [Act.put, List.setIfInBounds_toArray, List.set_cons_zero, List.set_cons_succ, List.getElem_toArray, List.getElem_cons_succ, List.getElem_cons_zero]
    refine wpAnyH_take (i := 7) (v := ?_) rfl (by kernel_rfl) (by kernel_rfl) (by kernel_rfl) (fun _ _ _ h => h) (Or.inl ⟨by rfl, ?_⟩) hHeld ?_
    rotate_left
    · (intro w hSw; (try dsimp only at hSw); go_simp; try with_reducible rfl)
    try simp only [Act.put, List.setIfInBounds_toArray, List.set_cons_zero, List.set_cons_succ, List.getElem_toArray, List.getElem_cons_succ, List.getElem_cons_zero]
    refine wpAnyH_take (i := 8) (v := ?_) rfl (by kernel_rfl) (by kernel_rfl) (by kernel_rfl) (fun _ _ _ h => h) (Or.inl ⟨by rfl, ?_⟩) hHeld ?_
    rotate_left
    · (intro w hSw; (try dsimp only at hSw); go_simp; try with_reducible rfl)
    try simp only [Act.put, List.setIfInBounds_toArray, List.set_cons_zero, List.set_cons_succ, List.getElem_toArray, List.getElem_cons_succ, List.getElem_cons_zero]
    refine wpAnyH_take (i := 9) (v := ?_) rfl (by kernel_rfl) (by kernel_rfl) (by kernel_rfl) (fun _ _ _ h => h) (Or.inl ⟨by rfl, ?_⟩) hHeld ?_
    rotate_left
    · (intro w hSw; (try dsimp only at hSw); go_simp; try with_reducible rfl)
    try simp only [Act.put, List.setIfInBounds_toArray, List.set_cons_zero, List.set_cons_succ, List.getElem_toArray, List.getElem_cons_succ, List.getElem_cons_zero]
    refine wpAnyH_take (i := 10) (v := ?_) rfl (by kernel_rfl) (by kernel_rfl) (by kernel_rfl) (fun _ _ _ h => h) (Or.inl ⟨by rfl, ?_⟩) hHeld ?_
    rotate_left
    · (intro w hSw; (try dsimp only at hSw); go_simp; try with_reducible rfl)
    try simp only [Act.put, List.setIfInBounds_toArray, List.set_cons_zero, List.set_cons_succ, List.getElem_toArray, List.getElem_cons_succ, List.getElem_cons_zero]
    refine wpAnyH_take (i := 11) (v := ?_) rfl (by kernel_rfl) (by kernel_rfl) (by kernel_rfl) (fun _ _ _ h => h) (Or.inl ⟨by rfl, ?_⟩) hHeld ?_
    rotate_left
    · (intro w hSw; (try dsimp only at hSw); go_simp; try with_reducible rfl)
    try simp only [Act.put, List.setIfInBounds_toArray, List.set_cons_zero, List.set_cons_succ, List.getElem_toArray, List.getElem_cons_succ, List.getElem_cons_zero]
    refine wpAnyH_ready (rs := [12]) (by kernel_rfl) (by decide) (AllReadyH.cons (o := _) rfl (fun K hK => ?_) AllReadyH.nil)
    go_simp
    go_at_call 129
    (refine (KF.out _).mono ?_); rintro e w3 ⟨rfl, rfl⟩
    refine hK.out _ _ HG.out (fun hHeld2 => ?_)
    clear hK K hHeld
    have hHeld := hHeld2
    clear hHeld2
    try simp only [Act.put, List.setIfInBounds_toArray]
    refine wpAnyH_take (i := 13) (v := ?_) rfl (by kernel_rfl) (by kernel_rfl) (by kernel_rfl) (fun _ _ _ h => h) (Or.inl ⟨by rfl, ?_⟩) hHeld ?_
    rotate_left
    · (intro w hSw; (try dsimp only at hSw); go_simp; try with_reducible rfl)
    try simp only [Act.put, List.setIfInBounds_toArray, List.set_cons_zero, List.set_cons_succ, List.getElem_toArray, List.getElem_cons_succ, List.getElem_cons_zero]
    refine wpAnyH_take (i := 14) (v := ?_) rfl (by kernel_rfl) (by kernel_rfl) (by kernel_rfl) (fun _ _ _ h => h) (Or.inl ⟨by rfl, ?_⟩) hHeld ?_
    rotate_left
    · (intro w hSw; (try dsimp only at hSw); go_simp; try with_reducible rfl)
    try simp only [Act.put, List.setIfInBounds_toArray, List.set_cons_zero, List.set_cons_succ, List.getElem_toArray, List.getElem_cons_succ, List.getElem_cons_zero]
    refine wpAnyH_done (by kernel_rfl) ?_ _
    go_wp2_with fail
    go_ret
    exact ⟨ret_bool HF.out.symm, hK1.below⟩
theorem l09Low_any (b : Int) (k : Nat) (n : Int) (w : World) (hb1 : 2 ≤ b) (hb2 : b ≤ 16) (hk : k ≤ 16) (hn : pw b k = n) (hn2 : n ≤ 1000000000001) :
    Calls Tryd.prog 111 #[.int .i64 b, .int .i64 k] w fun e w' => e = .returned (.int .i64 (n.tdiv 2)) ∧ w = w' := by
  have hp := pw_pos b hb1 k
  have KP := (fun W => l10Power_any b k W hb1 hb2 (by omega))
  rw [show powS b k = n by unfold powS; omega] at KP
  replace KP := Lib.hid KP
  have hh := half_bd (n := n) (by omega)
  obtain ⟨q, hq⟩ : ∃ q, n.tdiv 2 = q := ⟨_, rfl⟩
  rw [hq] at hh ⊢
  have w1 : IntKind.i64.wrap q = q := wrapI64 (by omega)
  have w5 : IntKind.i64.wrap (n.tdiv 2) = q := by rw [hq]; exact w1
  clear hn
  go_enter Tryd.func111, Tryd.ntmps111
  go_wp2_with (go_at_call 113; refine (KP.out _).mono ?_; rintro e w' ⟨rfl, rfl⟩)
  go_ret
  exact ⟨rfl, rfl⟩
theorem l09In_any (b : Int) (k : Nat) (n x : Int) (w : World) (hb1 : 2 ≤ b) (hb2 : b ≤ 16) (hk : k ≤ 16) (hn : pw b k = n) (hn2 : n ≤ 1000000000001) :
    Calls Tryd.prog 118 #[.int .i64 b, .int .i64 k, .int .i64 x] w fun e w' => e = .returned (.bool (isNm n x)) ∧ w = w' := by
  have hp := pw_pos b hb1 k
  have KP := (fun W => l10Power_any b k W hb1 hb2 (by omega))
  rw [show powS b k = n by unfold powS; omega] at KP
  replace KP := Lib.hid KP
  have KL := (fun W => l09Low_any b k n W hb1 hb2 hk hn hn2)
  have hh := half_bd (n := n) (by omega)
  have HN := (show isNm n x = betB x (-(n.tdiv 2)) (n - 1 - n.tdiv 2) from rfl)
  obtain ⟨q, hq⟩ : ∃ q, n.tdiv 2 = q := ⟨_, rfl⟩
  rw [hq] at hh HN KL
  replace HN := Lib.hid HN
  replace KL := Lib.hid KL
  have w1 : IntKind.i64.wrap q = q := wrapI64 (by omega)
  have w2 : IntKind.i64.wrap (-q) = -q := wrapI64 (by omega)
  have w3 : IntKind.i64.wrap (n - 1) = n - 1 := wrapI64 (by omega)
  have w4 : IntKind.i64.wrap (n - 1 - q) = n - 1 - q := wrapI64 (by omega)
  clear hn hq
  go_enter Tryd.func118, Tryd.ntmps118
  go_wp2_with (first | (go_at_call 113; refine (KP.out _).mono ?_; rintro e w' ⟨rfl, rfl⟩) | (go_at_call 111; refine (KL.out _).mono ?_; rintro e w' ⟨rfl, rfl⟩) | (go_at_call 128; refine (l00In_any _ _ _ _).mono ?_; rintro e w' ⟨rfl, rfl⟩))
  go_ret
  exact ⟨ret_bool HN.out.symm, rfl⟩
theorem tmod_bd {n x : Int} (hn : 1 ≤ n) : -n < x.tmod n ∧ x.tmod n < n := by
  rcases Int.le_total 0 x with h | h
  · rw [Int.tmod_eq_emod_of_nonneg h]
    have := Int.emod_nonneg x (show n ≠ 0 by omega)
    have := Int.emod_lt_of_pos x (show 0 < n by omega)
    omega
  · have h2 := Int.neg_tmod (-x) n
    rw [Int.neg_neg] at h2
    rw [h2, Int.tmod_eq_emod_of_nonneg (by omega)]
    have := Int.emod_nonneg (-x) (show n ≠ 0 by omega)
    have := Int.emod_lt_of_pos (-x) (show 0 < n by omega)
    omega
set_option maxRecDepth 100000 in
theorem l09Set_any (b : Int) (k : Nat) (n x : Int) (w : World) (hb1 : 2 ≤ b) (hb2 : b ≤ 16) (hk : k ≤ 16) (hn : pw b k = n) (hn2 : n ≤ 1000000000001) (hx : -9000000000000000000 ≤ x ∧ x ≤ 9000000000000000000) :
    Calls Tryd.prog 119 #[.int .i64 b, .int .i64 k, .int .i64 x] w fun e w' => ∃ A c, e = .returned (.agg #[.int .i64 b, .slice A (aSet b k x).length c]) ∧ Kn w [rowI A c (aSet b k x)] w' := by
  have hn1 := pw_pos b hb1 k
  have KP := (fun W => l10Power_any b k W hb1 hb2 (by omega))
  rw [show powS b k = n by unfold powS; omega] at KP
  replace KP := Lib.hid KP
  rw [hn] at hn1
  have hbd := aNorm_bd (x := x) hn1
  have KR := (fun W => l02NewV_any b k (aNorm n x) W hb1 hb2 (by omega) hbd.1 (by omega))
  have hs : aSet b k x = digD b k (aNorm n x) := by unfold aSet; rw [hn]
  rw [hs]
  obtain ⟨ds, hds⟩ : ∃ ds, digD b k (aNorm n x) = ds := ⟨_, rfl⟩
  obtain ⟨ok, hok⟩ : ∃ ok, restD b k (aNorm n x) = ok := ⟨_, rfl⟩
  rw [hds, hok] at KR
  rw [hds]
  have ht := tmod_bd (x := x) hn1
  have ha : aNorm n x = (x.tmod n + n).tmod n := rfl
  obtain ⟨y, hy⟩ : ∃ y, aNorm n x = y := ⟨_, rfl⟩
  rw [hy] at KR hbd ha
  obtain ⟨z, hz⟩ : ∃ z, x.tmod n = z := ⟨_, rfl⟩
  rw [hz] at ht ha
  have nz1 : n ≠ 0 := by omega
  have nz2 : (n == 0) = false := by simp; omega
  have w1 : IntKind.i64.wrap z = z := wrapI64 (by omega)
  have w2 : IntKind.i64.wrap (z + n) = z + n := wrapI64 (by omega)
  have w3 : IntKind.i64.wrap ((z + n).tmod n) = y := by rw [← ha]; exact wrapI64 (by omega)
  have w4 : IntKind.i64.wrap (x.tmod n) = z := by rw [hz]; exact w1
  have ha2 : (z + n).tmod n = y := ha.symm
  have w5 : IntKind.i64.wrap y = y := wrapI64 (by omega)
  replace KR := Lib.hid KR
  clear hs hds hok hn hy ha
  go_enter Tryd.func119, Tryd.ntmps119
  go_wp2_with (go_at_call 113; refine (KP.out _).mono ?_; rintro e w' ⟨rfl, rfl⟩)
  refine Calls.kn ((Kn.nil w).al [.int .i64 0, .slice none 0 0] 35) ?_; intro w1 hK1
  (with_reducible refine (KR.out _).mono ?_); rintro e w2 ⟨E, g, rfl, hKn⟩
  have hK2 := hK1.join hKn
  clear hK1 hKn
  obtain ⟨a1, a2, a3, -⟩ := hK2.cells
  go_wp2_with fail
  refine bodyPost.kn ((((hK2.front 1 rfl).st 0 (.int .i64 b)).st 1 (.slice E ds.length g)).al_ (.cells #[.int .i64 b, .slice E ds.length g] 35)) ?_; intro w9 hK9
  clear a1 a2 a3
  obtain ⟨a1, a2, a3, -⟩ := hK9.cells
  exact bodyPost_ret (v := .agg #[.int .i64 b, .slice E ds.length g]) (by simp [results, Tryd.results119, go_sem, a1]) rfl ⟨E, g, rfl, hK9.sel [1] 99 (by decide) (by decide)⟩
end Go.Proofs.YtcapccadpbiecaaDoor

namespace Go.Proofs.YtcapccadpbiecaaDoor
open Go.RowKit Go.Sort
theorem isNm_val {n v : Int} (hn : 1 ≤ n) (h0 : 0 ≤ v) : isNm n v = decide (v ≤ n - 1 - n.tdiv 2) := by
  have hh := half_bd (n := n) (by omega)
  unfold isNm
  rw [Bool.eq_iff_iff, betB_iff, decide_eq_true_eq]
  omega
set_option maxRecDepth 100000 in
set_option maxHeartbeats 1600000 in
theorem l09Number_any (g : Nat) (b : Int) (A : Option Addr) (c : Nat) (ds : List Int) (w : World) (hB : RegB w g b A c ds) (ho : aOk b ds = true) :
    Calls Tryd.prog 125 #[.pointer (some ⟨g, 0, none⟩)] w fun e w' => e = .returned (.int .i64 (aNum b ds)) ∧ Below w.heap.size w w' := by
  obtain ⟨h1, h2⟩ := aOk_iff.1 ho
  obtain ⟨⟨b1, b2⟩, ⟨n1, n2⟩, hd, -⟩ := vreg_iff.1 h1
  have hv := valL_in ho
  have hh := half_bd (n := pw b ds.length) (by omega)
  have HBW := Lib.hid (fun W (hW : Below w.heap.size w W) => (hB.below hW).1)
  have KV := (fun W (hW : Below w.heap.size w W) => l02Value_any b A ds.length c ds W b1 b2 hd (hB.below hW).2 n2)
  have KI := (fun W => l09In_any b ds.length (pw b ds.length) (valL b ds) W b1 b2 n2 rfl h2)
  have KP := (fun W => l10Power_any b ds.length W b1 b2 (by omega))
  rw [show powS b ds.length = pw b ds.length by unfold powS; omega] at KP
  have HN := (show aNum b ds = if valL b ds ≤ pw b ds.length - 1 - (pw b ds.length).tdiv 2 then valL b ds else valL b ds - pw b ds.length from rfl)
  rw [isNm_val hv.2.2.1 hv.1] at KI
  obtain ⟨n, hn⟩ : ∃ n, pw b ds.length = n := ⟨_, rfl⟩
  obtain ⟨v, hvv⟩ : ∃ v, valL b ds = v := ⟨_, rfl⟩
  rw [hn] at KP HN hh hv KI
  rw [hvv] at KV HN hv KI
  obtain ⟨q, hq⟩ : ∃ q, n - 1 - n.tdiv 2 = q := ⟨_, rfl⟩
  rw [hq] at HN KI
  have w6 : IntKind.i64.wrap (v - n) = v - n := wrapI64 (by omega)
  replace HN := Lib.hid HN
  replace KV := Lib.hid KV
  replace KP := Lib.hid KP
  obtain ⟨q1, q2⟩ := hB.1
  have hlt : g < w.heap.size := World.block_lt_of_cell? w _ q1
  clear ho h1 h2 hd hn hvv hB hq n1 n2 b1 b2
  rcases hc : decide (v ≤ q) with _ | _
  · have HE := Lib.hid (show aNum b ds = v - n by rw [HN.out, if_neg (of_decide_eq_false hc)])
    rw [hc] at KI
    replace KI := Lib.hid KI
    clear hc
    go_enter Tryd.func125, Tryd.ntmps125
    go_wp2_with fail
    have hK1 := Kn.nil w
    have HG := Lib.hid (HBW.out _ hK1.drew.below)
    go_region_held3 (fun W => W.cell? ⟨g, 0, none⟩ = some (.int .i64 b) ∧ W.cell? ⟨g, 1, none⟩ = some (.slice A ds.length c)) (first | with_reducible exact HG.out | exact HG.out) (first
      | (go_at_call 186; (with_reducible refine (KV.out _ hK1.drew.below).mono ?_); rintro e w3 ⟨rfl, rfl⟩))
    all_goals
      have hq1 : w.drew.cell? ⟨g, 0, none⟩ = some (.int .i64 b) := HG.out.1
      go_wp2_with (first | (go_at_call 118; refine (KI.out _).mono ?_; rintro e w' ⟨rfl, rfl⟩) | (go_at_call 113; refine (KP.out _).mono ?_; rintro e w' ⟨rfl, rfl⟩))
      go_ret
      exact ⟨ret_int HE.out.symm, hK1.drew.below⟩
  · have HE := Lib.hid (show aNum b ds = v by rw [HN.out, if_pos (of_decide_eq_true hc)])
    rw [hc] at KI
    replace KI := Lib.hid KI
    clear hc
    go_enter Tryd.func125, Tryd.ntmps125
    go_wp2_with fail
    have hK1 := Kn.nil w
    have HG := Lib.hid (HBW.out _ hK1.drew.below)
    go_region_held3 (fun W => W.cell? ⟨g, 0, none⟩ = some (.int .i64 b) ∧ W.cell? ⟨g, 1, none⟩ = some (.slice A ds.length c)) (first | with_reducible exact HG.out | exact HG.out) (first
      | (go_at_call 186; (with_reducible refine (KV.out _ hK1.drew.below).mono ?_); rintro e w3 ⟨rfl, rfl⟩))
    all_goals
      have hq1 : w.drew.cell? ⟨g, 0, none⟩ = some (.int .i64 b) := HG.out.1
      go_wp2_with (first | (go_at_call 118; refine (KI.out _).mono ?_; rintro e w' ⟨rfl, rfl⟩))
      go_ret
      exact ⟨ret_int HE.out.symm, hK1.drew.below⟩
end Go.Proofs.YtcapccadpbiecaaDoor

namespace Go.Proofs.YtcapccadpbiecaaDoor
open Go.RowKit Go.Sort
/-- how far each wheel is turned to come to 0 -/
def ctL (b : Int) (ds : List Int) : List Int := ds.map (fun d => (b - d).tmod b)
def ctR (b : Int) (ds : List Int) : List Int := if vreg b ds then ctL b ds else []
def CTRet (b : Int) (ds : List Int) (w : World) (e : Ending) (w' : World) : Prop := ∃ E k, e = .returned (.tuple #[.slice E (ctR b ds).length k, .int .i64 (if vreg b ds then 0 else 1)]) ∧ Kn w [rowI E k (ctR b ds)] w'
theorem ctL_take {b : Int} {ds : List Int} {k : Nat} (h : k < ds.length) : ctL b (ds.take (k + 1)) = ctL b (ds.take k) ++ [(b - ds[k]).tmod b] := by
  unfold ctL; rw [List.take_succ_eq_append_getElem h, List.map_append]; rfl
theorem ctL_len (b : Int) (ds : List Int) : (ctL b ds).length = ds.length := by unfold ctL; rw [List.length_map]
end Go.Proofs.YtcapccadpbiecaaDoor

namespace Go.Proofs.YtcapccadpbiecaaDoor
open Go.RowKit Go.Sort
def tfC (b : Int) (ds : List Int) (b' : Int) (es : List Int) : Int := if (aOk b ds && aOk b' es) = false then 1 else if b ≠ b' then 6 else 0
/-- what a transfer returns -/
def TFRet (b : Int) (ds : List Int) (b' : Int) (es : List Int) (w : World) (e : Ending) (w' : World) : Prop :=
  (tfC b ds b' es ≠ 0 ∧ e = .returned (.tuple #[.agg #[.int .i64 0, .slice none 0 0], .agg #[.int .i64 0, .slice none 0 0], .bool false, .int .i64 (tfC b ds b' es)]) ∧ Below w.heap.size w w') ∨
  (tfC b ds b' es = 0 ∧ ∃ E1 k1 E2 k2, e = .returned (.tuple #[.agg #[.int .i64 b, .slice E1 (digD b ds.length 0).length k1], .agg #[.int .i64 b', .slice E2 (aSet b' es.length (aNum b' es + aNum b ds)).length k2], .bool (!isNm (pw b' es.length) (aNum b' es + aNum b ds)), .int .i64 0]) ∧
    Kn w [rowI E2 k2 (aSet b' es.length (aNum b' es + aNum b ds)), rowI E1 k1 (digD b ds.length 0)] w')
theorem tfC_bad {b b' : Int} {ds es : List Int} (h : (aOk b ds && aOk b' es) = false) : tfC b ds b' es = 1 := by unfold tfC; rw [if_pos h]
end Go.Proofs.YtcapccadpbiecaaDoor

namespace Go.Proofs.YtcapccadpbiecaaDoor
open Go.RowKit Go.Sort
def accD (b : Int) (ds xs : List Int) : Nat → List Int
  | 0 => ds
  | k + 1 => aSet b ds.length (aNum b (accD b ds xs k) + xs.getD k 0)
def accB (b : Int) (ds xs : List Int) : Nat → List Int
  | 0 => []
  | k + 1 => if isNm (pw b ds.length) (aNum b (accD b ds xs k) + xs.getD k 0) = true then accB b ds xs k else accB b ds xs k ++ [(k : Int)]
def inA (xs : List Int) : Bool := xs.all (fun x => betB x (-1000000000000) 1000000000000)
def aaC (b : Int) (ds xs : List Int) : Int := if aOk b ds = false then 1 else if inA xs = false then 2 else 0
theorem aSet_len (b : Int) (k : Nat) (x : Int) : (aSet b k x).length = k := digD_len ..
theorem accD_len (b : Int) (ds xs : List Int) (k : Nat) : (accD b ds xs k).length = ds.length := by
  cases k with
  | zero => rfl
  | succ k => exact aSet_len ..
theorem accB_len (b : Int) (ds xs : List Int) (k : Nat) : (accB b ds xs k).length ≤ k := by
  induction k with
  | zero => simp [accB]
  | succ k ih => unfold accB; split; omega; rw [List.length_append]; simp; omega
theorem aSet_ok {b : Int} {ds : List Int} (h : aOk b ds = true) (x : Int) : aOk b (aSet b ds.length x) = true := by
  obtain ⟨h1, h2⟩ := aOk_iff.1 h
  obtain ⟨⟨b1, b2⟩, ⟨n1, n2⟩, -⟩ := vreg_iff.1 h1
  have hp := pw_pos b b1 ds.length
  have hb := aNorm_bd (n := pw b ds.length) (x := x) hp
  refine aOk_iff.2 ⟨?_, by rw [aSet_len]; exact h2⟩
  exact digD_vreg b b1 b2 _ n1 n2 _ hb.1 hb.2 (by omega)
theorem accD_ok {b : Int} {ds : List Int} (h : aOk b ds = true) (xs : List Int) (k : Nat) : aOk b (accD b ds xs k) = true := by
  cases k with
  | zero => exact h
  | succ k => exact aSet_ok h _
theorem inA_take_succ {xs : List Int} {k : Nat} (h : k < xs.length) : inA (xs.take (k + 1)) = (inA (xs.take k) && betB xs[k] (-1000000000000) 1000000000000) := by
  unfold inA; rw [List.take_succ_eq_append_getElem h, List.all_append]; simp only [List.all_cons, List.all_nil, Bool.and_true]
theorem inA_not {xs : List Int} {k : Nat} (h : k < xs.length) (h1 : betB xs[k] (-1000000000000) 1000000000000 = false) : inA xs = false := by
  simp only [inA, List.all_eq_false]; exact ⟨xs[k], List.getElem_mem _, by simp [h1]⟩
/-- what the adding of numbers returns -/
def AARet (b : Int) (ds xs : List Int) (w : World) (e : Ending) (w' : World) : Prop :=
  (aaC b ds xs ≠ 0 ∧ e = .returned (.tuple #[.agg #[.int .i64 0, .slice none 0 0], .slice none 0 0, .int .i64 (aaC b ds xs)]) ∧ Below w.heap.size w w') ∨
  (aaC b ds xs = 0 ∧ ∃ E k B m, e = .returned (.tuple #[.agg #[.int .i64 b, .slice E (accD b ds xs xs.length).length k], .slice B (accB b ds xs xs.length).length m, .int .i64 0]) ∧
    Kn w [rowI B m (accB b ds xs xs.length), rowI E k (accD b ds xs xs.length)] w')
theorem accD_succ (b : Int) (ds : List Int) {xs : List Int} {i : Nat} (h : i < xs.length) : accD b ds xs (i + 1) = aSet b ds.length (aNum b (accD b ds xs i) + xs[i]) := by rw [← getD_of h]; rfl
theorem accB_succ (b : Int) (ds : List Int) {xs : List Int} {i : Nat} (h : i < xs.length) : accB b ds xs (i + 1) = if isNm (pw b ds.length) (aNum b (accD b ds xs i) + xs[i]) = true then accB b ds xs i else accB b ds xs i ++ [(i : Int)] := by rw [← getD_of h]; rfl
theorem inA_get {xs : List Int} (h : inA xs = true) {i : Nat} (hi : i < xs.length) : betB xs[i] (-1000000000000) 1000000000000 = true := by
  unfold inA at h
  exact List.all_eq_true.1 h _ (List.getElem_mem _)
end Go.Proofs.YtcapccadpbiecaaDoor

namespace Go.Proofs.YtcapccadpbiecaaDoor
open Go.RowKit Go.Sort
end Go.Proofs.YtcapccadpbiecaaDoor

namespace Go.Proofs.YtcapccadpbiecaaDoor
open Go.RowKit Go.Sort
/-- what the drawing of a good register returns -/
def DReg (b M : Nat) (w : World) (e : Ending) (w' : World) : Prop := ∃ (bs : Int) (A : Option Addr) (c : Nat) (ds : List Int), e = .returned (.agg #[.int .i64 bs, .slice A ds.length c]) ∧ (2 ≤ bs ∧ bs ≤ 12 ∧ 1 ≤ ds.length ∧ ds.length ≤ 6) ∧ DR b M w [rowI A c ds] w'
theorem min6 {q k : Nat} (h : 0 ≤ (q : Int) ∧ ((q : Int) < min 6 (k : Int) ∨ min 6 (k : Int) ≤ 1 ∧ (q : Int) = 0)) : q ≤ 5 := by omega
theorem wrapQ {q : Nat} (h : q ≤ 5) : IntKind.i64.wrap (1 + (q : Int)) = ((q + 1 : Nat) : Int) := by rw [wrapI64 (by omega)]; omega
set_option maxRecDepth 100000 in
set_option maxHeartbeats 1600000 in
theorem l02Draw_dr (b N : Nat) (w : World) (h : Src w b N) (hN : N ≤ 800000) :
    Calls Tryd.prog 208 #[.pointer (some ⟨b, 0, none⟩), .int .i64 6] w (DReg b (N + 40) w) := by
  unfold DReg
  have D0 := DR.nil h
  clear h
  go_enter Tryd.func208, Tryd.ntmps208
  go_wp2_with fail
  refine Calls.dr (D0.al [.int .i64 0, .slice none 0 0] 35) ?_; intro w1 D1
  refine (pick_dr b N 11 w1 D1.src (by omega)).mono ?_; rintro e w2 ⟨x, rfl, hx, h2⟩
  have D2 := D1.add h2
  clear D0 D1 h2
  obtain ⟨x0, hx1⟩ := hx
  have x1 : x < 11 := by omega
  clear hx1
  obtain ⟨g0, hg0⟩ : ∃ g, w.heap.size = g := ⟨_, rfl⟩
  rw [hg0] at D2 ⊢
  go_wp2_with fail
  refine Calls.dr (D2.al [.int .i64 (2 + x), .slice none 0 0] 35) ?_; intro w3 D3
  obtain ⟨g, hg⟩ : ∃ g, w2.heap.size = g := ⟨_, rfl⟩
  rw [hg] at D3 ⊢
  clear hg D2
  refine (one_dr b _ 2 w3 D3.src (by omega)).mono ?_; rintro e w4 ⟨y, rfl, h4⟩
  have D4 := D3.add h4
  clear D3 h4
  obtain ⟨bs, hbs⟩ : ∃ z, 2 + x = z := ⟨_, rfl⟩
  rw [hbs] at D4
  have b1 : 2 ≤ bs := by omega
  have b2 : bs ≤ 12 := by omega
  clear hbs
  obtain ⟨a1, a2, a3, -⟩ := D4.cells
  rcases y with _ | _
  · go_wp2_with fail
    have HG := Lib.hid (D4.drew.box2.1)
    have HT := HG
    go_region_held3 (fun W => W.cell? ⟨g, 0, none⟩ = some (.int .i64 bs)) (first | with_reducible exact HG.out | with_reducible exact HT.out | exact HG.out | exact HT.out) (first
      | (go_at_call 213; (with_reducible refine (l02Most_any _ _).mono ?_); rintro e w5 ⟨⟨k, rfl, k1, k2⟩, rfl⟩)
      | (go_at_call 179; (with_reducible refine (l00Min_any _ _ _).mono ?_); rintro e w5 ⟨rfl, rfl⟩)
      | (go_at_call 112; (with_reducible refine (pick_dr b _ _ _ D4.drew.src (by omega)).mono ?_); rintro e w5 ⟨y, rfl, hy, h5⟩; have D5 := D4.drew.add h5; clear HG; have HG := Lib.hid (D5.box2.1); obtain ⟨q, rfl⟩ : ∃ q : Nat, y = q := ⟨y.toNat, by omega⟩; have hq := min6 hy; have hq1 := wrapQ hq)
      | (go_at_call 175; rw [show (q : Int) + 1 = ((q + 1 : Nat) : Int) from rfl]; refine (digits_dr b _ _ (q + 1) _ D5.src (by omega) (by omega) (by omega) (by omega)).mono ?_; rintro e w6 ⟨A, c, ds, rfl, hl, hd, h6⟩; have D6 := D5.add h6; clear HG; have HG := Lib.hid ((D6.front 1 rfl).box2.1); obtain ⟨x1, x2, x3, -⟩ := (D6.front 1 rfl).cells; have D8 := (D6.front 1 rfl).st 1 (.slice A (q + 1) c); clear HT; have HT := Lib.hid (D8.box2.1)))
    all_goals
      clear D5 D6 HG HT
      try clear x1 x2 x3
      try clear a1 a2 a3
      generalize w6.setCell ⟨g, 1, none⟩ (.slice A (q + 1) c) = w8 at D8 ⊢
      obtain ⟨a1, a2, a3, -⟩ := D8.cells
      obtain ⟨d1, d2, d3, -⟩ := (D8.front 2 rfl).cells
      go_wp2_with fail
      refine bodyPost.dr (((D8.front 2 rfl).st 0 (.int .i64 bs)).st 1 (.slice A (q + 1) c)) ?_; intro w9 D9
      clear a1 a2 a3 d1 d2 d3
      obtain ⟨a1, a2, a3, -⟩ := D9.cells
      refine bodyPost_ret (v := .agg #[.int .i64 bs, .slice A (q + 1) c]) (by simp [results, Tryd.results208, go_sem, a1]) rfl ⟨bs, A, c, ds, by rw [hl], by omega, ?_⟩
      have hq' := hq
      exact (D9.sel [2] 99 (by decide) (by decide)).mono (by omega)
  · go_upto_region 4 with fail
    refine Code.wp.dr ((D4.front 0 rfl).st 0 (.int .i64 10)) ?_; intro w4 D4
    clear a1 a2 a3
    obtain ⟨a1, a2, a3, -⟩ := D4.cells
    have HG := Lib.hid (D4.drew.box2.1)
    have HT := HG
    go_region_held3 (fun W => W.cell? ⟨g, 0, none⟩ = some (.int .i64 10)) (first | with_reducible exact HG.out | with_reducible exact HT.out | exact HG.out | exact HT.out) (first
      | (go_at_call 213; (with_reducible refine (l02Most_any _ _).mono ?_); rintro e w5 ⟨⟨k, rfl, k1, k2⟩, rfl⟩)
      | (go_at_call 179; (with_reducible refine (l00Min_any _ _ _).mono ?_); rintro e w5 ⟨rfl, rfl⟩)
      | (go_at_call 112; (with_reducible refine (pick_dr b _ _ _ D4.drew.src (by omega)).mono ?_); rintro e w5 ⟨y, rfl, hy, h5⟩; have D5 := D4.drew.add h5; clear HG; have HG := Lib.hid (D5.box2.1); obtain ⟨q, rfl⟩ : ∃ q : Nat, y = q := ⟨y.toNat, by omega⟩; have hq := min6 hy; have hq1 := wrapQ hq)
      | (go_at_call 175; rw [show (q : Int) + 1 = ((q + 1 : Nat) : Int) from rfl]; refine (digits_dr b _ _ (q + 1) _ D5.src (by omega) (by omega) (by omega) (by omega)).mono ?_; rintro e w6 ⟨A, c, ds, rfl, hl, hd, h6⟩; have D6 := D5.add h6; clear HG; have HG := Lib.hid ((D6.front 1 rfl).box2.1); obtain ⟨x1, x2, x3, -⟩ := (D6.front 1 rfl).cells; have D8 := (D6.front 1 rfl).st 1 (.slice A (q + 1) c); clear HT; have HT := Lib.hid (D8.box2.1)))
    all_goals
      clear D5 D6 HG HT
      try clear x1 x2 x3
      try clear a1 a2 a3
      generalize w6.setCell ⟨g, 1, none⟩ (.slice A (q + 1) c) = w8 at D8 ⊢
      obtain ⟨a1, a2, a3, -⟩ := D8.cells
      obtain ⟨d1, d2, d3, -⟩ := (D8.front 2 rfl).cells
      go_wp2_with fail
      refine bodyPost.dr (((D8.front 2 rfl).st 0 (.int .i64 10)).st 1 (.slice A (q + 1) c)) ?_; intro w9 D9
      clear a1 a2 a3 d1 d2 d3
      obtain ⟨a1, a2, a3, -⟩ := D9.cells
      refine bodyPost_ret (v := .agg #[.int .i64 10, .slice A (q + 1) c]) (by simp [results, Tryd.results208, go_sem, a1]) rfl ⟨10, A, c, ds, by rw [hl], by omega, ?_⟩
      have hq' := hq
      exact (D9.sel [2] 99 (by decide) (by decide)).mono (by omega)
end Go.Proofs.YtcapccadpbiecaaDoor

namespace Go.Proofs.YtcapccadpbiecaaDoor
open Go.RowKit Go.Sort
set_option maxRecDepth 100000 in
set_option maxHeartbeats 800000 in
theorem l09DrawNumber_dr (b N : Nat) (w : World) (h : Src w b N) (hN : N ≤ 800000) :
    Calls Tryd.prog 114 #[.pointer (some ⟨b, 0, none⟩)] w fun e w' => ∃ x : Int, e = .returned (.int .i64 x) ∧ DR b (N + 10) w [] w' := by
  have D0 := DR.nil h
  clear h
  go_enter Tryd.func114, Tryd.ntmps114
  go_wp2_with fail
  refine (one_dr b _ 12 w D0.src (by omega)).mono ?_; rintro e w1 ⟨y, rfl, h1⟩
  have D1 := D0.add h1
  clear D0 h1
  rcases y with _ | _
  · go_wp2_with fail
    refine (pick_dr b _ _ w1 D1.src (by omega)).mono ?_; rintro e w2 ⟨x, rfl, hx, h2⟩
    have D2 := D1.add h2
    have x1 : 0 ≤ x ∧ x < 200 := ⟨hx.1, by rcases hx.2 with h | h <;> omega⟩
    clear D1 h2 hx
    go_wp2_with fail
    refine (pick_dr b _ _ w2 D2.src (by omega)).mono ?_; rintro e w3 ⟨y, rfl, hy, h3⟩
    have D3 := D2.add h3
    have y1 : 0 ≤ y ∧ y < 2 := ⟨hy.1, by rcases hy.2 with h | h <;> omega⟩
    clear D2 h3 hy
    go_wp2_with fail
    refine (pick_dr b _ _ w3 D3.src (by omega)).mono ?_; rintro e w4 ⟨z, rfl, hz, h4⟩
    have D4 := D3.add h4
    clear D3 h4 hz
    go_wp2_with fail
    go_ret
    exact ⟨_, rfl, D4.mono (by omega)⟩
  · go_wp2_with fail
    refine Calls.dr (D1.al [.int .i64 (-1000000000001), .int .i64 (-1000000000000), .int .i64 1000000000000, .int .i64 1000000000001, .int .i64 (-9223372036854775808)] 2) ?_; intro w2 D2
    obtain ⟨hr, hA⟩ := DR.lit (ds := [-1000000000001, -1000000000000, 1000000000000, 1000000000001, -9223372036854775808]) D2 (by decide)
    refine (among_dr b _ _ 5 5 _ w2 D2.src (by omega) hr hA (by omega) (by omega)).mono ?_; rintro e w3 ⟨x, rfl, hx, h3⟩
    have D3 := D2.add h3
    clear hr hA
    go_wp2_with fail
    go_ret
    exact ⟨_, rfl, (D3.sel [] 99 (by decide) (by decide)).mono (by omega)⟩
end Go.Proofs.YtcapccadpbiecaaDoor

namespace Go.Proofs.YtcapccadpbiecaaDoor
open Go.RowKit Go.Sort
theorem DR.ad {b N : Nat} {w wi w' : World} {m m' : List Ent} (h : DR b N w m wi) (h1 : Kn wi m' w') : DR b N w (m' ++ m) w' := h.kn (fun _ hK => hK.join h1)
theorem pw_12 {b : Int} (b1 : 2 ≤ b) (b2 : b ≤ 12) (k : Nat) : pw b k ≤ pw 12 k := by
  induction k with
  | zero => exact Int.le_refl _
  | succ k ih =>
    rw [pw_succ, pw_succ]
    have := pw_pos b b1 k
    exact Int.mul_le_mul ih b2 (by omega) (by have := pw_pos 12 (by omega) k; omega)
theorem pw_small {b : Int} (b1 : 2 ≤ b) (b2 : b ≤ 12) {k : Nat} (hk : k ≤ 6) : pw b k ≤ 2985984 := by
  have h1 := pw_12 b1 b2 k
  have h2 := pw_mono 12 (by omega) k 6 hk
  have h3 : pw 12 6 = 2985984 := by decide
  omega
/-- what the drawing of a register returns -/
def DReg2 (b M : Nat) (w : World) (e : Ending) (w' : World) : Prop := ∃ (bs : Int) (A : Option Addr) (c : Nat) (ds : List Int), e = .returned (.agg #[.int .i64 bs, .slice A ds.length c]) ∧ ds.length ≤ 20 ∧ DR b M w [rowI A c ds] w'
set_option maxRecDepth 100000 in
set_option maxHeartbeats 1600000 in
theorem l09Draw_dr (b N : Nat) (w : World) (h : Src w b N) (hN : N ≤ 700000) :
    Calls Tryd.prog 185 #[.pointer (some ⟨b, 0, none⟩)] w (DReg2 b (N + 60) w) := by
  unfold DReg2
  have D0 := DR.nil h
  clear h
  go_enter Tryd.func185, Tryd.ntmps185
  go_wp2_with fail
  refine Calls.dr (D0.al [.int .i64 0, .slice none 0 0] 35) ?_; intro w1 D1
  refine (l02Draw_dr b N w1 D1.src (by omega)).mono ?_; rintro e w2 ⟨bs, A, c, ds, rfl, ⟨b1, b2, n1, n2⟩, h2⟩
  have D2 := D1.add h2
  clear D0 D1 h2
  obtain ⟨g0, hg0⟩ : ∃ g, w.heap.size = g := ⟨_, rfl⟩
  rw [hg0] at D2 ⊢
  have hps := pw_small b1 b2 n2
  have hpp := pw_pos bs b1 ds.length
  have KL := (fun W => l09Low_any bs ds.length _ W b1 (by omega) (by omega) rfl (by omega))
  have KS := (fun x W (hx : -9000000000000000000 ≤ x ∧ x ≤ 9000000000000000000) => l09Set_any bs ds.length _ x W b1 (by omega) (by omega) rfl (by omega) hx)
  have hh := half_bd (n := pw bs ds.length) (by omega)
  obtain ⟨lo, hlo⟩ : ∃ z, (pw bs ds.length).tdiv 2 = z := ⟨_, rfl⟩
  rw [hlo] at KL hh
  have l1 : 0 ≤ lo ∧ lo ≤ 3000000 := by omega
  replace KL := Lib.hid KL
  replace KS := Lib.hid KS
  clear hps hpp hh hlo hg0
  go_wp2_with fail
  refine Calls.dr (D2.al [.int .i64 bs, .slice A ds.length c] 35) ?_; intro w3 D3
  obtain ⟨g, hg⟩ : ∃ g, w2.heap.size = g := ⟨_, rfl⟩
  rw [hg] at D3 ⊢
  clear hg D2
  refine (one_dr b _ 3 w3 D3.src (by omega)).mono ?_; rintro e w4 ⟨y, rfl, h4⟩
  have D4 := D3.add h4
  clear D3 h4
  obtain ⟨a1, a2, a3, -⟩ := D4.cells
  rcases y with _ | _
  · obtain ⟨d1, d2, d3, -⟩ := (D4.front 2 rfl).cells
    go_wp2_with fail
    refine bodyPost.dr (((D4.front 2 rfl).st 0 (.int .i64 bs)).st 1 (.slice A ds.length c)) ?_; intro w9 D9
    clear a1 a2 a3 d1 d2 d3
    obtain ⟨a1, a2, a3, -⟩ := D9.cells
    refine bodyPost_ret (v := .agg #[.int .i64 bs, .slice A ds.length c]) (by simp [results, Tryd.results185, go_sem, a1]) rfl ⟨bs, A, c, ds, rfl, by omega, ?_⟩
    exact (D9.sel [2] 99 (by decide) (by decide)).mono (by omega)
  · go_wp2_with fail
    (with_reducible refine (KL.out _).mono ?_); rintro e w5 ⟨rfl, rfl⟩
    go_wp2_with fail
    have HG := Lib.hid (D4.drew.box2.1)
    have HT := HG
    go_region_held3 (fun W => W.cell? ⟨g, 0, none⟩ = some (.int .i64 bs)) (first | with_reducible exact HG.out | with_reducible exact HT.out | exact HG.out | exact HT.out) (first
      | (go_at_call 112; (with_reducible refine (pick_dr b _ _ _ D4.drew.src (by omega)).mono ?_); rintro e w5 ⟨y, rfl, hy, h5⟩; have D5 := D4.drew.add h5; clear HG; have HG := Lib.hid (D5.box2.1); have hy1 : 0 ≤ y ∧ y < 5 := ⟨hy.1, by rcases hy.2 with h | h <;> omega⟩; have wy1 : IntKind.i64.wrap (lo + y) = lo + y := wrapI64 (by omega); have wy2 : IntKind.i64.wrap (lo + y - 2) = lo + y - 2 := wrapI64 (by omega); clear hy)
      | (go_at_call 119; (with_reducible refine (KS.out _ _ (by omega)).mono ?_); rintro e w6 ⟨E, k, rfl, h6⟩; have D6 := D5.ad h6; clear HG; have HG := Lib.hid ((D6.front 1 rfl).box2.1); obtain ⟨x1, x2, x3, -⟩ := (D6.front 3 rfl).cells; have D8 := ((D6.front 3 rfl).st 0 (.int .i64 bs)).st 1 (.slice E (aSet bs ds.length (lo + y - 2)).length k); clear HT; have HT := Lib.hid ((D8.front 2 rfl).box2.1)))
    all_goals
      go_wp2_with fail
      refine bodyPost.dr D8 ?_; intro w9 D9
      clear a1 a2 a3 x1 x2 x3
      obtain ⟨a1, a2, a3, -⟩ := D9.cells
      refine bodyPost_ret (v := .agg #[.int .i64 bs, .slice E (aSet bs ds.length (lo + y - 2)).length k]) (by simp [results, Tryd.results185, go_sem, a1]) rfl ⟨bs, E, k, _, rfl, by rw [aSet_len]; omega, ?_⟩
      exact (D9.sel [1] 99 (by decide) (by decide)).mono (by omega)
end Go.Proofs.YtcapccadpbiecaaDoor

namespace Go.Proofs.YtcapccadpbiecaaDoor
open Go.RowKit Go.Sort
theorem DR.setI {b N : Nat} {w wi : World} {m : List Ent} {g c : Nat} {ds : List Int} (h : DR b N w (rowI (some ⟨g, 0, none⟩) c ds :: m) wi) (j : Nat) (v : Int) : DR b N w (rowI (some ⟨g, 0, none⟩) c (ds.set j v) :: m) (wi.setCell ⟨g, j, none⟩ (.int .i64 v)) := h.kn (fun _ hK => hK.setI j v)
theorem DR.rowCell {b N : Nat} {w wi : World} {m : List Ent} {g c : Nat} {ds : List Int} (h : DR b N w (rowI (some ⟨g, 0, none⟩) c ds :: m) wi) {j : Nat} (hj : j < ds.length) : wi.cell? ⟨g, j, none⟩ = some (.int .i64 ds[j]) ∧ wi.frozen? ⟨g, j, none⟩ = false ∧ g < wi.heap.size := by
  obtain ⟨v, -, -, hK⟩ := h
  have h1 := Kn.rowCell hK (j := j) (u := .int .i64 ds[j]) (by simp [hj])
  exact ⟨h1.1, h1.2, World.block_lt_of_cell? wi _ h1.1⟩
theorem DR.rowForm {b N : Nat} {w wi : World} {m : List Ent} {A : Option Addr} {c : Nat} {ds : List Int} (h : DR b N w (rowI A c ds :: m) wi) (hd : 0 < ds.length) : ∃ g, A = some ⟨g, 0, none⟩ := by
  obtain ⟨v, -, -, hK⟩ := h
  obtain ⟨g, c', he⟩ := Kn.rowForm hK hd
  injection he with he
  exact ⟨g, he⟩
theorem idxL {j L : Nat} (h : 0 ≤ (j : Int) ∧ ((j : Int) < (L : Int) ∨ (L : Int) ≤ 1 ∧ (j : Int) = 0)) (h1 : 1 ≤ L) : j < L := by omega
set_option maxRecDepth 100000 in
set_option maxHeartbeats 1600000 in
theorem l02Bent_dr (b N : Nat) (w : World) (h : Src w b N) (hN : N ≤ 600000) :
    Calls Tryd.prog 184 #[.pointer (some ⟨b, 0, none⟩)] w (DReg2 b (N + 150) w) := by
  unfold DReg2
  have D0 := DR.nil h
  clear h
  go_enter Tryd.func184, Tryd.ntmps184
  go_wp2_with fail
  refine Calls.dr (D0.al [.int .i64 0, .slice none 0 0] 35) ?_; intro w1 D1
  refine (l02Draw_dr b N w1 D1.src (by omega)).mono ?_; rintro e w2 ⟨bs, A, c, ds, rfl, ⟨b1, b2, n1, n2⟩, h2⟩
  have D2 := D1.add h2
  clear D0 D1 h2
  obtain ⟨g0, hg0⟩ : ∃ g, w.heap.size = g := ⟨_, rfl⟩
  rw [hg0] at D2 ⊢
  go_wp2_with fail
  refine Calls.dr (D2.al [.int .i64 bs, .slice A ds.length c] 35) ?_; intro w3 D3
  obtain ⟨g, hg⟩ : ∃ g, w2.heap.size = g := ⟨_, rfl⟩
  rw [hg] at D3 ⊢
  clear hg D2 hg0
  refine (pick_dr b _ 20 w3 D3.src (by omega)).mono ?_; rintro e w4 ⟨y, rfl, hy, h4⟩
  have D4 : DR b _ w [.blk g [.int .i64 bs, .slice A ds.length c] 35, rowI A c ds, .blk g0 [.int .i64 0, .slice none 0 0] 35] w4 := D3.add h4
  clear D3 h4
  have y0 : 0 ≤ y := hy.1
  clear hy
  by_cases h0 : y = 0
  · subst h0
    go_wp2_with fail
    refine Calls.dr (D4.al [.int .i64 1, .int .i64 2, .int .i64 16, .int .i64 17, .int .i64 (-9223372036854775808)] 2) ?_; intro w5 D5
    obtain ⟨hr, hA⟩ := DR.lit (ds := [1, 2, 16, 17, -9223372036854775808]) D5 (by decide)
    refine (among_dr b _ _ 5 5 _ w5 D5.src (by omega) hr hA (by omega) (by omega)).mono ?_; rintro e w6 ⟨x, rfl, hx, h6⟩
    have D6 := D5.add h6
    clear hr hA D4 D5 h6 hx
    obtain ⟨l1, l2, l3, a1, a2, a3, d1, d2, d3, -⟩ := D6.cells
    go_upto_region 16 with fail
    refine Code.wp.dr (((D6.front 1 rfl).st 0 (.int .i64 x)).sel [0, 2, 3] 99 (by decide) (by decide)) ?_; intro w8 D8
    clear D6 l1 l2 l3 a1 a2 a3 d1 d2 d3
    obtain ⟨a1, a2, a3, d1, d2, d3, -⟩ := D8.cells
    go_wp2_with fail
    refine bodyPost.dr (((D8.front 2 rfl).st 0 (.int .i64 x)).st 1 (.slice A ds.length c)) ?_; intro w9 D9
    clear a1 a2 a3 d1 d2 d3
    obtain ⟨a1, a2, a3, -⟩ := D9.cells
    refine bodyPost_ret (v := .agg #[.int .i64 x, .slice A ds.length c]) (by simp [results, Tryd.results184, go_sem, a1]) rfl ⟨x, A, c, ds, ?_, ?_, (D9.sel [2] 99 (by decide) (by decide)).mono (by omega)⟩
    · rfl
    · omega
  by_cases h1 : y = 1
  · subst h1
    obtain ⟨gA, rfl⟩ := (D4.front 1 rfl).rowForm (by omega)
    obtain ⟨L, hL⟩ : ∃ L, ds.length = L := ⟨_, rfl⟩
    have HL := Lib.hid hL
    rw [hL] at D4 n1 n2
    clear hL
    have wb : IntKind.i64.wrap (bs - 1) = bs - 1 := wrapI64 (by omega)
    obtain ⟨a1, a2, a3, d1, d2, d3, -⟩ := D4.cells
    go_upto_region 6 with fail
    have HG := Lib.hid (D4.drew.box2)
    have D5 := (D4.al [.int .i64 (-1), .int .i64 bs, .int .i64 (bs - 1), .int .i64 9223372036854775807] 2).drew
    have HT := Lib.hid ((D5.front 1 rfl).box2)
    go_region_held3 (fun W => W.cell? ⟨g, 0, none⟩ = some (.int .i64 bs) ∧ W.cell? ⟨g, 1, none⟩ = some (.slice (some ⟨gA, 0, none⟩) L c)) (first | with_reducible exact HG.out | with_reducible exact HT.out | exact HG.out | exact HT.out) (first
      | (go_at_call 112; (with_reducible refine (pick_dr b _ _ _ D5.src (by omega)).mono ?_); rintro e w5 ⟨y, rfl, hy, h5⟩; have D6 := D5.add h5; clear HG; have HG := Lib.hid ((D6.front 1 rfl).box2); obtain ⟨j, rfl⟩ : ∃ j : Nat, y = j := ⟨y.toNat, by omega⟩; have hj := idxL hy n1; have hj2 : (j : Int) < (L : Int) := by omega)
      | (go_at_call 112; (with_reducible refine (pick_dr b _ _ _ D4.drew.src (by omega)).mono ?_); rintro e w5 ⟨y, rfl, hy, h5⟩; have D5a := D4.drew.add h5; have D6 := D5a.al [.int .i64 (-1), .int .i64 bs, .int .i64 (bs - 1), .int .i64 9223372036854775807] 2; clear HG; have HG := Lib.hid (D5a.box2); clear HT; have HT := Lib.hid ((D6.front 1 rfl).box2); obtain ⟨j, rfl⟩ : ∃ j : Nat, y = j := ⟨y.toNat, by omega⟩; have hj := idxL hy n1; have hj2 : (j : Int) < (L : Int) := by omega)
      | (go_at_call 126; have hRA := DR.lit (ds := [-1, bs, bs - 1, 9223372036854775807]) D6 (by simp); refine (among_dr b _ _ 4 4 _ _ D6.src (by omega) hRA.1 hRA.2 (by omega) (by omega)).mono ?_; rintro e w7 ⟨x, rfl, hx, h7⟩; have D7 := D6.add h7; clear HG; have HG := Lib.hid ((D7.front 1 rfl).box2); have hrc := (D7.front 2 rfl).rowCell (j := j) (by rw [HL.out]; exact hj); obtain ⟨r1, r2, r3⟩ := hrc; have D8 := (D7.front 2 rfl).setI j x; clear HT; have HT := Lib.hid ((D8.front 2 rfl).box2)))
    all_goals
      clear HG HT D5 D6
      generalize w7.setCell ⟨gA, j, none⟩ (.int .i64 x) = w8 at D8 ⊢
      clear r1 r2 r3 hRA D7
      try clear D5a
      clear D4 a1 a2 a3 d1 d2 d3
      have D8 := D8.sel [2, 0, 3] 99 (by decide) (by decide)
      obtain ⟨a1, a2, a3, d1, d2, d3, -⟩ := D8.cells
      go_wp2_with fail
      refine bodyPost.dr (((D8.front 2 rfl).st 0 (.int .i64 bs)).st 1 (.slice (some ⟨gA, 0, none⟩) L c)) ?_; intro w9 D9
      clear a1 a2 a3 d1 d2 d3
      obtain ⟨a1, a2, a3, -⟩ := D9.cells
      refine bodyPost_ret (v := .agg #[.int .i64 bs, .slice (some ⟨gA, 0, none⟩) L c]) (by simp [results, Tryd.results184, go_sem, a1]) rfl ⟨bs, (some ⟨gA, 0, none⟩), c, (ds.set j x), ?_, ?_, (D9.sel [2] 99 (by decide) (by decide)).mono (by omega)⟩
      · rw [List.length_set, HL.out]
      · rw [List.length_set, HL.out]; omega
  by_cases h2 : y = 2
  · subst h2
    obtain ⟨a1, a2, a3, d1, d2, d3, -⟩ := D4.cells
    go_upto_region 16 with fail
    have D5 := (D4.st 1 (.slice (some ⟨w4.heap.size, 0, none⟩) 0 0)).al [] 2
    simp only [World.size_setCell] at D5
    refine Code.wp.dr ((D5.kn (m' := [rowI (some ⟨w4.heap.size, 0, none⟩) 0 [], .blk g [.int .i64 bs, .slice (some ⟨w4.heap.size, 0, none⟩) 0 0] 35, rowI A c ds, .blk g0 [.int .i64 0, .slice none 0 0] 35]) (fun v hK => hK.litRow (size := 1) (n := 0) rfl (by decide))).sel [1, 0, 3] 99 (by decide) (by decide)) ?_; intro w8 D8
    clear D4 D5 a1 a2 a3 d1 d2 d3
    obtain ⟨a1, a2, a3, d1, d2, d3, -⟩ := D8.cells
    go_wp2_with fail
    refine bodyPost.dr (((D8.front 2 rfl).st 0 (.int .i64 bs)).st 1 (.slice (some ⟨w4.heap.size, 0, none⟩) 0 0)) ?_; intro w9 D9
    clear a1 a2 a3 d1 d2 d3
    obtain ⟨a1, a2, a3, -⟩ := D9.cells
    refine bodyPost_ret (v := .agg #[.int .i64 bs, .slice (some ⟨w4.heap.size, 0, none⟩) 0 0]) (by simp [results, Tryd.results184, go_sem, a1]) rfl ⟨bs, (some ⟨w4.heap.size, 0, none⟩), 0, [], ?_, ?_, (D9.sel [2] 99 (by decide) (by decide)).mono (by omega)⟩
    · rfl
    · simp
  by_cases h3 : y = 3
  · subst h3
    obtain ⟨a1, a2, a3, d1, d2, d3, -⟩ := D4.cells
    go_wp2_with fail
    refine Calls.dr (D4.st 0 (.int .i64 5)) ?_; intro w5 D5
    clear a1 a2 a3 d1 d2 d3 D4
    refine (pick_dr b _ 2 w5 D5.src (by omega)).mono ?_; rintro e w6 ⟨x, rfl, hx, h6⟩
    have D6 := D5.add h6
    clear D5 h6
    obtain ⟨q, rfl⟩ : ∃ q : Nat, x = q := ⟨x.toNat, by omega⟩
    have hq : q ≤ 1 := by rcases hx.2 with h | h <;> omega
    have hq2 : IntKind.i64.wrap (16 + (q : Int)) = ((q + 16 : Nat) : Int) := by rw [wrapI64 (by omega)]; omega
    clear hx
    go_wp2_with fail
    rw [show (q : Int) + 16 = ((q + 16 : Nat) : Int) from rfl]
    refine (digits_dr b _ 5 (q + 16) w6 D6.src (by omega) (by omega) (by omega) (by omega)).mono ?_; rintro e w7 ⟨E, k, es, rfl, hl, -, h7⟩
    have D7 := D6.add h7
    clear D6 h7
    obtain ⟨a1, a2, a3, d1, d2, d3, -⟩ := D7.cells
    go_upto_region 16 with fail
    refine Code.wp.dr (((D7.front 1 rfl).st 1 (.slice E (q + 16) k)).sel [0, 1, 3] 99 (by decide) (by decide)) ?_; intro w8 D8
    clear D7 a1 a2 a3 d1 d2 d3
    obtain ⟨a1, a2, a3, d1, d2, d3, -⟩ := D8.cells
    go_wp2_with fail
    refine bodyPost.dr (((D8.front 2 rfl).st 0 (.int .i64 5)).st 1 (.slice E (q + 16) k)) ?_; intro w9 D9
    clear a1 a2 a3 d1 d2 d3
    obtain ⟨a1, a2, a3, -⟩ := D9.cells
    refine bodyPost_ret (v := .agg #[.int .i64 5, .slice E (q + 16) k]) (by simp [results, Tryd.results184, go_sem, a1]) rfl ⟨5, E, k, es, ?_, ?_, (D9.sel [2] 99 (by decide) (by decide)).mono (by omega)⟩
    · rw [hl]
    · omega
  by_cases h4 : y = 4
  · subst h4
    obtain ⟨a1, a2, a3, d1, d2, d3, -⟩ := D4.cells
    go_upto_region 15 with fail
    have D5 := ((D4.st 0 (.int .i64 10)).st 1 (.slice (some ⟨w4.heap.size, 0, none⟩) 13 13)).al [.int .i64 0, .int .i64 0, .int .i64 0, .int .i64 0, .int .i64 0, .int .i64 0, .int .i64 0, .int .i64 0, .int .i64 0, .int .i64 0, .int .i64 0, .int .i64 0, .int .i64 1] 2
    simp only [World.size_setCell] at D5
    refine Code.wp.dr D5 ?_; intro w5 D5
    obtain ⟨gl, hgl⟩ : ∃ g, w4.heap.size = g := ⟨_, rfl⟩
    rw [hgl] at D5
    clear a1 a2 a3 d1 d2 d3 D4 hgl
    obtain ⟨l1, l2, l3, a1, a2, a3, -⟩ := D5.cells
    have HG := Lib.hid ((D5.drew.front 1 rfl).box2.2)
    have HT := HG
    go_region_held3 (fun W => W.cell? ⟨g, 1, none⟩ = some (.slice (some ⟨gl, 0, none⟩) 13 13)) (first | with_reducible exact HG.out | with_reducible exact HT.out | exact HG.out | exact HT.out) (first
      | (go_at_call 112; (with_reducible refine (pick_dr b _ _ _ D5.drew.src (by omega)).mono ?_); rintro e w6 ⟨x, rfl, hx, h6⟩; have D6 := D5.drew.add h6; clear HG; have HG := Lib.hid ((D6.front 1 rfl).box2.2); obtain ⟨x1, x2, x3, -⟩ := D6.cells; have D7 := (D6.front 0 rfl).st 0 (.int .i64 x); clear HT; have HT := Lib.hid ((D7.front 1 rfl).box2.2)))
    all_goals
      clear HG HT D6
      try clear x1 x2 x3
      try clear l1 l2 l3 a1 a2 a3
      generalize w6.setCell ⟨gl, 0, none⟩ (.int .i64 x) = w7 at D7 ⊢
      have D8 := (D7.kn (m' := [rowI (some ⟨gl, 0, none⟩) 13 [x, 0, 0, 0, 0, 0, 0, 0, 0, 0, 0, 0, 1], .blk g [.int .i64 10, .slice (some ⟨gl, 0, none⟩) 13 13] 35, rowI A c ds, .blk g0 [.int .i64 0, .slice none 0 0] 35]) (fun v hK => hK.litRow (size := 1) (n := 13) rfl (by decide))).sel [1, 0, 3] 99 (by decide) (by decide)
      clear D7
      obtain ⟨a1, a2, a3, d1, d2, d3, -⟩ := D8.cells
      go_wp2_with fail
      refine bodyPost.dr (((D8.front 2 rfl).st 0 (.int .i64 10)).st 1 (.slice (some ⟨gl, 0, none⟩) 13 13)) ?_; intro w9 D9
      clear a1 a2 a3 d1 d2 d3
      obtain ⟨a1, a2, a3, -⟩ := D9.cells
      refine bodyPost_ret (v := .agg #[.int .i64 10, .slice (some ⟨gl, 0, none⟩) 13 13]) (by simp [results, Tryd.results184, go_sem, a1]) rfl ⟨10, (some ⟨gl, 0, none⟩), 13, [x, 0, 0, 0, 0, 0, 0, 0, 0, 0, 0, 0, 1], ?_, ?_, (D9.sel [2] 99 (by decide) (by decide)).mono (by omega)⟩
      · rfl
      · simp
  · go_upto_region 16 with fail
    refine Code.wp.dr D4 ?_; intro w8 D8
    clear D4
    obtain ⟨a1, a2, a3, d1, d2, d3, -⟩ := D8.cells
    go_wp2_with fail
    refine bodyPost.dr (((D8.front 2 rfl).st 0 (.int .i64 bs)).st 1 (.slice A ds.length c)) ?_; intro w9 D9
    clear a1 a2 a3 d1 d2 d3
    obtain ⟨a1, a2, a3, -⟩ := D9.cells
    refine bodyPost_ret (v := .agg #[.int .i64 bs, .slice A ds.length c]) (by simp [results, Tryd.results184, go_sem, a1]) rfl ⟨bs, A, c, ds, ?_, ?_, (D9.sel [2] 99 (by decide) (by decide)).mono (by omega)⟩
    · rfl
    · omega
end Go.Proofs.YtcapccadpbiecaaDoor

namespace Go.Proofs.YtcapccadpbiecaaDoor
open Go.RowKit Go.Sort
set_option maxRecDepth 100000 in
set_option maxHeartbeats 1600000 in
theorem l09Bent_dr (b N : Nat) (w : World) (h : Src w b N) (hN : N ≤ 500000) :
    Calls Tryd.prog 120 #[.pointer (some ⟨b, 0, none⟩)] w (DReg2 b (N + 200) w) := by
  unfold DReg2
  have D0 := DR.nil h
  clear h
  go_enter Tryd.func120, Tryd.ntmps120
  go_wp2_with fail
  refine Calls.dr (D0.al [.int .i64 0, .slice none 0 0] 35) ?_; intro w1 D1
  refine (one_dr b _ 8 w1 D1.src (by omega)).mono ?_; rintro e w2 ⟨y, rfl, h2⟩
  have D2 : DR b _ w [.blk w.heap.size [.int .i64 0, .slice none 0 0] 35] w2 := D1.add h2
  clear D0 D1 h2
  rcases y with _ | _
  · go_wp2_with fail
    refine (one_dr b _ 24 w2 D2.src (by omega)).mono ?_; rintro e w3 ⟨y, rfl, h3⟩
    have D3 : DR b _ w [.blk w.heap.size [.int .i64 0, .slice none 0 0] 35] w3 := D2.add h3
    clear D2 h3
    rcases y with _ | _
    · go_wp2_with fail
      refine (l09Draw_dr b _ w3 D3.src (by omega)).mono ?_; rintro e w4 ⟨bs, A, c, ds, rfl, hl, h4⟩
      have D4 := D3.add h4
      clear D3 h4
      obtain ⟨a1, a2, a3, -⟩ := D4.cells
      go_wp2_with fail
      refine bodyPost.dr ((((D4).front 1 rfl).st 0 (.int .i64 bs)).st 1 (.slice A ds.length c)) ?_; intro w9 D9
      clear a1 a2 a3
      obtain ⟨a1, a2, a3, -⟩ := D9.cells
      refine bodyPost_ret (v := .agg #[.int .i64 bs, .slice A ds.length c]) (by simp [results, Tryd.results120, go_sem, a1]) rfl ⟨bs, A, c, ds, ?_, ?_, (D9.sel [1] 99 (by decide) (by decide)).mono (by omega)⟩
      · rfl
      · exact hl
    · go_wp2_with fail
      refine (pick_dr b _ 2 w3 D3.src (by omega)).mono ?_; rintro e w6 ⟨x, rfl, hx, h6⟩
      have D6 := D3.add h6
      clear D3 h6
      obtain ⟨q, rfl⟩ : ∃ q : Nat, x = q := ⟨x.toNat, by omega⟩
      have hq : q ≤ 1 := by rcases hx.2 with h | h <;> omega
      have hq2 : IntKind.i64.wrap (12 + (q : Int)) = ((q + 12 : Nat) : Int) := by rw [wrapI64 (by omega)]; omega
      clear hx
      go_wp2_with fail
      rw [show (q : Int) + 12 = ((q + 12 : Nat) : Int) from rfl]
      refine (digits_dr b _ 2 (q + 12) w6 D6.src (by omega) (by omega) (by omega) (by omega)).mono ?_; rintro e w7 ⟨E, k, es, rfl, hl, -, h7⟩
      have D7 := D6.add h7
      clear D6 h7
      obtain ⟨a1, a2, a3, -⟩ := D7.cells
      go_wp2_with fail
      refine bodyPost.dr ((((D7).front 1 rfl).st 0 (.int .i64 10)).st 1 (.slice E (q + 12) k)) ?_; intro w9 D9
      clear a1 a2 a3
      obtain ⟨a1, a2, a3, -⟩ := D9.cells
      refine bodyPost_ret (v := .agg #[.int .i64 10, .slice E (q + 12) k]) (by simp [results, Tryd.results120, go_sem, a1]) rfl ⟨10, E, k, es, ?_, ?_, (D9.sel [1] 99 (by decide) (by decide)).mono (by omega)⟩
      · rw [hl]
      · omega
  · go_wp2_with fail
    refine (l02Bent_dr b _ w2 D2.src (by omega)).mono ?_; rintro e w4 ⟨bs, A, c, ds, rfl, hl, h4⟩
    have D4 := D2.add h4
    clear D2 h4
    obtain ⟨a1, a2, a3, -⟩ := D4.cells
    go_wp2_with fail
    refine bodyPost.dr ((((D4).front 1 rfl).st 0 (.int .i64 bs)).st 1 (.slice A ds.length c)) ?_; intro w9 D9
    clear a1 a2 a3
    obtain ⟨a1, a2, a3, -⟩ := D9.cells
    refine bodyPost_ret (v := .agg #[.int .i64 bs, .slice A ds.length c]) (by simp [results, Tryd.results120, go_sem, a1]) rfl ⟨bs, A, c, ds, ?_, ?_, (D9.sel [1] 99 (by decide) (by decide)).mono (by omega)⟩
    · rfl
    · exact hl
end Go.Proofs.YtcapccadpbiecaaDoor

namespace Go.Proofs.YtcapccadpbiecaaDoor
open Go.RowKit Go.Sort
/-- a register that a law's draw returns -/
def DrawsReg (w : World) (e : Ending) (w' : World) : Prop := ∃ (bs : Int) (A : Option Addr) (c : Nat) (ds : List Int), e = .returned (.agg #[.int .i64 bs, .slice A ds.length c]) ∧ ds.length ≤ 20 ∧ Kn w [rowI A c ds] w'
end Go.Proofs.YtcapccadpbiecaaDoor

namespace Go.Proofs.YtcapccadpbiecaaDoor
open Go.RowKit Go.Sort
end Go.Proofs.YtcapccadpbiecaaDoor

namespace Go.Proofs.YtcapccadpbiecaaDoor
open Go.RowKit Go.Sort
/-- what the draw of two registers returns -/
def Draws2 (w : World) (e : Ending) (w' : World) : Prop := ∃ (b : Int) (A : Option Addr) (c : Nat) (ds : List Int) (b2 : Int) (B : Option Addr) (k : Nat) (es : List Int), e = .returned (.tuple #[.agg #[.int .i64 b, .slice A ds.length c], .agg #[.int .i64 b2, .slice B es.length k]]) ∧ (ds.length ≤ 20 ∧ es.length ≤ 20) ∧ Kn w [rowI A c ds, rowI B k es] w'
theorem pick5 {q : Nat} (h : 0 ≤ (q : Int) ∧ ((q : Int) < 5 ∨ (5 : Int) ≤ 1 ∧ (q : Int) = 0)) : q ≤ 5 := by omega
end Go.Proofs.YtcapccadpbiecaaDoor

namespace Go.Proofs.YtcapccadpbiecaaDoor
open Go.RowKit Go.Sort
theorem f6big_any (A : Option Addr) (n c : Nat) (w : World) : Calls Tryd.prog 38 #[.slice A n c] w fun e w' => e = .returned (.bool (decide ((n : Int) > 4096))) ∧ w' = w := by
  go_enter Tryd.func38, Tryd.ntmps38
  go_wp2
  go_ret
  exact ⟨rfl, rfl⟩
theorem specSameRegister_same (b : Int) (A B : Option Addr) (c d : Nat) (ds : List Int) (w : World) (hr : RI w A ds.length ds) (hs : RI w B ds.length ds) (hm : ds.length ≤ 9223372036854775807) :
    Calls Tryd.prog 52 #[.agg #[.int .i64 b, .slice A ds.length c], .agg #[.int .i64 b, .slice B ds.length d]] w fun e w' => e = .returned (.bool true) ∧ Below w.heap.size w w' := by
  have HR := Lib.hid (fun W (hW : Below w.heap.size w W) => hr.below hW)
  have HS := Lib.hid (fun W (hW : Below w.heap.size w W) => hs.below hW)
  clear hr hs
  go_enter Tryd.func52, Tryd.ntmps52
  go_wp2_with fail
  refine Calls.kn (((Kn.nil w).al [.int .i64 b, .slice A ds.length c] 35).al [.int .i64 b, .slice B ds.length d] 35) ?_; intro w1 K1
  simp only [World.size_alloc] at K1
  refine (l02Same_any ⟨w.heap.size, 0, none⟩ ⟨w.heap.size + 1, 0, none⟩ ⟨b, ds⟩ ⟨b, ds⟩ w1 ⟨A, c, box2 (K1.front 1 rfl), HR.out _ K1.below⟩ ⟨B, d, box2 (K1.front 0 rfl), HS.out _ K1.below⟩ hm hm).mono ?_
  rintro e w2 ⟨rfl, q, rfl⟩
  have K2 := K1.drewN q
  go_wp2_with fail
  go_ret
  exact ⟨ret_bool (by simp [sameR]), K2.below⟩
end Go.Proofs.YtcapccadpbiecaaDoor

namespace Go.Proofs.YtcapccadpbiecaaDoor
open Go.RowKit Go.Sort
/-- the values of AccumulateAll, whatever its code -/
def aaV (b : Int) (ds xs : List Int) : Int × List Int × List Int := if aaC b ds xs = 0 then (b, accD b ds xs xs.length, accB b ds xs xs.length) else (0, [], [])
def anV (b : Int) (ds : List Int) (x : Int) : Int × List Int × Bool := if anuC b ds x = 0 then (b, aSet b ds.length (aNum b ds + x), !isNm (pw b ds.length) (aNum b ds + x)) else (0, [], false)
def tfV (b : Int) (ds : List Int) (b' : Int) (es : List Int) : (Int × List Int) × (Int × List Int) × Bool := if tfC b ds b' es = 0 then ((b, digD b ds.length 0), (b', aSet b' es.length (aNum b' es + aNum b ds)), !isNm (pw b' es.length) (aNum b' es + aNum b ds)) else ((0, []), (0, []), false)
theorem AARet.v {b : Int} {ds xs : List Int} {w : World} {e : Ending} {w' : World} (h : AARet b ds xs w e w') :
    ∃ E k B m, e = .returned (.tuple #[.agg #[.int .i64 (aaV b ds xs).1, .slice E (aaV b ds xs).2.1.length k], .slice B (aaV b ds xs).2.2.length m, .int .i64 (aaC b ds xs)]) ∧ Kn w [rowI B m (aaV b ds xs).2.2, rowI E k (aaV b ds xs).2.1] w' := by
  rcases h with ⟨h0, he, hb⟩ | ⟨h0, E, k, B, m, he, hK⟩
  · have hv : aaV b ds xs = (0, [], []) := by unfold aaV; rw [if_neg h0]
    rw [hv]
    exact ⟨none, 0, none, 0, he, ((((Kn.nil w).keep hb).nilRow 2 1).nilRow 2 1)⟩
  · have hv : aaV b ds xs = (b, accD b ds xs xs.length, accB b ds xs xs.length) := by unfold aaV; rw [if_pos h0]
    rw [hv, h0]
    exact ⟨E, k, B, m, he, hK⟩
theorem ANRet.v {b : Int} {ds : List Int} {x : Int} {w : World} {e : Ending} {w' : World} (h : ANRet b ds x w e w') :
    ∃ E k, e = .returned (.tuple #[.agg #[.int .i64 (anV b ds x).1, .slice E (anV b ds x).2.1.length k], .bool (anV b ds x).2.2, .int .i64 (anuC b ds x)]) ∧ Kn w [rowI E k (anV b ds x).2.1] w' := by
  rcases h with ⟨h0, he, hb⟩ | ⟨h0, E, k, he, hK⟩
  · have hv : anV b ds x = (0, [], false) := by unfold anV; rw [if_neg h0]
    rw [hv]
    exact ⟨none, 0, he, (((Kn.nil w).keep hb).nilRow 2 1)⟩
  · have hv : anV b ds x = (b, aSet b ds.length (aNum b ds + x), !isNm (pw b ds.length) (aNum b ds + x)) := by unfold anV; rw [if_pos h0]
    rw [hv, h0]
    exact ⟨E, k, he, hK⟩
theorem TFRet.v {b : Int} {ds : List Int} {b' : Int} {es : List Int} {w : World} {e : Ending} {w' : World} (h : TFRet b ds b' es w e w') :
    ∃ E1 k1 E2 k2, e = .returned (.tuple #[.agg #[.int .i64 (tfV b ds b' es).1.1, .slice E1 (tfV b ds b' es).1.2.length k1], .agg #[.int .i64 (tfV b ds b' es).2.1.1, .slice E2 (tfV b ds b' es).2.1.2.length k2], .bool (tfV b ds b' es).2.2, .int .i64 (tfC b ds b' es)]) ∧
      Kn w [rowI E2 k2 (tfV b ds b' es).2.1.2, rowI E1 k1 (tfV b ds b' es).1.2] w' := by
  rcases h with ⟨h0, he, hb⟩ | ⟨h0, E1, k1, E2, k2, he, hK⟩
  · have hv : tfV b ds b' es = ((0, []), (0, []), false) := by unfold tfV; rw [if_neg h0]
    rw [hv]
    exact ⟨none, 0, none, 0, he, ((((Kn.nil w).keep hb).nilRow 2 1).nilRow 2 1)⟩
  · have hv : tfV b ds b' es = ((b, digD b ds.length 0), (b', aSet b' es.length (aNum b' es + aNum b ds)), !isNm (pw b' es.length) (aNum b' es + aNum b ds)) := by unfold tfV; rw [if_pos h0]
    rw [hv, h0]
    exact ⟨E1, k1, E2, k2, he, hK⟩
/-- where the transfer rings no bell, the second number is the sum -/
theorem tf_sum {b : Int} {ds : List Int} {b' : Int} {es : List Int} (h0 : tfC b ds b' es = 0) (hr : (tfV b ds b' es).2.2 = false) (hok : aOk b' es = true) (hn : ∀ y, isNm (pw b' es.length) y = true → aNum b' (aSet b' es.length y) = y) :
    aNum (tfV b ds b' es).2.1.1 (tfV b ds b' es).2.1.2 = aNum b' es + aNum b ds := by
  unfold tfV at hr ⊢
  rw [if_pos h0] at hr ⊢
  exact hn _ (by simpa using hr)
end Go.Proofs.YtcapccadpbiecaaDoor

namespace Go.Proofs.YtcapccadpbiecaaDoor
open Go.RowKit Go.Sort
theorem aNorm_val {n y : Int} (hn : 1 ≤ n) (h1 : -n < y) (h2 : y < n) : aNorm n y = if 0 ≤ y then y else y + n := by
  unfold aNorm
  by_cases h : 0 ≤ y
  · rw [if_pos h, Int.tmod_eq_of_lt h h2, Int.tmod_eq_emod_of_nonneg (by omega), Int.add_emod_right, Int.emod_eq_of_lt h h2]
  · rw [if_neg h]
    have hy : y.tmod n = y := by
      have h3 : (-y).tmod n = -y := Int.tmod_eq_of_lt (by omega) (by omega)
      rw [Int.neg_tmod] at h3
      omega
    rw [hy, Int.tmod_eq_of_lt (by omega) (by omega)]
/-- what is set is shown -/
theorem aNum_aSet {b : Int} {k : Nat} {y : Int} (b1 : 2 ≤ b) (hn : pw b k ≤ 1000000000001) (h : isNm (pw b k) y = true) : aNum b (aSet b k y) = y := by
  have hp := pw_pos b b1 k
  have hh := half_bd (n := pw b k) (by omega)
  have hy := betB_iff.1 h
  have ha := aNorm_val (n := pw b k) (y := y) hp (by omega) (by omega)
  have hb := aNorm_bd (n := pw b k) (x := y) hp
  have hv : valL b (aSet b k y) = aNorm (pw b k) y := valL_digD b b1 k _ hb.1 hb.2 (by omega)
  unfold aNum
  rw [aSet_len, hv, ha]
  by_cases h0 : 0 ≤ y
  · simp only [if_pos h0]
    rw [if_pos (by omega)]
  · simp only [if_neg h0]
    rw [if_neg (by omega)]
    omega
theorem aNum_aSet_ok {b : Int} {ds : List Int} {y : Int} (ho : aOk b ds = true) (h : isNm (pw b ds.length) y = true) : aNum b (aSet b ds.length y) = y := by
  obtain ⟨h1, h2⟩ := aOk_iff.1 ho
  obtain ⟨⟨b1, -⟩, -⟩ := vreg_iff.1 h1
  exact aNum_aSet b1 h2 h
def sumL : List Int → Int
  | [] => 0
  | x :: l => x + sumL l
theorem sumL_snoc (l : List Int) (x : Int) : sumL (l ++ [x]) = sumL l + x := by
  induction l with
  | nil => simp [sumL]
  | cons y l ih => simp only [List.cons_append, sumL, ih]; omega
theorem accB_nil {b : Int} {ds xs : List Int} {k : Nat} (h : accB b ds xs (k + 1) = []) : accB b ds xs k = [] ∧ isNm (pw b ds.length) (aNum b (accD b ds xs k) + xs.getD k 0) = true := by
  unfold accB at h
  split at h
  · exact ⟨h, by assumption⟩
  · simp at h
/-- where no bell rings, the number is the sum -/
theorem acc_sum {b : Int} {ds xs : List Int} (ho : aOk b ds = true) : ∀ (k : Nat), k ≤ xs.length → accB b ds xs k = [] → aNum b (accD b ds xs k) = aNum b ds + sumL (xs.take k)
  | 0, _, _ => by simp [accD, sumL]
  | k + 1, hk, h => by
    obtain ⟨h1, h2⟩ := accB_nil h
    have ih := acc_sum ho k (by omega) h1
    have hs : accD b ds xs (k + 1) = aSet b ds.length (aNum b (accD b ds xs k) + xs.getD k 0) := rfl
    rw [hs, aNum_aSet_ok ho h2, ih, List.take_succ_eq_append_getElem (by omega), sumL_snoc, getD_of (by omega)]
    omega
theorem accB_nil_le {b : Int} {ds xs : List Int} : ∀ (k j : Nat), accB b ds xs (k + j) = [] → accB b ds xs k = []
  | _, 0, h => h
  | k, j + 1, h => accB_nil_le k j (accB_nil h).1
theorem clear_zero {b d : Int} (b1 : 2 ≤ b) (h0 : 0 ≤ d) (h1 : d < b) : (d + (b - d).tmod b).tmod b = 0 := by
  by_cases hd : d = 0
  · subst hd
    rw [Int.sub_zero, Int.tmod_self]; simp
  · rw [Int.tmod_eq_of_lt (a := b - d) (by omega) (by omega)]
    rw [show d + (b - d) = b by omega, Int.tmod_self]
end Go.Proofs.YtcapccadpbiecaaDoor

namespace Go.Proofs.YtcapccadpbiecaaDoor
open Go.RowKit Go.Sort
/-! setting, negating, widening, telling: plainly -/
def zOk (b k : Int) : Bool := betB b 2 16 && (betB k 1 16 && decide (pw b k.toNat ≤ 1000000000001))
theorem zOk_iff {b k : Int} (h : zOk b k = true) : (2 ≤ b ∧ b ≤ 16) ∧ ∃ n : Nat, k = n ∧ 1 ≤ n ∧ n ≤ 16 ∧ k.toNat = n ∧ pw b n ≤ 1000000000001 ∧ 1 ≤ pw b n := by
  unfold zOk at h
  rw [Bool.and_eq_true, Bool.and_eq_true, decide_eq_true_eq] at h
  obtain ⟨h1, h2, h3⟩ := h
  have b1 := betB_iff.1 h1
  have b2 := betB_iff.1 h2
  exact ⟨b1, k.toNat, by omega, by omega, by omega, rfl, h3, pw_pos b b1.1 _⟩
/-- a register and a code -/
def R1Ret (b : Int) (es : List Int) (C : Int) (w : World) (e : Ending) (w' : World) : Prop := ∃ E g, e = .returned (.tuple #[.agg #[.int .i64 b, .slice E es.length g], .int .i64 C]) ∧ Kn w [rowI E g es] w'
theorem R1Ret.zero {C : Int} {w w' : World} (h : Below w.heap.size w w') : R1Ret 0 [] C w (.returned (.tuple #[.agg #[.int .i64 0, .slice none 0 0], .int .i64 C])) w' :=
  ⟨none, 0, rfl, ((Kn.nil w).keep h).nilRow _ _⟩
def saC (b k x : Int) : Int := if zOk b k = false then 2 else if isNm (pw b k.toNat) x = false then 5 else 0
def saV (b k x : Int) : Int := if saC b k x = 0 then b else 0
def saD (b k x : Int) : List Int := if saC b k x = 0 then aSet b k.toNat x else []
theorem sa_not {b k x C : Int} (h : saC b k x = C) (hc : C ≠ 0) : saC b k x = C ∧ saV b k x = 0 ∧ saD b k x = [] := ⟨h, by unfold saV; rw [h, if_neg hc], by unfold saD; rw [h, if_neg hc]⟩
theorem sa_bad {b k x : Int} (h : zOk b k = false) : saC b k x = 2 ∧ saV b k x = 0 ∧ saD b k x = [] := sa_not (by unfold saC; rw [if_pos h]) (by decide)
theorem sa_full {b k x : Int} (h : zOk b k = true) (h2 : isNm (pw b k.toNat) x = false) : saC b k x = 5 ∧ saV b k x = 0 ∧ saD b k x = [] := sa_not (by unfold saC; rw [if_neg (by rw [h]; decide), if_pos h2]) (by decide)
theorem sa_fine {b k x : Int} (h : zOk b k = true) (h2 : isNm (pw b k.toNat) x = true) : saC b k x = 0 ∧ saV b k x = b ∧ saD b k x = aSet b k.toNat x := by
  have h1 : saC b k x = 0 := by unfold saC; rw [if_neg (by rw [h]; decide), if_neg (by rw [h2]; decide)]
  exact ⟨h1, by unfold saV; rw [h1, if_pos rfl], by unfold saD; rw [h1, if_pos rfl]⟩
theorem isNm_bd {n x : Int} (hn0 : 0 ≤ n) (hn : n ≤ 1000000000001) (h : isNm n x = true) : -1000000000001 ≤ x ∧ x ≤ 1000000000001 := by
  have := half_bd hn0
  have := betB_iff.1 h
  omega
/-! how many numbers, whatever the base and width -/
theorem numbersOfG (b k : Int) (w : World) : Calls Tryd.prog 115 #[.int .i64 b, .int .i64 k] w fun e w' => e = .returned (.int .i64 (if zOk b k = true then pw b k.toNat else 0)) ∧ w = w' := by
  have KB := (fun W => isBase_any b W)
  have KW := (fun W => regWidth_any k W)
  have HZ := Lib.hid (show zOk b k = (betB b 2 16 && (betB k 1 16 && decide (pw b k.toNat ≤ 1000000000001))) from rfl)
  rcases hb : betB b 2 16 with _ | _
  · rw [hb] at KB
    have HQ : Hid ((if zOk b k = true then pw b k.toNat else 0) = 0) := by simp only [Hid]; rw [HZ.out, hb]; rfl
    obtain ⟨R, hR⟩ : ∃ R, (if zOk b k = true then pw b k.toNat else 0) = R := ⟨_, rfl⟩
    rw [hR] at HQ ⊢
    replace KB := Lib.hid KB
    clear hR hb KW HZ
    go_enter Tryd.func115, Tryd.ntmps115
    go_wp2_with (go_at_call 180; refine (KB.out _).mono ?_; rintro e w' ⟨rfl, rfl⟩)
    go_ret
    exact ⟨ret_int HQ.out.symm, rfl⟩
  rcases hk : betB k 1 16 with _ | _
  · rw [hb] at KB
    rw [hk] at KW
    have HQ : Hid ((if zOk b k = true then pw b k.toNat else 0) = 0) := by simp only [Hid]; rw [HZ.out, hb, hk]; rfl
    obtain ⟨R, hR⟩ : ∃ R, (if zOk b k = true then pw b k.toNat else 0) = R := ⟨_, rfl⟩
    rw [hR] at HQ ⊢
    replace KB := Lib.hid KB
    replace KW := Lib.hid KW
    clear hR hb hk HZ
    go_enter Tryd.func115, Tryd.ntmps115
    go_wp2_with (first | (go_at_call 180; refine (KB.out _).mono ?_; rintro e w' ⟨rfl, rfl⟩) | (go_at_call 181; refine (KW.out _).mono ?_; rintro e w' ⟨rfl, rfl⟩))
    go_ret
    exact ⟨ret_int HQ.out.symm, rfl⟩
  have b1 := betB_iff.1 hb
  have b2 := betB_iff.1 hk
  obtain ⟨n, rfl⟩ : ∃ n : Nat, k = n := ⟨k.toNat, by omega⟩
  refine (numbersOf_any b n w b1.1 b1.2 (by omega) (by omega)).mono ?_
  rintro e w' ⟨rfl, rfl⟩
  refine ⟨ret_int ?_, rfl⟩
  rw [HZ.out, hb, hk, Int.toNat_natCast]
  unfold powC
  by_cases h : pw b n ≤ 1000000000001 <;> simp [h]
theorem l09Size_any (b k : Int) (w : World) : Calls Tryd.prog 109 #[.int .i64 b, .int .i64 k] w fun e w' => e = .returned (.bool (zOk b k)) ∧ w = w' := by
  have KB := (fun W => l02Base_any b W)
  have KW := (fun W => l00In_any k 1 16 W)
  have HZ := Lib.hid (show zOk b k = (betB b 2 16 && (betB k 1 16 && decide (pw b k.toNat ≤ 1000000000001))) from rfl)
  obtain ⟨R, hR⟩ : ∃ R, zOk b k = R := ⟨_, rfl⟩
  rw [hR] at HZ ⊢
  clear hR
  rcases hb : betB b 2 16 with _ | _
  · rw [hb] at KB
    have HQ : Hid (R = false) := by simp only [Hid]; rw [HZ.out, hb]; rfl
    replace KB := Lib.hid KB
    clear hb KW HZ
    go_enter Tryd.func109, Tryd.ntmps109
    go_wp2_with (go_at_call 177; refine (KB.out _).mono ?_; rintro e w' ⟨rfl, rfl⟩)
    go_ret
    exact ⟨ret_bool HQ.out.symm, rfl⟩
  rcases hk : betB k 1 16 with _ | _
  · rw [hb] at KB
    rw [hk] at KW
    have HQ : Hid (R = false) := by simp only [Hid]; rw [HZ.out, hb, hk]; rfl
    replace KB := Lib.hid KB
    replace KW := Lib.hid KW
    clear hb hk HZ
    go_enter Tryd.func109, Tryd.ntmps109
    go_wp2_with (first | (go_at_call 177; refine (KB.out _).mono ?_; rintro e w' ⟨rfl, rfl⟩) | (go_at_call 128; refine (KW.out _).mono ?_; rintro e w' ⟨rfl, rfl⟩))
    go_ret
    exact ⟨ret_bool HQ.out.symm, rfl⟩
  have b1 := betB_iff.1 hb
  have b2 := betB_iff.1 hk
  obtain ⟨n, rfl⟩ : ∃ n : Nat, k = n := ⟨k.toNat, by omega⟩
  have KF := Lib.hid (fun W => l10Full_any b n W b1.1 b1.2 (by omega))
  rw [hb] at KB
  rw [hk] at KW
  have HQ : Hid (R = decide (pw b n ≤ 1000000000001)) := by simp only [Hid]; rw [HZ.out, hb, hk, Int.toNat_natCast]; rfl
  replace KB := Lib.hid KB
  replace KW := Lib.hid KW
  clear hb hk HZ
  go_enter Tryd.func109, Tryd.ntmps109
  go_wp2_with (first | (go_at_call 177; refine (KB.out _).mono ?_; rintro e w' ⟨rfl, rfl⟩) | (go_at_call 128; refine (KW.out _).mono ?_; rintro e w' ⟨rfl, rfl⟩) | (go_at_call 129; refine (KF.out _).mono ?_; rintro e w' ⟨rfl, rfl⟩))
  go_ret
  exact ⟨ret_bool HQ.out.symm, rfl⟩
/-! the range -/
def arL (b k : Int) : Int := if zOk b k = true then -((pw b k.toNat).tdiv 2) else 0
def arH (b k : Int) : Int := if zOk b k = true then pw b k.toNat - 1 - (pw b k.toNat).tdiv 2 else 0
def arC (b k : Int) : Int := if zOk b k = true then 0 else 2
theorem AccumulatorRange_any (b k : Int) (w : World) : Calls Tryd.prog 43 #[.int .i64 b, .int .i64 k] w fun e w' => e = .returned (.tuple #[.int .i64 (arL b k), .int .i64 (arH b k), .int .i64 (arC b k)]) ∧ w = w' := by
  have KN := (fun W => numbersOfG b k W)
  rcases hz : zOk b k with _ | _
  · rw [hz] at KN
    have HL := Lib.hid (show arL b k = 0 ∧ arH b k = 0 ∧ arC b k = 2 by unfold arL arH arC; rw [hz]; exact ⟨rfl, rfl, rfl⟩)
    replace KN := Lib.hid KN
    clear hz
    go_enter Tryd.func43, Tryd.ntmps43
    go_wp2_with (go_at_call 115; refine (KN.out _).mono ?_; rintro e w' ⟨rfl, rfl⟩; rw [if_neg (by decide)])
    go_ret3
    exact ⟨by rw [HL.out.1, HL.out.2.1, HL.out.2.2]; rfl, rfl⟩
  · rw [hz, if_pos rfl] at KN
    obtain ⟨-, m, -, -, -, hm, p1, p2⟩ := zOk_iff hz
    have HL := (show arL b k = -((pw b k.toNat).tdiv 2) ∧ arH b k = pw b k.toNat - 1 - (pw b k.toNat).tdiv 2 ∧ arC b k = 0 by unfold arL arH arC; rw [hz]; exact ⟨rfl, rfl, rfl⟩)
    rw [hm] at KN HL
    obtain ⟨n, hn⟩ : ∃ n, pw b m = n := ⟨_, rfl⟩
    rw [hn] at KN HL p1 p2
    have hh := half_bd (n := n) (by omega)
    obtain ⟨q, hq⟩ : ∃ q, n.tdiv 2 = q := ⟨_, rfl⟩
    rw [hq] at HL hh
    have w1 : IntKind.i64.wrap q = q := wrapI64 (by omega)
    have w2 : IntKind.i64.wrap (-q) = -q := wrapI64 (by omega)
    have w3 : IntKind.i64.wrap (n - 1) = n - 1 := wrapI64 (by omega)
    have w4 : IntKind.i64.wrap (n - 1 - q) = n - 1 - q := wrapI64 (by omega)
    have w5 : IntKind.i64.wrap (n.tdiv 2) = q := by rw [hq]; exact w1
    have nz : (n == 0) = false := by simp; omega
    replace HL := Lib.hid HL
    replace KN := Lib.hid KN
    clear hz hn hm
    go_enter Tryd.func43, Tryd.ntmps43
    go_wp2_with (go_at_call 115; refine (KN.out _).mono ?_; rintro e w' ⟨rfl, rfl⟩)
    go_ret3
    exact ⟨by rw [HL.out.1, HL.out.2.1, HL.out.2.2]; rfl, rfl⟩
theorem specAccumulatorRange_any (b k : Int) (w : World) : Calls Tryd.prog 44 #[.int .i64 b, .int .i64 k] w fun e w' => e = .returned (.tuple #[.int .i64 (arL b k), .int .i64 (arH b k), .int .i64 (arC b k)]) ∧ w = w' := by
  have KN := (fun W => l09Size_any b k W)
  rcases hz : zOk b k with _ | _
  · rw [hz] at KN
    have HL := Lib.hid (show arL b k = 0 ∧ arH b k = 0 ∧ arC b k = 2 by unfold arL arH arC; rw [hz]; exact ⟨rfl, rfl, rfl⟩)
    replace KN := Lib.hid KN
    clear hz
    go_enter Tryd.func44, Tryd.ntmps44
    go_wp2_with (go_at_call 109; refine (KN.out _).mono ?_; rintro e w' ⟨rfl, rfl⟩)
    go_ret3
    exact ⟨by rw [HL.out.1, HL.out.2.1, HL.out.2.2]; rfl, rfl⟩
  · rw [hz] at KN
    obtain ⟨⟨b1, b2⟩, m, hkm, m1, m2, hm, p1, p2⟩ := zOk_iff hz
    have HL := (show arL b k = -((pw b k.toNat).tdiv 2) ∧ arH b k = pw b k.toNat - 1 - (pw b k.toNat).tdiv 2 ∧ arC b k = 0 by unfold arL arH arC; rw [hz]; exact ⟨rfl, rfl, rfl⟩)
    have KP := (fun W => l10Power_any b m W b1 b2 (by omega))
    have KL := (fun W => l09Low_any b m (pw b m) W b1 b2 m2 rfl p1)
    rw [hm] at HL
    obtain ⟨n, hn⟩ : ∃ n, pw b m = n := ⟨_, rfl⟩
    rw [show powS b m = n by unfold powS; omega] at KP
    rw [hn] at HL p1 p2 KL
    have hh := half_bd (n := n) (by omega)
    obtain ⟨q, hq⟩ : ∃ q, n.tdiv 2 = q := ⟨_, rfl⟩
    rw [hq] at HL hh
    have w1 : IntKind.i64.wrap q = q := wrapI64 (by omega)
    have w2 : IntKind.i64.wrap (-q) = -q := wrapI64 (by omega)
    have w3 : IntKind.i64.wrap (n - 1) = n - 1 := wrapI64 (by omega)
    have w4 : IntKind.i64.wrap (n - 1 - q) = n - 1 - q := wrapI64 (by omega)
    have w5 : IntKind.i64.wrap (n.tdiv 2) = q := by rw [hq]; exact w1
    have nz : (n == 0) = false := by simp; omega
    rw [hq] at KL
    replace HL := Lib.hid HL
    replace KN := Lib.hid KN
    replace KP := Lib.hid KP
    replace KL := Lib.hid KL
    clear hz hn hm hq w5
    subst hkm
    go_enter Tryd.func44, Tryd.ntmps44
    go_wp2_with (first | (go_at_call 109; refine (KN.out _).mono ?_; rintro e w' ⟨rfl, rfl⟩) | (go_at_call 113; refine (KP.out _).mono ?_; rintro e w' ⟨rfl, rfl⟩) | (go_at_call 111; refine (KL.out _).mono ?_; rintro e w' ⟨rfl, rfl⟩))
    go_ret3
    exact ⟨by rw [HL.out.1, HL.out.2.1, HL.out.2.2]; rfl, rfl⟩
set_option maxRecDepth 100000 in
theorem SetAccumulator_any (b k x : Int) (w : World) : Calls Tryd.prog 40 #[.int .i64 b, .int .i64 k, .int .i64 x] w (R1Ret (saV b k x) (saD b k x) (saC b k x) w) := by
  have KN := (fun W => numbersOfG b k W)
  rcases hz : zOk b k with _ | _
  · rw [hz, if_neg (by decide)] at KN
    have HC := Lib.hid (sa_bad (x := x) hz)
    replace KN := Lib.hid KN
    clear hz
    go_enter Tryd.func40, Tryd.ntmps40
    go_wp2_with fail
    refine Calls.kn ((Kn.nil w).al [.int .i64 0, .slice none 0 0] 35) ?_; intro w1 hK1
    refine (KN.out _).mono ?_; rintro e w2 ⟨rfl, rfl⟩
    obtain ⟨x1, x2, x3⟩ := hK1.blkAt
    go_wp2_with fail
    refine bodyPost.kn (((hK1.st 0 (.int .i64 0)).st 1 (.slice none 0 0)).sel [0] 9 (by decide) (by decide)) ?_; intro w9 hK9
    obtain ⟨a1, a2, a3, -⟩ := hK9.cells
    refine bodyPost_ret (v := .tuple #[.agg #[.int .i64 0, .slice none 0 0], .int .i64 2]) (by simp [results, Tryd.results40, go_sem, a1]) rfl ?_
    rw [HC.out.1, HC.out.2.1, HC.out.2.2]
    exact R1Ret.zero hK9.below
  rw [hz, if_pos rfl] at KN
  obtain ⟨⟨b1, b2⟩, m, hkm, m1, m2, hm, p1, p2⟩ := zOk_iff hz
  have KI := (fun W => isNumber_any (pw b m) x W (by omega) p1)
  have H5 := sa_full (x := x) hz
  have H0 := sa_fine (x := x) hz
  rw [hm] at KN H5 H0
  have KA := (fun (hx : isNm (pw b m) x = true) W => accumulator_any b m (pw b m) x W b1 b2 m2 rfl p1 (by have := isNm_bd (by omega) p1 hx; omega))
  obtain ⟨es, hes⟩ : ∃ l, aSet b m x = l := ⟨_, rfl⟩
  rw [hes] at H0 KA
  obtain ⟨n, hn⟩ : ∃ n, pw b m = n := ⟨_, rfl⟩
  rw [hn] at KN KI H5 H0 KA p1 p2
  have nz : (n == 0) = false := by simp; omega
  replace KN := Lib.hid KN
  rcases hx : isNm n x with _ | _
  · rw [hx] at KI
    have HC := Lib.hid (H5 hx)
    replace KI := Lib.hid KI
    clear hz hn hm hes H0 KA H5 hx
    subst hkm
    go_enter Tryd.func40, Tryd.ntmps40
    go_wp2_with fail
    refine Calls.kn ((Kn.nil w).al [.int .i64 0, .slice none 0 0] 35) ?_; intro w1 hK1
    refine (KN.out _).mono ?_; rintro e w2 ⟨rfl, rfl⟩
    obtain ⟨x1, x2, x3⟩ := hK1.blkAt
    go_wp2_with (go_at_call 116; refine (KI.out _).mono ?_; rintro e w3 ⟨rfl, rfl⟩)
    refine bodyPost.kn (((hK1.st 0 (.int .i64 0)).st 1 (.slice none 0 0)).sel [0] 9 (by decide) (by decide)) ?_; intro w9 hK9
    obtain ⟨a1, a2, a3, -⟩ := hK9.cells
    refine bodyPost_ret (v := .tuple #[.agg #[.int .i64 0, .slice none 0 0], .int .i64 5]) (by simp [results, Tryd.results40, go_sem, a1]) rfl ?_
    rw [HC.out.1, HC.out.2.1, HC.out.2.2]
    exact R1Ret.zero hK9.below
  · rw [hx] at KI
    have HC := Lib.hid (H0 hx)
    have KA := Lib.hid (KA hx)
    replace KI := Lib.hid KI
    clear hz hn hm hes H0 H5 hx
    subst hkm
    go_enter Tryd.func40, Tryd.ntmps40
    go_wp2_with fail
    refine Calls.kn ((Kn.nil w).al [.int .i64 0, .slice none 0 0] 35) ?_; intro w1 hK1
    refine (KN.out _).mono ?_; rintro e w2 ⟨rfl, rfl⟩
    go_wp2_with (first | (go_at_call 116; refine (KI.out _).mono ?_; rintro e w3 ⟨rfl, rfl⟩) | (go_at_call 117; refine (KA.out _).mono ?_; rintro e w4 ⟨E, g, rfl, hKn⟩; have hK4 := hK1.join hKn; obtain ⟨x1, x2, x3⟩ := (hK4.front 1 rfl).blkAt))
    refine bodyPost.kn (((hK4.front 1 rfl).st 0 (.int .i64 b)).st 1 (.slice E es.length g)) ?_; intro w9 hK9
    try clear x1 x2 x3
    obtain ⟨a1, a2, a3, -⟩ := hK9.cells
    refine bodyPost_ret (v := .tuple #[.agg #[.int .i64 b, .slice E es.length g], .int .i64 0]) (by simp [results, Tryd.results40, go_sem, a1]) rfl ?_
    rw [HC.out.1, HC.out.2.1, HC.out.2.2]
    exact ⟨E, g, rfl, hK9.sel [1] 99 (by decide) (by decide)⟩
set_option maxRecDepth 100000 in
theorem specSetAccumulator_any (b k x : Int) (w : World) : Calls Tryd.prog 41 #[.int .i64 b, .int .i64 k, .int .i64 x] w (R1Ret (saV b k x) (saD b k x) (saC b k x) w) := by
  have KN := (fun W => l09Size_any b k W)
  rcases hz : zOk b k with _ | _
  · rw [hz] at KN
    have HC := Lib.hid (sa_bad (x := x) hz)
    replace KN := Lib.hid KN
    clear hz
    go_enter Tryd.func41, Tryd.ntmps41
    go_wp2_with fail
    refine Calls.kn ((Kn.nil w).al [.int .i64 0, .slice none 0 0] 35) ?_; intro w1 hK1
    refine (KN.out _).mono ?_; rintro e w2 ⟨rfl, rfl⟩
    obtain ⟨x1, x2, x3⟩ := hK1.blkAt
    go_wp2_with fail
    refine bodyPost.kn (((hK1.st 0 (.int .i64 0)).st 1 (.slice none 0 0)).sel [0] 9 (by decide) (by decide)) ?_; intro w9 hK9
    obtain ⟨a1, a2, a3, -⟩ := hK9.cells
    refine bodyPost_ret (v := .tuple #[.agg #[.int .i64 0, .slice none 0 0], .int .i64 2]) (by simp [results, Tryd.results41, go_sem, a1]) rfl ?_
    rw [HC.out.1, HC.out.2.1, HC.out.2.2]
    exact R1Ret.zero hK9.below
  rw [hz] at KN
  obtain ⟨⟨b1, b2⟩, m, hkm, m1, m2, hm, p1, p2⟩ := zOk_iff hz
  have KI := (fun W => l09In_any b m (pw b m) x W b1 b2 m2 rfl p1)
  have H5 := sa_full (x := x) hz
  have H0 := sa_fine (x := x) hz
  rw [hm] at H5 H0
  have KA := (fun (hx : isNm (pw b m) x = true) W => l09Set_any b m (pw b m) x W b1 b2 m2 rfl p1 (by have := isNm_bd (by omega) p1 hx; omega))
  obtain ⟨es, hes⟩ : ∃ l, aSet b m x = l := ⟨_, rfl⟩
  rw [hes] at H0 KA
  obtain ⟨n, hn⟩ : ∃ n, pw b m = n := ⟨_, rfl⟩
  rw [hn] at KI H5 H0 KA p1 p2
  replace KN := Lib.hid KN
  rcases hx : isNm n x with _ | _
  · rw [hx] at KI
    have HC := Lib.hid (H5 hx)
    replace KI := Lib.hid KI
    clear hz hn hm hes H0 KA H5 hx
    subst hkm
    go_enter Tryd.func41, Tryd.ntmps41
    go_wp2_with fail
    refine Calls.kn ((Kn.nil w).al [.int .i64 0, .slice none 0 0] 35) ?_; intro w1 hK1
    refine (KN.out _).mono ?_; rintro e w2 ⟨rfl, rfl⟩
    obtain ⟨x1, x2, x3⟩ := hK1.blkAt
    go_wp2_with (go_at_call 118; refine (KI.out _).mono ?_; rintro e w3 ⟨rfl, rfl⟩)
    refine bodyPost.kn (((hK1.st 0 (.int .i64 0)).st 1 (.slice none 0 0)).sel [0] 9 (by decide) (by decide)) ?_; intro w9 hK9
    obtain ⟨a1, a2, a3, -⟩ := hK9.cells
    refine bodyPost_ret (v := .tuple #[.agg #[.int .i64 0, .slice none 0 0], .int .i64 5]) (by simp [results, Tryd.results41, go_sem, a1]) rfl ?_
    rw [HC.out.1, HC.out.2.1, HC.out.2.2]
    exact R1Ret.zero hK9.below
  · rw [hx] at KI
    have HC := Lib.hid (H0 hx)
    have KA := Lib.hid (KA hx)
    replace KI := Lib.hid KI
    clear hz hn hm hes H0 H5 hx
    subst hkm
    go_enter Tryd.func41, Tryd.ntmps41
    go_wp2_with fail
    refine Calls.kn ((Kn.nil w).al [.int .i64 0, .slice none 0 0] 35) ?_; intro w1 hK1
    refine (KN.out _).mono ?_; rintro e w2 ⟨rfl, rfl⟩
    go_wp2_with (first | (go_at_call 118; refine (KI.out _).mono ?_; rintro e w3 ⟨rfl, rfl⟩) | (go_at_call 119; refine (KA.out _).mono ?_; rintro e w4 ⟨E, g, rfl, hKn⟩; have hK4 := hK1.join hKn; obtain ⟨x1, x2, x3⟩ := (hK4.front 1 rfl).blkAt))
    refine bodyPost.kn (((hK4.front 1 rfl).st 0 (.int .i64 b)).st 1 (.slice E es.length g)) ?_; intro w9 hK9
    try clear x1 x2 x3
    obtain ⟨a1, a2, a3, -⟩ := hK9.cells
    refine bodyPost_ret (v := .tuple #[.agg #[.int .i64 b, .slice E es.length g], .int .i64 0]) (by simp [results, Tryd.results41, go_sem, a1]) rfl ?_
    rw [HC.out.1, HC.out.2.1, HC.out.2.2]
    exact ⟨E, g, rfl, hK9.sel [1] 99 (by decide) (by decide)⟩
end Go.Proofs.YtcapccadpbiecaaDoor

namespace Go.Proofs.YtcapccadpbiecaaDoor
open Go.RowKit Go.Sort
/-! negating and widening, plainly -/
def ngC (b : Int) (ds : List Int) : Int := if aOk b ds = false then 1 else if isNm (pw b ds.length) (-(aNum b ds)) = false then 5 else 0
def ngV (b : Int) (ds : List Int) : Int := if ngC b ds = 0 then b else 0
def ngD (b : Int) (ds : List Int) : List Int := if ngC b ds = 0 then aSet b ds.length (-(aNum b ds)) else []
theorem ng_not {b C : Int} {ds : List Int} (h : ngC b ds = C) (hc : C ≠ 0) : ngC b ds = C ∧ ngV b ds = 0 ∧ ngD b ds = [] := ⟨h, by unfold ngV; rw [h, if_neg hc], by unfold ngD; rw [h, if_neg hc]⟩
theorem ng_bad {b : Int} {ds : List Int} (h : aOk b ds = false) : ngC b ds = 1 ∧ ngV b ds = 0 ∧ ngD b ds = [] := ng_not (by unfold ngC; rw [if_pos h]) (by decide)
theorem ng_full {b : Int} {ds : List Int} (h : aOk b ds = true) (h2 : isNm (pw b ds.length) (-(aNum b ds)) = false) : ngC b ds = 5 ∧ ngV b ds = 0 ∧ ngD b ds = [] := ng_not (by unfold ngC; rw [if_neg (by rw [h]; decide), if_pos h2]) (by decide)
theorem ng_fine {b : Int} {ds : List Int} (h : aOk b ds = true) (h2 : isNm (pw b ds.length) (-(aNum b ds)) = true) : ngC b ds = 0 ∧ ngV b ds = b ∧ ngD b ds = aSet b ds.length (-(aNum b ds)) := by
  have h1 : ngC b ds = 0 := by unfold ngC; rw [if_neg (by rw [h]; decide), if_neg (by rw [h2]; decide)]
  exact ⟨h1, by unfold ngV; rw [h1, if_pos rfl], by unfold ngD; rw [h1, if_pos rfl]⟩
def wdC (b : Int) (ds : List Int) (k : Int) : Int := if aOk b ds = false then 1 else if betB k ds.length 16 = false then 2 else if decide (pw b k.toNat ≤ 1000000000001) = false then 5 else 0
def wdV (b : Int) (ds : List Int) (k : Int) : Int := if wdC b ds k = 0 then b else 0
def wdD (b : Int) (ds : List Int) (k : Int) : List Int := if wdC b ds k = 0 then aSet b k.toNat (aNum b ds) else []
theorem wd_not {b C k : Int} {ds : List Int} (h : wdC b ds k = C) (hc : C ≠ 0) : wdC b ds k = C ∧ wdV b ds k = 0 ∧ wdD b ds k = [] := ⟨h, by unfold wdV; rw [h, if_neg hc], by unfold wdD; rw [h, if_neg hc]⟩
theorem wd_bad {b k : Int} {ds : List Int} (h : aOk b ds = false) : wdC b ds k = 1 ∧ wdV b ds k = 0 ∧ wdD b ds k = [] := wd_not (by unfold wdC; rw [if_pos h]) (by decide)
theorem wd_range {b k : Int} {ds : List Int} (h : aOk b ds = true) (h2 : betB k ds.length 16 = false) : wdC b ds k = 2 ∧ wdV b ds k = 0 ∧ wdD b ds k = [] := wd_not (by unfold wdC; rw [if_neg (by rw [h]; decide), if_pos h2]) (by decide)
theorem wd_full {b k : Int} {ds : List Int} (h : aOk b ds = true) (h2 : betB k ds.length 16 = true) (h3 : decide (pw b k.toNat ≤ 1000000000001) = false) : wdC b ds k = 5 ∧ wdV b ds k = 0 ∧ wdD b ds k = [] := wd_not (by unfold wdC; rw [if_neg (by rw [h]; decide), if_neg (by rw [h2]; decide), if_pos h3]) (by decide)
theorem wd_fine {b k : Int} {ds : List Int} (h : aOk b ds = true) (h2 : betB k ds.length 16 = true) (h3 : decide (pw b k.toNat ≤ 1000000000001) = true) : wdC b ds k = 0 ∧ wdV b ds k = b ∧ wdD b ds k = aSet b k.toNat (aNum b ds) := by
  have h1 : wdC b ds k = 0 := by unfold wdC; rw [if_neg (by rw [h]; decide), if_neg (by rw [h2]; decide), if_neg (by rw [h3]; decide)]
  exact ⟨h1, by unfold wdV; rw [h1, if_pos rfl], by unfold wdD; rw [h1, if_pos rfl]⟩
/-- the text of an accumulator's number -/
def atB (b : Int) (ds : List Int) : ByteArray := if aOk b ds = false then ⟨#[]⟩ else if aNum b ds < 0 then ⟨(dec (aNum b ds)).toArray⟩ else (⟨#[43]⟩ : ByteArray) ++ (⟨(dec (aNum b ds)).toArray⟩ : ByteArray)
set_option maxRecDepth 100000 in
theorem AccumulatorText_any (b : Int) (A : Option Addr) (c : Nat) (ds : List Int) (w : World) (hr : RI w A ds.length ds) (hm : ds.length ≤ 9223372036854775807) (ht : TB w) :
    Calls Tryd.prog 53 #[.agg #[.int .i64 b, .slice A ds.length c]] w fun e w' => e = .returned (.string (atB b ds)) ∧ Below w.heap.size w w' := by
  have KS := (fun W (hW : Below w.heap.size w W) => size_any b A c ds W (hr.below hW) hm)
  have HT := Lib.hid (show atB b ds = if aOk b ds = false then ⟨#[]⟩ else if aNum b ds < 0 then ⟨(dec (aNum b ds)).toArray⟩ else (⟨#[43]⟩ : ByteArray) ++ (⟨(dec (aNum b ds)).toArray⟩ : ByteArray) from rfl)
  obtain ⟨R, hR⟩ : ∃ R, atB b ds = R := ⟨_, rfl⟩
  rw [hR] at HT ⊢
  clear hR
  rcases ho : aOk b ds with _ | _
  · have hs : aSize b ds = 0 := by unfold aSize; rw [ho]; rfl
    have HQ : Hid (R = ⟨#[]⟩) := by simp only [Hid]; rw [HT.out, if_pos ho]
    rw [hs] at KS
    replace KS := Lib.hid KS
    clear hs hr ho ht HT
    go_enter Tryd.func53, Tryd.ntmps53
    go_wp2_with fail
    refine Calls.kn ((Kn.nil w).al [.int .i64 b, .slice A ds.length c] 35) ?_; intro w1 hK1
    (with_reducible refine (KS.out _ hK1.below).mono ?_); rintro e w2 ⟨rfl, hw⟩
    go_wp2_with fail
    go_ret
    exact ⟨by rw [HQ.out]; rfl, (hK1.keep hw).below⟩
  have hs : aSize b ds = pw b ds.length := by unfold aSize; rw [if_pos ho]
  rw [hs] at KS
  have KN := (fun W (hW : Below w.heap.size w W) => number_any b A c ds W (hr.below hW) ho)
  have hv := valL_in ho
  have hnb := aNum_bd ho
  have KD := (fun W (hW : Below w.heap.size w W) => Decimal_any (aNum b ds) W (by omega) (by omega) (TB.below ht hW))
  have hdl := dec_len (aNum b ds) (by omega) (by omega)
  have HT2 := Lib.hid (show R = if aNum b ds < 0 then ⟨(dec (aNum b ds)).toArray⟩ else (⟨#[43]⟩ : ByteArray) ++ (⟨(dec (aNum b ds)).toArray⟩ : ByteArray) by rw [HT.out, if_neg (by rw [ho]; decide)])
  have hds : (⟨(dec (aNum b ds)).toArray⟩ : ByteArray).size ≤ 24 := by show (dec (aNum b ds)).toArray.size ≤ 24; simp; omega
  obtain ⟨D, hD⟩ : ∃ D, (⟨(dec (aNum b ds)).toArray⟩ : ByteArray) = D := ⟨_, rfl⟩
  obtain ⟨v, hv2⟩ : ∃ v, aNum b ds = v := ⟨_, rfl⟩
  rw [hD] at HT2 KD hds
  rw [hv2] at KN HT2 KD
  obtain ⟨n, hn⟩ : ∃ n, pw b ds.length = n := ⟨_, rfl⟩
  rw [hn] at KS hv
  have nz : (n == 0) = false := by simp; omega
  have hcat : ¬ 9223372036854775807 < 1 + D.size := by omega
  replace KS := Lib.hid KS
  replace KN := Lib.hid KN
  replace KD := Lib.hid KD
  clear hs hr ho hn hD hv2 ht HT hdl hnb
  go_enter Tryd.func53, Tryd.ntmps53
  go_wp2_with fail
  refine Calls.kn ((Kn.nil w).al [.int .i64 b, .slice A ds.length c] 35) ?_; intro w1 hK1
  (with_reducible refine (KS.out _ hK1.below).mono ?_); rintro e w2 ⟨rfl, hw⟩
  have hK2 := hK1.keep hw
  clear hK1 hw
  obtain ⟨a1, a2, a3, -⟩ := hK2.cells
  go_wp2_with fail
  (with_reducible refine (KN.out _ hK2.below).mono ?_); rintro e w3 ⟨rfl, hw⟩
  have hK3 := hK2.keep hw
  clear a1 a2 a3 hw hK2
  obtain ⟨a1, a2, a3, -⟩ := hK3.cells
  by_cases hv0 : v < 0
  · have HQ : Hid (R = D) := by simp only [Hid]; rw [HT2.out, if_pos hv0]
    go_wp2_with fail
    (with_reducible refine (KD.out _ hK3.below).mono ?_); rintro e w4 ⟨rfl, hw⟩
    go_wp2_with fail
    go_ret
    exact ⟨by rw [HQ.out]; rfl, (hK3.keep hw).below⟩
  · have HQ : Hid (R = (⟨#[43]⟩ : ByteArray) ++ D) := by simp only [Hid]; rw [HT2.out, if_neg hv0]
    go_wp2_with fail
    (with_reducible refine (KN.out _ hK3.below).mono ?_); rintro e w4 ⟨rfl, hw⟩
    have hK4 := hK3.keep hw
    go_wp2_with fail
    (with_reducible refine (KD.out _ hK4.below).mono ?_); rintro e w5 ⟨rfl, hw⟩
    go_wp2_with fail
    go_ret
    exact ⟨by rw [HQ.out]; rfl, (hK4.keep hw).below⟩
set_option maxRecDepth 100000 in
theorem specAccumulatorText_any (b : Int) (A : Option Addr) (c : Nat) (ds : List Int) (w : World) (hr : RI w A ds.length ds) (hm : ds.length ≤ 9223372036854775807) :
    Calls Tryd.prog 54 #[.agg #[.int .i64 b, .slice A ds.length c]] w fun e w' => e = .returned (.string (atB b ds)) ∧ Below w.heap.size w w' := by
  have HR := (fun W (hW : Kn w [.blk w.heap.size [.int .i64 b, .slice A ds.length c] 35] W) => show RegB W w.heap.size b A c ds from ⟨box2 hW, hr.below hW.below⟩)
  have KO := (fun W (hW : Kn w [.blk w.heap.size [.int .i64 b, .slice A ds.length c] 35] W) => l09Ok_any w.heap.size b A c ds W (HR W hW) hm)
  have HT := Lib.hid (show atB b ds = if aOk b ds = false then ⟨#[]⟩ else if aNum b ds < 0 then ⟨(dec (aNum b ds)).toArray⟩ else (⟨#[43]⟩ : ByteArray) ++ (⟨(dec (aNum b ds)).toArray⟩ : ByteArray) from rfl)
  obtain ⟨R, hR⟩ : ∃ R, atB b ds = R := ⟨_, rfl⟩
  rw [hR] at HT ⊢
  clear hR
  rcases ho : aOk b ds with _ | _
  · have HQ : Hid (R = ⟨#[]⟩) := by simp only [Hid]; rw [HT.out, if_pos ho]
    rw [ho] at KO
    replace KO := Lib.hid KO
    clear hr ho HT HR
    go_enter Tryd.func54, Tryd.ntmps54
    go_wp2_with fail
    refine Calls.kn ((Kn.nil w).al [.int .i64 b, .slice A ds.length c] 35) ?_; intro w1 hK1
    (refine (KO.out _ hK1).mono ?_); rintro e w2 ⟨rfl, hw⟩
    go_wp2_with fail
    go_ret
    exact ⟨by rw [HQ.out]; rfl, (hK1.keep hw).below⟩
  have KN := (fun W (hW : Kn w [.blk w.heap.size [.int .i64 b, .slice A ds.length c] 35] W) => l09Number_any w.heap.size b A c ds W (HR W hW) ho)
  have hnb := aNum_bd ho
  have KD := (fun W => l01Dec_any (aNum b ds) W (by omega) (by omega))
  have hdl := dec_len (aNum b ds) (by omega) (by omega)
  have HT2 := Lib.hid (show R = if aNum b ds < 0 then ⟨(dec (aNum b ds)).toArray⟩ else (⟨#[43]⟩ : ByteArray) ++ (⟨(dec (aNum b ds)).toArray⟩ : ByteArray) by rw [HT.out, if_neg (by rw [ho]; decide)])
  have hds : (⟨(dec (aNum b ds)).toArray⟩ : ByteArray).size ≤ 24 := by show (dec (aNum b ds)).toArray.size ≤ 24; simp; omega
  obtain ⟨D, hD⟩ : ∃ D, (⟨(dec (aNum b ds)).toArray⟩ : ByteArray) = D := ⟨_, rfl⟩
  obtain ⟨v, hv2⟩ : ∃ v, aNum b ds = v := ⟨_, rfl⟩
  rw [hD] at HT2 KD hds
  rw [hv2] at KN HT2 KD
  have hcat : ¬ 9223372036854775807 < 1 + D.size := by omega
  rw [ho] at KO
  replace KO := Lib.hid KO
  replace KN := Lib.hid KN
  replace KD := Lib.hid KD
  clear hr ho hD hv2 HT hdl hnb HR
  go_enter Tryd.func54, Tryd.ntmps54
  go_wp2_with fail
  refine Calls.kn ((Kn.nil w).al [.int .i64 b, .slice A ds.length c] 35) ?_; intro w1 hK1
  (refine (KO.out _ hK1).mono ?_); rintro e w2 ⟨rfl, hw⟩
  have hK2 := hK1.keep hw
  clear hK1 hw
  go_wp2_with fail
  (refine (KN.out _ hK2).mono ?_); rintro e w3 ⟨rfl, hw⟩
  have hK3 := hK2.keep hw
  by_cases hv0 : v < 0
  · have HQ : Hid (R = D) := by simp only [Hid]; rw [HT2.out, if_pos hv0]
    go_wp2_with fail
    (refine (KD.out _).mono ?_); rintro e w4 ⟨rfl, hw⟩
    go_wp2_with fail
    go_ret
    exact ⟨by rw [HQ.out]; rfl, (hK3.keep hw).below⟩
  · have HQ : Hid (R = (⟨#[43]⟩ : ByteArray) ++ D) := by simp only [Hid]; rw [HT2.out, if_neg hv0]
    go_wp2_with fail
    (refine (KD.out _).mono ?_); rintro e w4 ⟨rfl, hw⟩
    go_wp2_with fail
    go_ret
    exact ⟨by rw [HQ.out]; rfl, (hK3.keep hw).below⟩
end Go.Proofs.YtcapccadpbiecaaDoor

namespace Go.Proofs.YtcapccadpbiecaaDoor
open Go.RowKit Go.Sort
set_option maxRecDepth 100000 in
set_option maxHeartbeats 1600000 in
theorem NegateAccumulator_any (b : Int) (A : Option Addr) (c : Nat) (ds : List Int) (w : World) (hr : RI w A ds.length ds) (hm : ds.length ≤ 9223372036854775807) :
    Calls Tryd.prog 46 #[.agg #[.int .i64 b, .slice A ds.length c]] w (R1Ret (ngV b ds) (ngD b ds) (ngC b ds) w) := by
  have KS := (fun W (hW : Below w.heap.size w W) => size_any b A c ds W (hr.below hW) hm)
  rcases ho : aOk b ds with _ | _
  · have hs : aSize b ds = 0 := by unfold aSize; rw [ho]; rfl
    have HC := Lib.hid (ng_bad ho)
    rw [hs] at KS
    replace KS := Lib.hid KS
    clear hs hr ho
    go_enter Tryd.func46, Tryd.ntmps46
    go_wp2_with fail
    refine Calls.kn (((Kn.nil w).al [.int .i64 b, .slice A ds.length c] 35).al [.int .i64 0, .slice none 0 0] 35) ?_; intro w1 hK1
    simp only [World.size_alloc] at hK1
    (with_reducible refine (KS.out _ hK1.below).mono ?_); rintro e w2 ⟨rfl, hw⟩
    have hK2 := hK1.keep hw
    obtain ⟨x1, x2, x3⟩ := hK2.blkAt
    go_wp2_with fail
    refine bodyPost.kn (((hK2.st 0 (.int .i64 0)).st 1 (.slice none 0 0)).sel [0] 9 (by decide) (by decide)) ?_; intro w9 hK9
    obtain ⟨a1, a2, a3, -⟩ := hK9.cells
    refine bodyPost_ret (v := .tuple #[.agg #[.int .i64 0, .slice none 0 0], .int .i64 1]) (by simp [results, Tryd.results46, go_sem, a1]) rfl ?_
    rw [HC.out.1, HC.out.2.1, HC.out.2.2]
    exact R1Ret.zero hK9.below
  obtain ⟨h1, h2⟩ := aOk_iff.1 ho
  obtain ⟨⟨b1, b2⟩, ⟨n1, n2⟩, hd, -⟩ := vreg_iff.1 h1
  have hs : aSize b ds = pw b ds.length := by unfold aSize; rw [if_pos ho]
  rw [hs] at KS
  have hv := valL_in ho
  have hnb := aNum_bd ho
  have KN := (fun W (hW : Below w.heap.size w W) => number_any b A c ds W (hr.below hW) ho)
  have KA := (fun W => accumulator_any b ds.length (pw b ds.length) (-(aNum b ds)) W b1 b2 n2 rfl hv.2.2.2 (by omega))
  have KI := (fun W => isNumber_any (pw b ds.length) (-(aNum b ds)) W (by omega) hv.2.2.2)
  have KW := Lib.hid (fun W => width_any b A ds.length c W)
  have H5 := ng_full ho
  have H0 := ng_fine ho
  obtain ⟨n, hn⟩ : ∃ n, pw b ds.length = n := ⟨_, rfl⟩
  obtain ⟨u, hu⟩ : ∃ u, aNum b ds = u := ⟨_, rfl⟩
  rw [hn] at KS KA KI hv H5 H0
  rw [hu] at KN KA KI hnb H5 H0
  obtain ⟨es, hes⟩ : ∃ l, aSet b ds.length (-u) = l := ⟨_, rfl⟩
  rw [hes] at KA H0
  have nz : (n == 0) = false := by simp; omega
  have wu : IntKind.i64.wrap (-u) = -u := wrapI64 (by omega)
  replace KS := Lib.hid KS
  replace KN := Lib.hid KN
  replace KA := Lib.hid KA
  rcases hx : isNm n (-u) with _ | _
  all_goals
    rw [hx] at KI
    replace KI := Lib.hid KI
  · have HC := Lib.hid (H5 hx)
    clear hr ho h1 h2 hd hn hu hs n1 n2 b1 b2 hes H0 H5 hx
    go_enter Tryd.func46, Tryd.ntmps46
    go_wp2_with fail
    refine Calls.kn (((Kn.nil w).al [.int .i64 b, .slice A ds.length c] 35).al [.int .i64 0, .slice none 0 0] 35) ?_; intro w1 hK1
    simp only [World.size_alloc] at hK1
    (with_reducible refine (KS.out _ hK1.below).mono ?_); rintro e w2 ⟨rfl, hw⟩
    have hK2 := hK1.keep hw
    clear hK1 hw
    obtain ⟨x1, x2, x3, y1, y2, y3, -⟩ := hK2.cells
    go_wp2_with fail
    (with_reducible refine (KN.out _ hK2.below).mono ?_); rintro e w3 ⟨rfl, hw⟩
    have hK3 := hK2.keep hw
    clear hK2 hw x1 x2 x3 y1 y2 y3
    obtain ⟨x1, x2, x3, y1, y2, y3, -⟩ := hK3.cells
    go_wp2_with (go_at_call 116; refine (KI.out _).mono ?_; rintro e w4 ⟨rfl, rfl⟩)
    refine bodyPost.kn (((hK3.st 0 (.int .i64 0)).st 1 (.slice none 0 0)).sel [0] 9 (by decide) (by decide)) ?_; intro w9 hK9
    obtain ⟨a1, a2, a3, -⟩ := hK9.cells
    refine bodyPost_ret (v := .tuple #[.agg #[.int .i64 0, .slice none 0 0], .int .i64 5]) (by simp [results, Tryd.results46, go_sem, a1]) rfl ?_
    rw [HC.out.1, HC.out.2.1, HC.out.2.2]
    exact R1Ret.zero hK9.below
  · have HC := Lib.hid (H0 hx)
    clear hr ho h1 h2 hd hn hu hs n1 n2 b1 b2 hes H0 H5 hx
    go_enter Tryd.func46, Tryd.ntmps46
    go_wp2_with fail
    refine Calls.kn (((Kn.nil w).al [.int .i64 b, .slice A ds.length c] 35).al [.int .i64 0, .slice none 0 0] 35) ?_; intro w1 hK1
    simp only [World.size_alloc] at hK1
    (with_reducible refine (KS.out _ hK1.below).mono ?_); rintro e w2 ⟨rfl, hw⟩
    have hK2 := hK1.keep hw
    clear hK1 hw
    obtain ⟨x1, x2, x3, y1, y2, y3, -⟩ := hK2.cells
    go_wp2_with fail
    (with_reducible refine (KN.out _ hK2.below).mono ?_); rintro e w3 ⟨rfl, hw⟩
    have hK5 := hK2.keep hw
    clear hK2 hw x1 x2 x3 y1 y2 y3
    obtain ⟨a1, a2, a3, d1, d2, d3, -⟩ := hK5.cells
    go_wp2_with (go_at_call 116; refine (KI.out _).mono ?_; rintro e w4 ⟨rfl, rfl⟩)
    have HG := Lib.hid (box2 hK5.drew.drop)
    have HT := HG
    go_region_held3 (fun W => W.cell? ⟨w.heap.size, 0, none⟩ = some (.int .i64 b) ∧ W.cell? ⟨w.heap.size, 1, none⟩ = some (.slice A ds.length c)) (first | with_reducible exact HG.out | with_reducible exact HT.out | exact HG.out | exact HT.out) (first
      | (go_at_call 123; (with_reducible refine (KW.out _).mono ?_); rintro e w6 ⟨rfl, hw⟩; have hK6a := hK5.drew.keep hw; clear HG; have HG := Lib.hid (box2 hK6a.drop))
      | (go_at_call 122; (with_reducible refine (KN.out _ hK6a.below).mono ?_); rintro e w6 ⟨rfl, hw⟩; have hK6 := hK6a.keep hw; clear HG; have HG := Lib.hid (box2 hK6.drop))
      | (go_at_call 117; (with_reducible refine (KA.out _).mono ?_); rintro e w7 ⟨E, g, rfl, hKn⟩; have hK7 := hK6.join hKn; clear HG; have HG := Lib.hid (box2 hK7.drop.drop); obtain ⟨x1, x2, x3⟩ := (hK7.front 1 rfl).blkAt; have hK8 := ((hK7.front 1 rfl).st 0 (.int .i64 b)).st 1 (.slice E es.length g); clear HT; have HT := Lib.hid (box2 (hK8.drop.drop))))
    all_goals
      go_wp2_with fail
      refine bodyPost.kn hK8 ?_; intro w9 hK9
      try clear a1 a2 a3
      try clear x1 x2 x3
      obtain ⟨a1, a2, a3, -⟩ := hK9.cells
      refine bodyPost_ret (v := .tuple #[.agg #[.int .i64 b, .slice E es.length g], .int .i64 0]) (by simp [results, Tryd.results46, go_sem, a1]) rfl ?_
      rw [HC.out.1, HC.out.2.1, HC.out.2.2]
      exact ⟨E, g, rfl, hK9.sel [1] 99 (by decide) (by decide)⟩
set_option maxRecDepth 100000 in
set_option maxHeartbeats 1600000 in
theorem specNegateAccumulator_any (b : Int) (A : Option Addr) (c : Nat) (ds : List Int) (w : World) (hr : RI w A ds.length ds) (hm : ds.length ≤ 9223372036854775807) :
    Calls Tryd.prog 47 #[.agg #[.int .i64 b, .slice A ds.length c]] w (R1Ret (ngV b ds) (ngD b ds) (ngC b ds) w) := by
  have HR := (fun W (hW : Kn w [.blk (w.heap.size + 1) [.int .i64 0, .slice none 0 0] 35, .blk w.heap.size [.int .i64 b, .slice A ds.length c] 35] W) => show RegB W w.heap.size b A c ds from ⟨box2 hW.drop, hr.below hW.below⟩)
  have KO := (fun W (hW : Kn w [.blk (w.heap.size + 1) [.int .i64 0, .slice none 0 0] 35, .blk w.heap.size [.int .i64 b, .slice A ds.length c] 35] W) => l09Ok_any w.heap.size b A c ds W (HR W hW) hm)
  rcases ho : aOk b ds with _ | _
  · have HC := Lib.hid (ng_bad ho)
    rw [ho] at KO
    replace KO := Lib.hid KO
    clear hr ho HR
    go_enter Tryd.func47, Tryd.ntmps47
    go_wp2_with fail
    refine Calls.kn (((Kn.nil w).al [.int .i64 b, .slice A ds.length c] 35).al [.int .i64 0, .slice none 0 0] 35) ?_; intro w1 hK1
    simp only [World.size_alloc] at hK1
    (refine (KO.out _ hK1).mono ?_); rintro e w2 ⟨rfl, hw⟩
    have hK2 := hK1.keep hw
    obtain ⟨x1, x2, x3⟩ := hK2.blkAt
    go_wp2_with fail
    refine bodyPost.kn (((hK2.st 0 (.int .i64 0)).st 1 (.slice none 0 0)).sel [0] 9 (by decide) (by decide)) ?_; intro w9 hK9
    obtain ⟨a1, a2, a3, -⟩ := hK9.cells
    refine bodyPost_ret (v := .tuple #[.agg #[.int .i64 0, .slice none 0 0], .int .i64 1]) (by simp [results, Tryd.results47, go_sem, a1]) rfl ?_
    rw [HC.out.1, HC.out.2.1, HC.out.2.2]
    exact R1Ret.zero hK9.below
  obtain ⟨h1, h2⟩ := aOk_iff.1 ho
  obtain ⟨⟨b1, b2⟩, ⟨n1, n2⟩, hd, -⟩ := vreg_iff.1 h1
  have hnb := aNum_bd ho
  have KN := (fun W (hW : Kn w [.blk (w.heap.size + 1) [.int .i64 0, .slice none 0 0] 35, .blk w.heap.size [.int .i64 b, .slice A ds.length c] 35] W) => l09Number_any w.heap.size b A c ds W (HR W hW) ho)
  have hz : zOk b (ds.length : Int) = true := by
    unfold zOk
    rw [Bool.and_eq_true, Bool.and_eq_true, decide_eq_true_eq, Int.toNat_natCast]
    exact ⟨betB_iff.2 ⟨b1, b2⟩, betB_iff.2 (by omega), h2⟩
  have HE : saC b ds.length (-(aNum b ds)) = ngC b ds ∧ saV b ds.length (-(aNum b ds)) = ngV b ds ∧ saD b ds.length (-(aNum b ds)) = ngD b ds := by
    rcases hx : isNm (pw b ds.length) (-(aNum b ds)) with _ | _
    · obtain ⟨e1, e2, e3⟩ := ng_full ho hx
      obtain ⟨f1, f2, f3⟩ := sa_full (x := -(aNum b ds)) hz (by rw [Int.toNat_natCast]; exact hx)
      rw [e1, e2, e3, f1, f2, f3]; exact ⟨rfl, rfl, rfl⟩
    · obtain ⟨e1, e2, e3⟩ := ng_fine ho hx
      obtain ⟨f1, f2, f3⟩ := sa_fine (x := -(aNum b ds)) hz (by rw [Int.toNat_natCast]; exact hx)
      rw [e1, e2, e3, f1, f2, f3, Int.toNat_natCast]; exact ⟨rfl, rfl, rfl⟩
  have KA := (fun W => specSetAccumulator_any b ds.length (-(aNum b ds)) W)
  rw [HE.1, HE.2.1, HE.2.2] at KA
  unfold R1Ret at KA ⊢
  obtain ⟨u, hu⟩ : ∃ u, aNum b ds = u := ⟨_, rfl⟩
  rw [hu] at KN KA hnb
  obtain ⟨vb, hvb⟩ : ∃ l, ngV b ds = l := ⟨_, rfl⟩
  obtain ⟨es, hes⟩ : ∃ l, ngD b ds = l := ⟨_, rfl⟩
  obtain ⟨C, hC⟩ : ∃ l, ngC b ds = l := ⟨_, rfl⟩
  rw [hvb, hes, hC] at KA ⊢
  have wu : IntKind.i64.wrap (-u) = -u := wrapI64 (by omega)
  rw [ho] at KO
  replace KO := Lib.hid KO
  replace KN := Lib.hid KN
  replace KA := Lib.hid KA
  clear hr ho h1 h2 hd hu n1 n2 b1 b2 hes hvb hC HE hz HR
  go_enter Tryd.func47, Tryd.ntmps47
  go_wp2_with fail
  refine Calls.kn (((Kn.nil w).al [.int .i64 b, .slice A ds.length c] 35).al [.int .i64 0, .slice none 0 0] 35) ?_; intro w1 hK1
  simp only [World.size_alloc] at hK1
  (refine (KO.out _ hK1).mono ?_); rintro e w2 ⟨rfl, hw⟩
  have hK5 := hK1.keep hw
  clear hK1 hw
  obtain ⟨a1, a2, a3, d1, d2, d3, -⟩ := hK5.cells
  go_wp2_with fail
  have HG := Lib.hid (box2 hK5.drew.drop)
  have HT := HG
  go_region_held3 (fun W => W.cell? ⟨w.heap.size, 0, none⟩ = some (.int .i64 b) ∧ W.cell? ⟨w.heap.size, 1, none⟩ = some (.slice A ds.length c)) (first | with_reducible exact HG.out | with_reducible exact HT.out | exact HG.out | exact HT.out) (first
    | (go_at_call 125; (refine (KN.out _ hK5.drew).mono ?_); rintro e w6 ⟨rfl, hw⟩; have hK6 := hK5.drew.keep hw; clear HG; have HG := Lib.hid (box2 hK6.drop))
    | (go_at_call 41; (with_reducible refine (KA.out _).mono ?_); rintro e w7 ⟨E, g, rfl, hKn⟩; have hK7 := hK6.join hKn; clear HG; have HG := Lib.hid (box2 hK7.drop.drop); obtain ⟨x1, x2, x3⟩ := (hK7.front 1 rfl).blkAt; have hK8 := ((hK7.front 1 rfl).st 0 (.int .i64 vb)).st 1 (.slice E es.length g); clear HT; have HT := Lib.hid (box2 (hK8.drop.drop))))
  all_goals
    go_wp2_with fail
    refine bodyPost.kn hK8 ?_; intro w9 hK9
    clear a1 a2 a3 x1 x2 x3
    obtain ⟨a1, a2, a3, -⟩ := hK9.cells
    exact bodyPost_ret (v := .tuple #[.agg #[.int .i64 vb, .slice E es.length g], .int .i64 C]) (by simp [results, Tryd.results47, go_sem, a1]) rfl ⟨E, g, rfl, hK9.sel [1] 99 (by decide) (by decide)⟩
set_option maxRecDepth 100000 in
set_option maxHeartbeats 1600000 in
theorem WidenAccumulator_any (b : Int) (A : Option Addr) (c : Nat) (ds : List Int) (k : Int) (w : World) (hr : RI w A ds.length ds) (hm : ds.length ≤ 9223372036854775807) :
    Calls Tryd.prog 49 #[.agg #[.int .i64 b, .slice A ds.length c], .int .i64 k] w (R1Ret (wdV b ds k) (wdD b ds k) (wdC b ds k) w) := by
  have KS := (fun W (hW : Below w.heap.size w W) => size_any b A c ds W (hr.below hW) hm)
  have KB := (fun W => between_B k (ds.length : Int) 16 W)
  have KW := Lib.hid (fun W => width_any b A ds.length c W)
  rcases ho : aOk b ds with _ | _
  · have HC := Lib.hid (wd_bad (k := k) ho)
    have hs : aSize b ds = 0 := by unfold aSize; rw [ho]; rfl
    rw [hs] at KS
    replace KS := Lib.hid KS
    clear hr ho KB hs KW
    go_enter Tryd.func49, Tryd.ntmps49
    go_wp2_with fail
    refine Calls.kn (((Kn.nil w).al [.int .i64 b, .slice A ds.length c] 35).al [.int .i64 0, .slice none 0 0] 35) ?_; intro w1 hK1
    simp only [World.size_alloc] at hK1
    (with_reducible refine (KS.out _ hK1.below).mono ?_); rintro e w2 ⟨rfl, hw⟩
    have hK2 := hK1.keep hw
    obtain ⟨x1, x2, x3⟩ := hK2.blkAt
    go_wp2_with fail
    refine bodyPost.kn (((hK2.st 0 (.int .i64 0)).st 1 (.slice none 0 0)).sel [0] 9 (by decide) (by decide)) ?_; intro w9 hK9
    obtain ⟨a1, a2, a3, -⟩ := hK9.cells
    refine bodyPost_ret (v := .tuple #[.agg #[.int .i64 0, .slice none 0 0], .int .i64 1]) (by simp [results, Tryd.results49, go_sem, a1]) rfl ?_
    rw [HC.out.1, HC.out.2.1, HC.out.2.2]
    exact R1Ret.zero hK9.below
  obtain ⟨h1, h2⟩ := aOk_iff.1 ho
  obtain ⟨⟨b1, b2⟩, ⟨n1, n2⟩, hd, -⟩ := vreg_iff.1 h1
  have hs : aSize b ds = pw b ds.length := by unfold aSize; rw [if_pos ho]
  rw [hs] at KS
  have hv := valL_in ho
  have nz : (pw b ds.length == 0) = false := by simp; omega
  have hnb := aNum_bd ho
  replace KS := Lib.hid KS
  rcases hk : betB k ds.length 16 with _ | _
  · rw [hk] at KB
    have HC := Lib.hid (wd_range ho hk)
    replace KB := Lib.hid KB
    clear hr ho h1 h2 hd n1 n2 b1 b2 hk hnb hs hv
    go_enter Tryd.func49, Tryd.ntmps49
    go_wp2_with fail
    refine Calls.kn (((Kn.nil w).al [.int .i64 b, .slice A ds.length c] 35).al [.int .i64 0, .slice none 0 0] 35) ?_; intro w1 hK1
    simp only [World.size_alloc] at hK1
    (with_reducible refine (KS.out _ hK1.below).mono ?_); rintro e w2 ⟨rfl, hw⟩
    have hK2 := hK1.keep hw
    clear hK1 hw
    obtain ⟨x1, x2, x3, y1, y2, y3, -⟩ := hK2.cells
    go_wp2_with (first
      | (go_at_call 123; (with_reducible refine (KW.out _).mono ?_); rintro e w3 ⟨rfl, hw⟩; have hK3a := hK2.keep hw; clear hw x1 x2 x3 y1 y2 y3; obtain ⟨x1, x2, x3, y1, y2, y3, -⟩ := hK3a.cells)
      | (go_at_call 127; (with_reducible refine (KB.out _).mono ?_); rintro e w3 ⟨rfl, hw⟩; have hK3 := hK3a.keep hw; clear hw x1 x2 x3 y1 y2 y3; obtain ⟨x1, x2, x3, y1, y2, y3, -⟩ := hK3.cells))
    refine bodyPost.kn (((hK3.st 0 (.int .i64 0)).st 1 (.slice none 0 0)).sel [0] 9 (by decide) (by decide)) ?_; intro w9 hK9
    obtain ⟨a1, a2, a3, -⟩ := hK9.cells
    refine bodyPost_ret (v := .tuple #[.agg #[.int .i64 0, .slice none 0 0], .int .i64 2]) (by simp [results, Tryd.results49, go_sem, a1]) rfl ?_
    rw [HC.out.1, HC.out.2.1, HC.out.2.2]
    exact R1Ret.zero hK9.below
  rw [hk] at KB
  have hk' := betB_iff.1 hk
  have H5 := wd_full ho hk
  have H0 := wd_fine ho hk
  obtain ⟨m, rfl⟩ : ∃ m : Nat, k = m := ⟨k.toNat, by omega⟩
  rw [Int.toNat_natCast] at H5 H0
  replace KB := Lib.hid KB
  have KP := (fun W => numbersOf_any b m W b1 b2 (by omega) (by omega))
  rcases hp : decide (pw b m ≤ 1000000000001) with _ | _
  · have hp' : ¬ pw b m ≤ 1000000000001 := by simpa using hp
    have HC := Lib.hid (H5 hp)
    rw [show powC b m = 0 by unfold powC; rw [if_neg hp']] at KP
    replace KP := Lib.hid KP
    clear hr ho h1 h2 hd n1 n2 b1 b2 hk hnb H0 H5 hp hp' hs hv
    go_enter Tryd.func49, Tryd.ntmps49
    go_wp2_with fail
    refine Calls.kn (((Kn.nil w).al [.int .i64 b, .slice A ds.length c] 35).al [.int .i64 0, .slice none 0 0] 35) ?_; intro w1 hK1
    simp only [World.size_alloc] at hK1
    (with_reducible refine (KS.out _ hK1.below).mono ?_); rintro e w2 ⟨rfl, hw⟩
    have hK2 := hK1.keep hw
    clear hK1 hw
    obtain ⟨x1, x2, x3, y1, y2, y3, -⟩ := hK2.cells
    go_wp2_with (first
      | (go_at_call 123; (with_reducible refine (KW.out _).mono ?_); rintro e w3 ⟨rfl, hw⟩; have hK3a := hK2.keep hw; clear hw x1 x2 x3 y1 y2 y3; obtain ⟨x1, x2, x3, y1, y2, y3, -⟩ := hK3a.cells)
      | (go_at_call 127; (with_reducible refine (KB.out _).mono ?_); rintro e w3 ⟨rfl, hw⟩; have hK3 := hK3a.keep hw; clear hw x1 x2 x3 y1 y2 y3; obtain ⟨x1, x2, x3, y1, y2, y3, -⟩ := hK3.cells)
      | (go_at_call 115; (with_reducible refine (KP.out _).mono ?_); rintro e w4 ⟨rfl, rfl⟩))
    refine bodyPost.kn (((hK3.st 0 (.int .i64 0)).st 1 (.slice none 0 0)).sel [0] 9 (by decide) (by decide)) ?_; intro w9 hK9
    obtain ⟨a1, a2, a3, -⟩ := hK9.cells
    refine bodyPost_ret (v := .tuple #[.agg #[.int .i64 0, .slice none 0 0], .int .i64 5]) (by simp [results, Tryd.results49, go_sem, a1]) rfl ?_
    rw [HC.out.1, HC.out.2.1, HC.out.2.2]
    exact R1Ret.zero hK9.below
  have hp' : pw b m ≤ 1000000000001 := by simpa using hp
  have HC := (H0 hp)
  rw [show powC b m = pw b m by unfold powC; rw [if_pos hp']] at KP
  have KN := (fun W (hW : Below w.heap.size w W) => number_any b A c ds W (hr.below hW) ho)
  have KA := (fun W => accumulator_any b m (pw b m) (aNum b ds) W b1 b2 (by omega) rfl hp' (by omega))
  have hpm := pw_pos b b1 m
  obtain ⟨u, hu⟩ : ∃ u, aNum b ds = u := ⟨_, rfl⟩
  rw [hu] at KN KA HC
  obtain ⟨es, hes⟩ : ∃ l, aSet b m u = l := ⟨_, rfl⟩
  rw [hes] at KA HC
  replace HC := Lib.hid HC
  obtain ⟨n, hn⟩ : ∃ n, pw b m = n := ⟨_, rfl⟩
  rw [hn] at KP KA hpm
  have nz2 : (n == 0) = false := by simp; omega
  replace KP := Lib.hid KP
  replace KN := Lib.hid KN
  replace KA := Lib.hid KA
  clear hr ho h1 h2 hd hu n1 n2 b1 b2 hk hes H0 H5 hp hp' hs hn
  go_enter Tryd.func49, Tryd.ntmps49
  go_wp2_with fail
  refine Calls.kn (((Kn.nil w).al [.int .i64 b, .slice A ds.length c] 35).al [.int .i64 0, .slice none 0 0] 35) ?_; intro w1 hK1
  simp only [World.size_alloc] at hK1
  (with_reducible refine (KS.out _ hK1.below).mono ?_); rintro e w2 ⟨rfl, hw⟩
  have hK2 := hK1.keep hw
  clear hK1 hw
  obtain ⟨x1, x2, x3, y1, y2, y3, -⟩ := hK2.cells
  go_wp2_with (first
    | (go_at_call 123; (with_reducible refine (KW.out _).mono ?_); rintro e w3 ⟨rfl, hw⟩; have hK3a := hK2.keep hw; clear hw x1 x2 x3 y1 y2 y3; obtain ⟨x1, x2, x3, y1, y2, y3, -⟩ := hK3a.cells)
    | (go_at_call 127; (with_reducible refine (KB.out _).mono ?_); rintro e w3 ⟨rfl, hw⟩; have hK3 := hK3a.keep hw; clear hw x1 x2 x3 y1 y2 y3; obtain ⟨x1, x2, x3, y1, y2, y3, -⟩ := hK3.cells)
    | (go_at_call 115; (with_reducible refine (KP.out _).mono ?_); rintro e w4 ⟨rfl, rfl⟩))
  have hK5 := hK3
  obtain ⟨a1, a2, a3, d1, d2, d3, -⟩ := hK5.cells
  have HG := Lib.hid (box2 hK5.drew.drop)
  have HT := HG
  go_region_held3 (fun W => W.cell? ⟨w.heap.size, 0, none⟩ = some (.int .i64 b) ∧ W.cell? ⟨w.heap.size, 1, none⟩ = some (.slice A ds.length c)) (first | with_reducible exact HG.out | with_reducible exact HT.out | exact HG.out | exact HT.out) (first
    | (go_at_call 122; (with_reducible refine (KN.out _ hK5.drew.below).mono ?_); rintro e w6 ⟨rfl, hw⟩; have hK6 := hK5.drew.keep hw; clear HG; have HG := Lib.hid (box2 hK6.drop))
    | (go_at_call 117; (with_reducible refine (KA.out _).mono ?_); rintro e w7 ⟨E, g, rfl, hKn⟩; have hK7 := hK6.join hKn; clear HG; have HG := Lib.hid (box2 hK7.drop.drop); obtain ⟨x1, x2, x3⟩ := (hK7.front 1 rfl).blkAt; have hK8 := ((hK7.front 1 rfl).st 0 (.int .i64 b)).st 1 (.slice E es.length g); clear HT; have HT := Lib.hid (box2 (hK8.drop.drop))))
  all_goals
    go_wp2_with fail
    refine bodyPost.kn hK8 ?_; intro w9 hK9
    try clear a1 a2 a3
    try clear x1 x2 x3
    obtain ⟨a1, a2, a3, -⟩ := hK9.cells
    refine bodyPost_ret (v := .tuple #[.agg #[.int .i64 b, .slice E es.length g], .int .i64 0]) (by simp [results, Tryd.results49, go_sem, a1]) rfl ?_
    rw [HC.out.1, HC.out.2.1, HC.out.2.2]
    exact ⟨E, g, rfl, hK9.sel [1] 99 (by decide) (by decide)⟩
set_option maxRecDepth 100000 in
set_option maxHeartbeats 1600000 in
theorem specWidenAccumulator_any (b : Int) (A : Option Addr) (c : Nat) (ds : List Int) (k : Int) (w : World) (hr : RI w A ds.length ds) (hm : ds.length ≤ 9223372036854775807) :
    Calls Tryd.prog 50 #[.agg #[.int .i64 b, .slice A ds.length c], .int .i64 k] w (R1Ret (wdV b ds k) (wdD b ds k) (wdC b ds k) w) := by
  have HR := (fun W (hW : Kn w [.blk (w.heap.size + 1) [.int .i64 0, .slice none 0 0] 35, .blk w.heap.size [.int .i64 b, .slice A ds.length c] 35] W) => show RegB W w.heap.size b A c ds from ⟨box2 hW.drop, hr.below hW.below⟩)
  have KS := (fun W (hW : Kn w [.blk (w.heap.size + 1) [.int .i64 0, .slice none 0 0] 35, .blk w.heap.size [.int .i64 b, .slice A ds.length c] 35] W) => l09Ok_any w.heap.size b A c ds W (HR W hW) hm)
  have KB := (fun W => l00In_any k (ds.length : Int) 16 W)
  rcases ho : aOk b ds with _ | _
  · have HC := Lib.hid (wd_bad (k := k) ho)
    rw [ho] at KS
    replace KS := Lib.hid KS
    clear hr ho KB HR
    go_enter Tryd.func50, Tryd.ntmps50
    go_wp2_with fail
    refine Calls.kn (((Kn.nil w).al [.int .i64 b, .slice A ds.length c] 35).al [.int .i64 0, .slice none 0 0] 35) ?_; intro w1 hK1
    simp only [World.size_alloc] at hK1
    (refine (KS.out _ hK1).mono ?_); rintro e w2 ⟨rfl, hw⟩
    have hK2 := hK1.keep hw
    obtain ⟨x1, x2, x3⟩ := hK2.blkAt
    go_wp2_with fail
    refine bodyPost.kn (((hK2.st 0 (.int .i64 0)).st 1 (.slice none 0 0)).sel [0] 9 (by decide) (by decide)) ?_; intro w9 hK9
    obtain ⟨a1, a2, a3, -⟩ := hK9.cells
    refine bodyPost_ret (v := .tuple #[.agg #[.int .i64 0, .slice none 0 0], .int .i64 1]) (by simp [results, Tryd.results50, go_sem, a1]) rfl ?_
    rw [HC.out.1, HC.out.2.1, HC.out.2.2]
    exact R1Ret.zero hK9.below
  obtain ⟨h1, h2⟩ := aOk_iff.1 ho
  obtain ⟨⟨b1, b2⟩, ⟨n1, n2⟩, hd, -⟩ := vreg_iff.1 h1
  rw [ho] at KS
  have hnb := aNum_bd ho
  replace KS := Lib.hid KS
  rcases hk : betB k ds.length 16 with _ | _
  · rw [hk] at KB
    have HC := Lib.hid (wd_range ho hk)
    replace KB := Lib.hid KB
    clear hr ho h1 h2 hd n1 n2 b1 b2 hk hnb HR
    go_enter Tryd.func50, Tryd.ntmps50
    go_wp2_with fail
    refine Calls.kn (((Kn.nil w).al [.int .i64 b, .slice A ds.length c] 35).al [.int .i64 0, .slice none 0 0] 35) ?_; intro w1 hK1
    simp only [World.size_alloc] at hK1
    (refine (KS.out _ hK1).mono ?_); rintro e w2 ⟨rfl, hw⟩
    have hK2 := hK1.keep hw
    clear hK1 hw
    obtain ⟨x1, x2, x3, y1, y2, y3, -⟩ := hK2.cells
    go_wp2_with (first
      | (go_at_call 128; refine (KB.out _).mono ?_; rintro e w3 ⟨rfl, rfl⟩; have hK3 := hK2))
    refine bodyPost.kn (((hK3.st 0 (.int .i64 0)).st 1 (.slice none 0 0)).sel [0] 9 (by decide) (by decide)) ?_; intro w9 hK9
    obtain ⟨a1, a2, a3, -⟩ := hK9.cells
    refine bodyPost_ret (v := .tuple #[.agg #[.int .i64 0, .slice none 0 0], .int .i64 2]) (by simp [results, Tryd.results50, go_sem, a1]) rfl ?_
    rw [HC.out.1, HC.out.2.1, HC.out.2.2]
    exact R1Ret.zero hK9.below
  rw [hk] at KB
  have hk' := betB_iff.1 hk
  have H5 := wd_full ho hk
  have H0 := wd_fine ho hk
  obtain ⟨m, rfl⟩ : ∃ m : Nat, k = m := ⟨k.toNat, by omega⟩
  rw [Int.toNat_natCast] at H5 H0
  replace KB := Lib.hid KB
  have KP := (fun W => l10Full_any b m W b1 b2 (by omega))
  rcases hp : decide (pw b m ≤ 1000000000001) with _ | _
  · have hp' : ¬ pw b m ≤ 1000000000001 := by simpa using hp
    have HC := Lib.hid (H5 hp)
    rw [hp] at KP
    replace KP := Lib.hid KP
    clear hr ho h1 h2 hd n1 n2 b1 b2 hk hnb H0 H5 hp hp' HR
    go_enter Tryd.func50, Tryd.ntmps50
    go_wp2_with fail
    refine Calls.kn (((Kn.nil w).al [.int .i64 b, .slice A ds.length c] 35).al [.int .i64 0, .slice none 0 0] 35) ?_; intro w1 hK1
    simp only [World.size_alloc] at hK1
    (refine (KS.out _ hK1).mono ?_); rintro e w2 ⟨rfl, hw⟩
    have hK2 := hK1.keep hw
    clear hK1 hw
    obtain ⟨x1, x2, x3, y1, y2, y3, -⟩ := hK2.cells
    go_wp2_with (first
      | (go_at_call 128; refine (KB.out _).mono ?_; rintro e w3 ⟨rfl, rfl⟩; have hK3 := hK2)
      | (go_at_call 129; refine (KP.out _).mono ?_; rintro e w4 ⟨rfl, rfl⟩))
    refine bodyPost.kn (((hK3.st 0 (.int .i64 0)).st 1 (.slice none 0 0)).sel [0] 9 (by decide) (by decide)) ?_; intro w9 hK9
    obtain ⟨a1, a2, a3, -⟩ := hK9.cells
    refine bodyPost_ret (v := .tuple #[.agg #[.int .i64 0, .slice none 0 0], .int .i64 5]) (by simp [results, Tryd.results50, go_sem, a1]) rfl ?_
    rw [HC.out.1, HC.out.2.1, HC.out.2.2]
    exact R1Ret.zero hK9.below
  have hp' : pw b m ≤ 1000000000001 := by simpa using hp
  have HC := (H0 hp)
  rw [hp] at KP
  have KN := (fun W (hW : Kn w [.blk (w.heap.size + 1) [.int .i64 0, .slice none 0 0] 35, .blk w.heap.size [.int .i64 b, .slice A ds.length c] 35] W) => l09Number_any w.heap.size b A c ds W (HR W hW) ho)
  have KA := (fun W => l09Set_any b m (pw b m) (aNum b ds) W b1 b2 (by omega) rfl hp' (by omega))
  obtain ⟨u, hu⟩ : ∃ u, aNum b ds = u := ⟨_, rfl⟩
  rw [hu] at KN KA HC
  obtain ⟨es, hes⟩ : ∃ l, aSet b m u = l := ⟨_, rfl⟩
  rw [hes] at KA HC
  replace HC := Lib.hid HC
  replace KP := Lib.hid KP
  replace KN := Lib.hid KN
  replace KA := Lib.hid KA
  clear hr ho h1 h2 hd hu n1 n2 b1 b2 hk hes H0 H5 hp hp' HR
  go_enter Tryd.func50, Tryd.ntmps50
  go_wp2_with fail
  refine Calls.kn (((Kn.nil w).al [.int .i64 b, .slice A ds.length c] 35).al [.int .i64 0, .slice none 0 0] 35) ?_; intro w1 hK1
  simp only [World.size_alloc] at hK1
  (refine (KS.out _ hK1).mono ?_); rintro e w2 ⟨rfl, hw⟩
  have hK2 := hK1.keep hw
  clear hK1 hw
  obtain ⟨x1, x2, x3, y1, y2, y3, -⟩ := hK2.cells
  go_wp2_with (first
    | (go_at_call 128; refine (KB.out _).mono ?_; rintro e w3 ⟨rfl, rfl⟩; have hK3 := hK2)
    | (go_at_call 129; refine (KP.out _).mono ?_; rintro e w4 ⟨rfl, rfl⟩))
  have hK5 := hK3
  obtain ⟨a1, a2, a3, d1, d2, d3, -⟩ := hK5.cells
  have HG := Lib.hid (box2 hK5.drew.drop)
  have HT := HG
  go_region_held3 (fun W => W.cell? ⟨w.heap.size, 0, none⟩ = some (.int .i64 b) ∧ W.cell? ⟨w.heap.size, 1, none⟩ = some (.slice A ds.length c)) (first | with_reducible exact HG.out | with_reducible exact HT.out | exact HG.out | exact HT.out) (first
    | (go_at_call 125; (refine (KN.out _ hK5.drew).mono ?_); rintro e w6 ⟨rfl, hw⟩; have hK6 := hK5.drew.keep hw; clear HG; have HG := Lib.hid (box2 hK6.drop))
    | (go_at_call 119; (with_reducible refine (KA.out _).mono ?_); rintro e w7 ⟨E, g, rfl, hKn⟩; have hK7 := hK6.join hKn; clear HG; have HG := Lib.hid (box2 hK7.drop.drop); obtain ⟨x1, x2, x3⟩ := (hK7.front 1 rfl).blkAt; have hK8 := ((hK7.front 1 rfl).st 0 (.int .i64 b)).st 1 (.slice E es.length g); clear HT; have HT := Lib.hid (box2 (hK8.drop.drop))))
  all_goals
    go_wp2_with fail
    refine bodyPost.kn hK8 ?_; intro w9 hK9
    try clear a1 a2 a3
    try clear x1 x2 x3
    obtain ⟨a1, a2, a3, -⟩ := hK9.cells
    refine bodyPost_ret (v := .tuple #[.agg #[.int .i64 b, .slice E es.length g], .int .i64 0]) (by simp [results, Tryd.results50, go_sem, a1]) rfl ?_
    rw [HC.out.1, HC.out.2.1, HC.out.2.2]
    exact ⟨E, g, rfl, hK9.sel [1] 99 (by decide) (by decide)⟩
end Go.Proofs.YtcapccadpbiecaaDoor

namespace Go.Proofs.YtcapccadpbiecaaDoor
open Go.RowKit Go.Sort
set_option maxRecDepth 100000 in
theorem DrawNegateAccumulator_any (A : Option Addr) (n c : Nat) (bs : List UInt8) (w : World) (hb : RB w A n bs) (hn : n ≤ 9223372036854775807) :
    Calls Tryd.prog 45 #[.slice A n c] w (DrawsReg w) := by
  unfold DrawsReg
  have HB := Lib.hid hb
  clear hb
  go_enter Tryd.func45, Tryd.ntmps45
  go_wp2_with fail
  refine Calls.kn ((Kn.nil w).al [.int .i64 0, .slice none 0 0] 35) ?_; intro w1 K1
  refine (l00From_any A n c bs w1 (HB.out.below K1.below) hn).mono ?_; rintro e w2 ⟨rfl, hs, hb2⟩
  have D2 := DR.nil hs
  clear HB hs
  go_wp2_with fail
  refine (l09Bent_dr _ _ w2 D2.src (by omega)).mono ?_; rintro e w3 ⟨bs, A, c, ds, rfl, hl, h3⟩
  have K3 := K1.join (Kn.ofDR hb2 (Nat.le_refl _) h3)
  clear K1 D2 h3 hb2
  obtain ⟨a1, a2, a3, -⟩ := K3.cells
  go_wp2_with fail
  refine bodyPost.kn (((K3.front 1 rfl).st 0 (.int .i64 bs)).st 1 (.slice A ds.length c)) ?_; intro w9 K9
  clear a1 a2 a3
  obtain ⟨a1, a2, a3, -⟩ := K9.cells
  exact bodyPost_ret (v := .agg #[.int .i64 bs, .slice A ds.length c]) (by simp [results, Tryd.results45, go_sem, a1]) rfl ⟨bs, A, c, ds, rfl, hl, K9.sel [1] 99 (by decide) (by decide)⟩
set_option maxRecDepth 100000 in
theorem DrawAccumulatorText_any (A : Option Addr) (n c : Nat) (bs : List UInt8) (w : World) (hb : RB w A n bs) (hn : n ≤ 9223372036854775807) :
    Calls Tryd.prog 51 #[.slice A n c] w (DrawsReg w) := by
  unfold DrawsReg
  have HB := Lib.hid hb
  clear hb
  go_enter Tryd.func51, Tryd.ntmps51
  go_wp2_with fail
  refine Calls.kn ((Kn.nil w).al [.int .i64 0, .slice none 0 0] 35) ?_; intro w1 K1
  refine (l00From_any A n c bs w1 (HB.out.below K1.below) hn).mono ?_; rintro e w2 ⟨rfl, hs, hb2⟩
  have D2 := DR.nil hs
  clear HB hs
  go_wp2_with fail
  refine (l09Bent_dr _ _ w2 D2.src (by omega)).mono ?_; rintro e w3 ⟨bs, A, c, ds, rfl, hl, h3⟩
  have K3 := K1.join (Kn.ofDR hb2 (Nat.le_refl _) h3)
  clear K1 D2 h3 hb2
  obtain ⟨a1, a2, a3, -⟩ := K3.cells
  go_wp2_with fail
  refine bodyPost.kn (((K3.front 1 rfl).st 0 (.int .i64 bs)).st 1 (.slice A ds.length c)) ?_; intro w9 K9
  clear a1 a2 a3
  obtain ⟨a1, a2, a3, -⟩ := K9.cells
  exact bodyPost_ret (v := .agg #[.int .i64 bs, .slice A ds.length c]) (by simp [results, Tryd.results51, go_sem, a1]) rfl ⟨bs, A, c, ds, rfl, hl, K9.sel [1] 99 (by decide) (by decide)⟩
set_option maxRecDepth 100000 in
set_option maxHeartbeats 800000 in
theorem l09DrawSize_dr (b N : Nat) (w : World) (h : Src w b N) (hN : N ≤ 800000) :
    Calls Tryd.prog 108 #[.pointer (some ⟨b, 0, none⟩)] w fun e w' => ∃ x y : Int, e = .returned (.tuple #[.int .i64 x, .int .i64 y]) ∧ DR b (N + 10) w [] w' := by
  have D0 := DR.nil h
  clear h
  go_enter Tryd.func108, Tryd.ntmps108
  go_wp2_with fail
  refine (one_dr b _ 8 w D0.src (by omega)).mono ?_; rintro e w1 ⟨y, rfl, h1⟩
  have D1 := D0.add h1
  clear D0 h1
  rcases y with _ | _
  · go_wp2_with fail
    refine (pick_dr b _ 11 w1 D1.src (by omega)).mono ?_; rintro e w2 ⟨x, rfl, hx, h2⟩
    have D2 := D1.add h2
    have x1 : 0 ≤ x ∧ x < 11 := ⟨hx.1, by rcases hx.2 with h | h <;> omega⟩
    clear D1 h2 hx
    go_wp2_with fail
    refine (pick_dr b _ 6 w2 D2.src (by omega)).mono ?_; rintro e w3 ⟨y, rfl, hy, h3⟩
    have D3 := D2.add h3
    have y1 : 0 ≤ y ∧ y < 6 := ⟨hy.1, by rcases hy.2 with h | h <;> omega⟩
    clear D2 h3 hy
    go_wp2_with fail
    go_ret2
    exact ⟨_, _, rfl, D3.mono (by omega)⟩
  · go_wp2_with fail
    refine Calls.dr (D1.al [.int .i64 1, .int .i64 2, .int .i64 10, .int .i64 16, .int .i64 17] 2) ?_; intro w2 D2
    obtain ⟨hr, hA⟩ := DR.lit (ds := [1, 2, 10, 16, 17]) D2 (by decide)
    refine (among_dr b _ _ 5 5 _ w2 D2.src (by omega) hr hA (by omega) (by omega)).mono ?_; rintro e w3 ⟨x, rfl, hx, h3⟩
    have D3 := (D2.add h3).sel [] 99 (by decide) (by decide)
    clear hr hA D1 D2 h3
    go_wp2_with fail
    refine Calls.dr (D3.al [.int .i64 0, .int .i64 1, .int .i64 12, .int .i64 13, .int .i64 16, .int .i64 17] 2) ?_; intro w4 D4
    obtain ⟨hr, hA⟩ := DR.lit (ds := [0, 1, 12, 13, 16, 17]) D4 (by decide)
    refine (among_dr b _ _ 6 6 _ w4 D4.src (by omega) hr hA (by omega) (by omega)).mono ?_; rintro e w5 ⟨y, rfl, hy, h5⟩
    have D5 := (D4.add h5).sel [] 99 (by decide) (by decide)
    clear hr hA D3 D4 h5
    go_wp2_with fail
    go_ret2
    exact ⟨_, _, rfl, D5.mono (by omega)⟩
set_option maxRecDepth 100000 in
theorem DrawAccumulatorRange_any (A : Option Addr) (n c : Nat) (bs : List UInt8) (w : World) (hb : RB w A n bs) (hn : n ≤ 9223372036854775807) :
    Calls Tryd.prog 42 #[.slice A n c] w fun e w' => ∃ x y : Int, e = .returned (.tuple #[.int .i64 x, .int .i64 y]) ∧ Below w.heap.size w w' := by
  have HB := Lib.hid hb
  clear hb
  go_enter Tryd.func42, Tryd.ntmps42
  go_wp2_with fail
  refine (l00From_any A n c bs w HB.out hn).mono ?_; rintro e w2 ⟨rfl, hs, hb2⟩
  have D2 := DR.nil hs
  clear HB hs
  go_wp2_with fail
  refine (l09DrawSize_dr _ _ w2 D2.src (by omega)).mono ?_; rintro e w3 ⟨x, y, rfl, h3⟩
  have K3 := Kn.ofDR hb2 (Nat.le_refl _) h3
  go_wp2_with fail
  go_ret2
  exact ⟨x, y, rfl, K3.below⟩
set_option maxRecDepth 100000 in
set_option maxHeartbeats 1600000 in
theorem DrawSetAccumulator_any (A : Option Addr) (n c : Nat) (bs : List UInt8) (w : World) (hb : RB w A n bs) (hn : n ≤ 9223372036854775807) :
    Calls Tryd.prog 39 #[.slice A n c] w fun e w' => ∃ x y z : Int, e = .returned (.tuple #[.int .i64 x, .int .i64 y, .int .i64 z]) ∧ Below w.heap.size w w' := by
  have HB := Lib.hid hb
  clear hb
  go_enter Tryd.func39, Tryd.ntmps39
  go_wp2_with fail
  refine (l00From_any A n c bs w HB.out hn).mono ?_; rintro e w2 ⟨rfl, hs, hb2⟩
  have D2 := DR.nil hs
  clear HB hs
  go_wp2_with fail
  refine (l09DrawSize_dr _ _ w2 D2.src (by omega)).mono ?_; rintro e w3 ⟨x, y, rfl, h3⟩
  have D3 := D2.add h3
  clear D2 h3
  have KN := (fun W => l09Size_any x y W)
  rcases hz : zOk x y with _ | _
  · rw [hz] at KN
    replace KN := Lib.hid KN
    clear hz
    go_wp2_with (go_at_call 109; refine (KN.out _).mono ?_; rintro e w' ⟨rfl, rfl⟩)
    refine (l09DrawNumber_dr _ _ w3 D3.src (by omega)).mono ?_; rintro e w4 ⟨z, rfl, h4⟩
    have K4 := Kn.ofDR hb2 (Nat.le_refl _) (D3.add h4)
    go_wp2_with fail
    go_ret3
    exact ⟨x, y, z, rfl, K4.below⟩
  rw [hz] at KN
  obtain ⟨⟨b1, b2⟩, m, hkm, m1, m2, hm, p1, p2⟩ := zOk_iff hz
  have KP := (fun W => l10Power_any x m W b1 b2 (by omega))
  have KL := (fun W => l09Low_any x m (pw x m) W b1 b2 m2 rfl p1)
  obtain ⟨q, hq⟩ : ∃ q, pw x m = q := ⟨_, rfl⟩
  rw [show powS x m = q by unfold powS; omega] at KP
  rw [hq] at KL p1 p2
  have hh := half_bd (n := q) (by omega)
  obtain ⟨l, hl⟩ : ∃ l, q.tdiv 2 = l := ⟨_, rfl⟩
  rw [hl] at KL hh
  replace KN := Lib.hid KN
  replace KP := Lib.hid KP
  replace KL := Lib.hid KL
  clear hz hm hq hl
  subst hkm
  go_wp2_with (go_at_call 109; refine (KN.out _).mono ?_; rintro e w' ⟨rfl, rfl⟩)
  refine (one_dr _ _ 3 w3 D3.src (by omega)).mono ?_; rintro e w4 ⟨y4, rfl, h4⟩
  have D4 := D3.add h4
  clear D3 h4
  rcases y4 with _ | _
  · go_wp2_with fail
    refine (l09DrawNumber_dr _ _ w4 D4.src (by omega)).mono ?_; rintro e w5 ⟨z, rfl, h5⟩
    have K5 := Kn.ofDR hb2 (Nat.le_refl _) (D4.add h5)
    go_wp2_with fail
    go_ret3
    exact ⟨x, m, z, rfl, K5.below⟩
  go_wp2_with (go_at_call 111; refine (KL.out _).mono ?_; rintro e w' ⟨rfl, rfl⟩)
  refine (one_dr _ _ 2 w4 D4.src (by omega)).mono ?_; rintro e w5 ⟨y5, rfl, h5⟩
  have D5 := D4.add h5
  clear D4 h5
  rcases y5 with _ | _
  · go_wp2_with (go_at_call 113; refine (KP.out _).mono ?_; rintro e w' ⟨rfl, rfl⟩)
    refine (pick_dr _ _ 2 w5 D5.src (by omega)).mono ?_; rintro e w6 ⟨z, rfl, hz, h6⟩
    have K6 := Kn.ofDR hb2 (Nat.le_refl _) (D5.add h6)
    go_wp2_with fail
    go_ret3
    exact ⟨_, _, _, rfl, K6.below⟩
  · go_wp2_with fail
    refine (pick_dr _ _ 2 w5 D5.src (by omega)).mono ?_; rintro e w6 ⟨z, rfl, hz, h6⟩
    have K6 := Kn.ofDR hb2 (Nat.le_refl _) (D5.add h6)
    go_wp2_with fail
    go_ret3
    exact ⟨_, _, _, rfl, K6.below⟩
set_option maxRecDepth 100000 in
set_option maxHeartbeats 1600000 in
theorem DrawWidenAccumulator_any (A : Option Addr) (n c : Nat) (bs : List UInt8) (w : World) (hb : RB w A n bs) (hn : n ≤ 9223372036854775807) :
    Calls Tryd.prog 48 #[.slice A n c] w fun e w' => ∃ (b : Int) (A : Option Addr) (c : Nat) (ds : List Int) (x : Int), e = .returned (.tuple #[.agg #[.int .i64 b, .slice A ds.length c], .int .i64 x]) ∧ ds.length ≤ 20 ∧ Kn w [rowI A c ds] w' := by
  have HB := Lib.hid hb
  clear hb
  go_enter Tryd.func48, Tryd.ntmps48
  go_wp2_with fail
  refine Calls.kn ((Kn.nil w).al [.int .i64 0, .slice none 0 0] 35) ?_; intro w1 K1
  refine (l00From_any A n c bs w1 (HB.out.below K1.below) hn).mono ?_; rintro e w2 ⟨rfl, hs, hb2⟩
  have D2 := DR.nil hs
  clear HB hs
  go_wp2_with fail
  refine (l09Bent_dr _ _ w2 D2.src (by omega)).mono ?_; rintro e w3 ⟨b, A, c, ds, rfl, hl, h3⟩
  have D3 := D2.add h3
  clear D2 h3
  obtain ⟨g, hg⟩ : ∃ g, w3.heap.size = g := ⟨_, rfl⟩
  go_wp2_with fail
  have D4 := D3.al [.int .i64 b, .slice A ds.length c] 35
  rw [hg] at D4
  try rw [hg]
  refine Calls.dr D4 ?_; intro w4 D4
  clear D3 hg
  refine (one_dr _ _ 10 w4 D4.src (by omega)).mono ?_; rintro e w5 ⟨y, rfl, h5⟩
  have D5 := D4.add h5
  clear D4 h5
  obtain ⟨L, hL⟩ : ∃ L, ds.length = L := ⟨_, rfl⟩
  have HL := Lib.hid hL
  rw [hL] at D5 hl ⊢
  clear hL
  rcases y with _ | _
  · go_wp2_with fail
    have HG := Lib.hid (D5.drew.box2)
    have HT := HG
    go_region_held3 (fun W => W.cell? ⟨g, 0, none⟩ = some (.int .i64 b) ∧ W.cell? ⟨g, 1, none⟩ = some (.slice A L c)) (first | with_reducible exact HG.out | with_reducible exact HT.out | exact HG.out | exact HT.out) (first
      | (go_at_call 112; (refine (pick_dr _ _ 5 _ D5.drew.src (by omega)).mono ?_); rintro e w6 ⟨x, rfl, hx, h6⟩; have D6 := D5.drew.add h6; clear HG; have HG := Lib.hid (D6.box2); have K6 : Kn w [.blk g [.int .i64 b, .slice A L c] 35, rowI A c ds, .blk w.heap.size [.int .i64 0, .slice none 0 0] 35] w6 := K1.join (Kn.ofDR hb2 (Nat.le_refl _) D6); obtain ⟨x1, x2, x3⟩ := (K6.front 2 rfl).blkAt; have K8 := ((K6.front 2 rfl).st 0 (.int .i64 b)).st 1 (.slice A L c); clear HT; have HT := Lib.hid (box2 K8.drop); have xb : 0 ≤ x ∧ x < 5 := ⟨hx.1, by rcases hx.2 with h | h <;> omega⟩))
    all_goals
      go_wp2_with fail
      refine bodyPost.kn K8 ?_; intro w9 K9
      clear x1 x2 x3
      obtain ⟨a1, a2, a3, -⟩ := K9.cells
      refine bodyPost_ret (by simp [results, Tryd.results48, go_sem, a1]; rfl) rfl ⟨b, A, c, ds, IntKind.i64.wrap ((L : Int) + x), ?_, by rw [HL.out]; exact hl, K9.sel [2] 99 (by decide) (by decide)⟩
      rw [HL.out]
  · go_wp2_with fail
    have HG := Lib.hid (D5.drew.box2)
    have D6 := D5.drew.al [.int .i64 (-1), .int .i64 0, .int .i64 16, .int .i64 17] 2
    have HT := Lib.hid ((D6.front 1 rfl).box2)
    have HU := HT
    go_region_held3 (fun W => W.cell? ⟨g, 0, none⟩ = some (.int .i64 b) ∧ W.cell? ⟨g, 1, none⟩ = some (.slice A L c)) (first | with_reducible exact HG.out | with_reducible exact HT.out | with_reducible exact HU.out | exact HG.out | exact HT.out | exact HU.out) (first
      | (go_at_call 126; have hRA := DR.lit (ds := [-1, 0, 16, 17]) D6 (by decide); refine (among_dr _ _ _ 4 4 _ _ D6.src (by omega) hRA.1 hRA.2 (by omega) (by omega)).mono ?_; rintro e w7 ⟨x, rfl, hx, h7⟩; have D7 := D6.add h7; clear HG; have HG := Lib.hid ((D7.front 1 rfl).box2); have K7 : Kn w [.blk g [.int .i64 b, .slice A L c] 35, rowI A c ds, .blk w.heap.size [.int .i64 0, .slice none 0 0] 35] w7 := K1.join (Kn.ofDR hb2 (Nat.le_refl _) (D7.sel [1, 2] 99 (by decide) (by decide))); obtain ⟨x1, x2, x3⟩ := (K7.front 2 rfl).blkAt; have K8 := ((K7.front 2 rfl).st 0 (.int .i64 b)).st 1 (.slice A L c); clear HU; have HU := Lib.hid (box2 K8.drop)))
    all_goals
      go_wp2_with fail
      refine bodyPost.kn K8 ?_; intro w9 K9
      clear x1 x2 x3
      obtain ⟨a1, a2, a3, -⟩ := K9.cells
      refine bodyPost_ret (by simp [results, Tryd.results48, go_sem, a1]; rfl) rfl ⟨b, A, c, ds, x, ?_, by rw [HL.out]; exact hl, K9.sel [2] 99 (by decide) (by decide)⟩
      rw [HL.out]
end Go.Proofs.YtcapccadpbiecaaDoor

namespace Go.Proofs.YtcapccadpbiecaaDoor
open Go.RowKit Go.Sort
/-! strokes that lead back, plainly -/
theorem tmod_wrap (a P : Int) (hP : 0 < P) : (a.tmod P + P).tmod P = a % P := by
  have h1 := Int.lt_tmod_of_pos a hP
  rw [Int.tmod_eq_emod_of_nonneg (by omega), Int.add_emod_right, Int.tmod_def, Int.sub_mul_emod_self_left]
theorem digD_valL (b : Int) (hb : 2 ≤ b) : ∀ ds : List Int, (∀ d ∈ ds, 0 ≤ d ∧ d < b) → valL b ds ≤ 1000000000000 → digD b ds.length (valL b ds) = ds
  | [], _, _ => rfl
  | d :: ds, hd, hl => by
    have hd0 := hd d (List.mem_cons_self ..)
    have hv0 := (valL_bd b hb ds (fun x hx => (hd x (List.mem_cons_of_mem _ hx)).1)).1
    have e1 : valL b (d :: ds) = valL b ds * b + d := by simp only [valL] at hl ⊢; omega
    have h2 : valL b ds * 1 ≤ valL b ds * b := Int.mul_le_mul_of_nonneg_left (by omega) hv0
    have ih := digD_valL b hb ds (fun x hx => hd x (List.mem_cons_of_mem _ hx)) (by omega)
    have h3 : 0 ≤ valL b ds * b + d := by omega
    have e2 : (valL b ds * b + d).tmod b = d := by
      rw [Int.tmod_eq_emod_of_nonneg h3, Int.add_comm, Int.add_mul_emod_self_right]
      exact Int.emod_eq_of_lt hd0.1 hd0.2
    have e3 : (valL b ds * b + d).tdiv b = valL b ds := by
      rw [Int.tdiv_eq_ediv_of_nonneg h3, Int.add_comm, Int.add_mul_ediv_right _ _ (by omega), Int.ediv_eq_zero_of_lt hd0.1 hd0.2, Int.zero_add]
    rw [List.length_cons, digD_cons, e1, e2, e3, ih]
theorem vreg_dig {b : Int} {ds : List Int} (hv : vreg b ds = true) : digD b ds.length (valL b ds) = ds := by
  obtain ⟨⟨b1, b2⟩, -, hd, hl⟩ := vreg_iff.1 hv
  exact digD_valL b b1 ds hd hl
theorem valL_shift {b : Int} {ds : List Int} (x : Int) (hv : vreg b ds = true) (hp : pw b ds.length ≤ 1000000000001) : valL b (shiftD b ds x) = (valL b ds + x) % pw b ds.length := by
  obtain ⟨⟨b1, b2⟩, -, hd, hl⟩ := vreg_iff.1 hv
  have hp1 := pw_pos b b1 ds.length
  unfold shiftD
  rw [tmod_wrap _ _ (by omega)]
  have h1 := Int.emod_nonneg (valL b ds + x) (show pw b ds.length ≠ 0 by omega)
  have h2 := Int.emod_lt_of_pos (valL b ds + x) (show 0 < pw b ds.length by omega)
  exact valL_digD b b1 _ _ h1 h2 (by omega)
theorem shiftD_eq (b : Int) (hb : 2 ≤ b) (ds : List Int) (y : Int) : shiftD b ds y = digD b ds.length ((valL b ds + y) % pw b ds.length) := by
  have hp1 := pw_pos b hb ds.length
  unfold shiftD
  rw [tmod_wrap _ _ (by omega)]
theorem shift_back {b : Int} {ds : List Int} (x y : Int) (hxy : x + y = 0) (hv : vreg b ds = true) (hp : pw b ds.length ≤ 1000000000001) : shiftD b (shiftD b ds x) y = ds := by
  obtain ⟨⟨b1, b2⟩, -, hd, hl⟩ := vreg_iff.1 hv
  have hp1 := pw_pos b b1 ds.length
  have hv0 := (valL_bd b b1 ds (fun x hx => (hd x hx).1)).1
  have hv1 := valL_lt b b1 ds hd
  rw [shiftD_eq b b1 (shiftD b ds x) y, valL_shift x hv hp, shiftD_len, Int.emod_add_emod, Int.add_assoc, hxy, Int.add_zero, Int.emod_eq_of_lt hv0 hv1]
  exact vreg_dig hv
/-- the stroke that leads back -/
def backK (k : Int) : Int := if k = 1 then 2 else if k = 2 then 1 else if k = 3 then 4 else 3
theorem turn_back {t : Tri} (h : vmach t = true) (s s' : Int) (hs : s + s' = 0) : (turnT (turnT t s).1 s').1 = t := by
  obtain ⟨k1, k2, k3, e1, e2, f1, f2, l1, c0, c1⟩ := vmach_all h
  have q1 := shift_back (s * (valL t.a.base t.a.digits * pw t.b.base t.carry.toNat)) (s' * (valL t.a.base t.a.digits * pw t.b.base t.carry.toNat)) (by rw [← Int.add_mul, hs, Int.zero_mul]) k2 f1
  have q2 := shift_back (s * pw t.b.base t.carry.toNat) (s' * pw t.b.base t.carry.toNat) (by rw [← Int.add_mul, hs, Int.zero_mul]) k3 f2
  rw [show (turnT (turnT t s).1 s').1 = ⟨t.a, ⟨t.b.base, shiftD t.b.base (shiftD t.b.base t.b.digits (s * (valL t.a.base t.a.digits * pw t.b.base t.carry.toNat))) (s' * (valL t.a.base t.a.digits * pw t.b.base t.carry.toNat))⟩, ⟨t.s.base, shiftD t.s.base (shiftD t.s.base t.s.digits (s * pw t.b.base t.carry.toNat)) (s' * pw t.b.base t.carry.toNat)⟩, t.carry⟩ from rfl, q1, q2]
theorem stroke_back {t : Tri} (h : vmach t = true) {k : Int} (hk : 1 ≤ k ∧ k ≤ 4) : if (strokeT k t).2 = true ∧ 2 < k then (strokeT k t).1 = t else (strokeT (backK k) (strokeT k t).1).1 = t := by
  obtain ⟨k1, k2, k3, e1, e2, f1, f2, l1, c0, c1⟩ := vmach_all h
  have hk' : k = 1 ∨ k = 2 ∨ k = 3 ∨ k = 4 := by omega
  rcases hk' with rfl | rfl | rfl | rfl
  · rw [if_neg (by omega)]
    exact turn_back h 1 (-1) (by decide)
  · rw [if_neg (by omega)]
    exact turn_back h (-1) 1 (by decide)
  · by_cases hc : t.carry + 1 = vplaces t
    · have e : strokeT 3 t = (t, true) := by simp [strokeT, hc]
      rw [e, if_pos ⟨rfl, by decide⟩]
    · have e : strokeT 3 t = ({ t with carry := t.carry + 1 }, false) := by simp [strokeT, hc]
      rw [e, if_neg (by simp)]
      have h4 : ¬ t.carry + 1 = 0 := by omega
      simp [strokeT, backK, h4]
  · by_cases hc : t.carry = 0
    · have e : strokeT 4 t = (t, true) := by simp [strokeT, hc]
      rw [e, if_pos ⟨rfl, by decide⟩]
    · have e : strokeT 4 t = ({ t with carry := t.carry - 1 }, false) := by simp [strokeT, hc]
      rw [e, if_neg (by simp)]
      have h4 : ¬ t.carry = vplaces t := by omega
      simp only [backK, strokeT]
      simp [vplaces] at h4 ⊢
      simp [h4]
end Go.Proofs.YtcapccadpbiecaaDoor

namespace Go.Proofs.YtcapccadpbiecaaDoor
open Go.RowKit Go.Sort
theorem isNm_mono {n m y : Int} (hn : 0 ≤ n) (h : n ≤ m) (hy : isNm n y = true) : isNm m y = true := by
  have h1 := half_bd hn
  have h2 := half_bd (n := m) (by omega)
  have h3 := betB_iff.1 hy
  exact betB_iff.2 (by omega)
theorem isNm_aNum {b : Int} {ds : List Int} (h : aOk b ds = true) : isNm (pw b ds.length) (aNum b ds) = true := by
  have hv := valL_in h
  have hh := half_bd (n := pw b ds.length) (by omega)
  refine betB_iff.2 ?_
  unfold aNum
  split <;> omega
theorem aSet_okG {b : Int} {m : Nat} (b1 : 2 ≤ b) (b2 : b ≤ 16) (m1 : 1 ≤ m) (m2 : m ≤ 16) (hp : pw b m ≤ 1000000000001) (x : Int) : aOk b (aSet b m x) = true := by
  have hq := pw_pos b b1 m
  have hb := aNorm_bd (n := pw b m) (x := x) hq
  refine aOk_iff.2 ⟨?_, by rw [aSet_len]; exact hp⟩
  exact digD_vreg b b1 b2 _ m1 m2 _ hb.1 hb.2 (by omega)
theorem aSet_aNum {b : Int} {ds : List Int} (h : aOk b ds = true) : aSet b ds.length (aNum b ds) = ds := by
  have hv := valL_in h
  have hh := half_bd (n := pw b ds.length) (by omega)
  have hn := betB_iff.1 (isNm_aNum h)
  have ha := aNorm_val (n := pw b ds.length) (y := aNum b ds) (by omega) (by omega) (by omega)
  have e : aNorm (pw b ds.length) (aNum b ds) = valL b ds := by
    rw [ha]
    unfold aNum
    split <;> split <;> omega
  unfold aSet
  rw [e]
  exact vreg_dig (aOk_iff.1 h).1
theorem neg_ok {b : Int} {ds : List Int} (h : ngC b ds = 0) : aOk b ds = true ∧ ngV b ds = b ∧ aOk b (ngD b ds) = true ∧ aNum b (ngD b ds) = -(aNum b ds) ∧ ngC b (ngD b ds) = 0 ∧ ngV b (ngD b ds) = b ∧ ngD b (ngD b ds) = ds ∧ (ngD b ds).length = ds.length := by
  have ho : aOk b ds = true := by
    cases ho : aOk b ds with
    | true => rfl
    | false => rw [(ng_bad ho).1] at h; cases h
  have hx : isNm (pw b ds.length) (-(aNum b ds)) = true := by
    cases hx : isNm (pw b ds.length) (-(aNum b ds)) with
    | true => rfl
    | false => rw [(ng_full ho hx).1] at h; cases h
  obtain ⟨-, e2, e3⟩ := ng_fine ho hx
  have hl : (ngD b ds).length = ds.length := by rw [e3, aSet_len]
  have ho2 : aOk b (ngD b ds) = true := by rw [e3]; exact aSet_ok ho _
  have hn2 : aNum b (ngD b ds) = -(aNum b ds) := by rw [e3]; exact aNum_aSet_ok ho hx
  have hx2 : isNm (pw b (ngD b ds).length) (-(aNum b (ngD b ds))) = true := by rw [hn2, Int.neg_neg, hl]; exact isNm_aNum ho
  obtain ⟨f1, f2, f3⟩ := ng_fine ho2 hx2
  refine ⟨ho, e2, ho2, hn2, f1, f2, ?_, hl⟩
  rw [f3, hn2, Int.neg_neg, hl]
  exact aSet_aNum ho
theorem wd_ok {b k : Int} {ds : List Int} (h : wdC b ds k = 0) : aOk b ds = true ∧ wdV b ds k = b ∧ aOk b (wdD b ds k) = true ∧ aNum b (wdD b ds k) = aNum b ds ∧ ((wdD b ds k).length : Int) = k := by
  have ho : aOk b ds = true := by
    cases ho : aOk b ds with
    | true => rfl
    | false => rw [(wd_bad (k := k) ho).1] at h; cases h
  have hk : betB k ds.length 16 = true := by
    cases hk : betB k ds.length 16 with
    | true => rfl
    | false => rw [(wd_range ho hk).1] at h; cases h
  have hp : decide (pw b k.toNat ≤ 1000000000001) = true := by
    cases hp : decide (pw b k.toNat ≤ 1000000000001) with
    | true => rfl
    | false => rw [(wd_full ho hk hp).1] at h; cases h
  obtain ⟨-, e2, e3⟩ := wd_fine ho hk hp
  obtain ⟨h1, h2⟩ := aOk_iff.1 ho
  obtain ⟨⟨b1, b2⟩, ⟨n1, n2⟩, hd, -⟩ := vreg_iff.1 h1
  have hk' := betB_iff.1 hk
  have hp' : pw b k.toNat ≤ 1000000000001 := by simpa using hp
  have hm := pw_mono b b1 ds.length k.toNat (by omega)
  have hpp := pw_pos b b1 ds.length
  refine ⟨ho, e2, ?_, ?_, ?_⟩
  · rw [e3]; exact aSet_okG b1 b2 (by omega) (by omega) hp' _
  · rw [e3]; exact aNum_aSet b1 hp' (isNm_mono (by omega) hm (isNm_aNum ho))
  · rw [e3, aSet_len]; omega
theorem sa_ok {b k x : Int} (h : saC b k x = 0) : saV b k x = b ∧ aOk b (saD b k x) = true ∧ aNum b (saD b k x) = x := by
  have hz : zOk b k = true := by
    cases hz : zOk b k with
    | true => rfl
    | false => rw [(sa_bad (x := x) hz).1] at h; cases h
  have hx : isNm (pw b k.toNat) x = true := by
    cases hx : isNm (pw b k.toNat) x with
    | true => rfl
    | false => rw [(sa_full hz hx).1] at h; cases h
  obtain ⟨-, e2, e3⟩ := sa_fine hz hx
  obtain ⟨⟨b1, b2⟩, m, hkm, m1, m2, hm, p1, p2⟩ := zOk_iff hz
  rw [hm] at hx e3
  refine ⟨e2, ?_, ?_⟩
  · rw [e3]; exact aSet_okG b1 b2 m1 m2 p1 _
  · rw [e3]; exact aNum_aSet b1 p1 hx
theorem rowLenA {w0 w : World} {m : List Ent} {A : Option Addr} {c : Nat} {ds : List Int} (h : Kn w0 (rowI A c ds :: m) w) : ds.length ≤ 9223372036854775807 := by
  have h0 : w.ownsRow 0 2 1 (.slice A ds.length c) ds.length (ds.map (Value.int .i64)) := h.at0
  rcases h0.2 with ⟨h1, h2⟩ | ⟨g', cap, cur, hv, hb, hg, hn, hc, -⟩
  · omega
  · unfold maxLen at hc; omega
set_option maxRecDepth 100000 in
set_option maxHeartbeats 12800000 in
theorem law_Accumulators (A : Option Addr) (n c : Nat) (bs : List UInt8) (w : World) (hb : RB w A n bs) (hn : n ≤ 9223372036854775807) (ht : TB w) :
    Calls Tryd.prog 8 #[.slice A n c] w fun e w' => e = .returned (.bool true) ∧ Below w.heap.size w w' := by
  have HB := Lib.hid (fun W (hW : Below w.heap.size w W) => RB.below hb hW)
  have HTB := Lib.hid (fun W (hW : Below w.heap.size w W) => TB.below ht hW)
  clear hb ht
  by_cases h3 : (n : Int) > 4096
  · have HD : Hid (decide ((n : Int) > 4096) = true) := decide_eq_true h3
    clear h3
    go_enter Tryd.func8, Tryd.ntmps8
    go_wp2_with (go_at_call 38; refine (f6big_any A n c _).mono ?_; rintro e w' ⟨rfl, hww⟩; obtain rfl := hww.symm; rw [HD.out])
    go_ret
    exact ⟨rfl, Below.refl _ _⟩
  have HD : Hid (decide ((n : Int) > 4096) = false) := decide_eq_false h3
  clear h3
  go_enter Tryd.func8, Tryd.ntmps8
  go_wp2_with (go_at_call 38; refine (f6big_any A n c _).mono ?_; rintro e w' ⟨rfl, hww⟩; obtain rfl := hww.symm; rw [HD.out])
  refine (DrawSetAccumulator_any A n c bs w (HB.out _ (Below.refl _ _)) hn).mono ?_; rintro e w1 ⟨x, y, z, rfl, hw⟩
  have hK1 := (Kn.nil w).keep hw
  have H1 := Lib.hid (fun (h : saC x y z = 0) => sa_ok h)
  have KI := (fun W => SetAccumulator_any x y z W)
  have KS := (fun W => specSetAccumulator_any x y z W)
  unfold R1Ret at KI KS
  obtain ⟨rb, hrb⟩ : ∃ v, saV x y z = v := ⟨_, rfl⟩
  obtain ⟨rd, hrd⟩ : ∃ v, saD x y z = v := ⟨_, rfl⟩
  obtain ⟨q1, hq1⟩ : ∃ v, saC x y z = v := ⟨_, rfl⟩
  rw [hrb, hrd, hq1] at KI KS H1
  replace KI := Lib.hid KI
  replace KS := Lib.hid KS
  clear hrb hrd hq1 hw
  go_wp2_with fail
  refine (KI.out _).mono ?_; rintro e w2 ⟨E1, g1, rfl, hKn⟩
  have hK2 := hK1.join hKn
  clear hK1 hKn
  go_wp2_with fail
  refine Calls.kn (hK2.al [.int .i64 rb, .slice E1 rd.length g1] 35) ?_; intro w3 hK3
  clear hK2
  refine (KS.out _).mono ?_; rintro e w4 ⟨E2, g2, rfl, hKn⟩
  have hK4 := hK3.join hKn
  clear hK3 hKn KI KS
  obtain ⟨gr, hgr⟩ : ∃ g, w2.heap.size = g := ⟨_, rfl⟩
  rw [hgr] at hK4
  try rw [hgr]
  try simp only [hgr]
  clear hgr
  go_wp2_with fail
  refine Calls.kn (hK4.al [.int .i64 rb, .slice E2 rd.length g2] 35) ?_; intro w5 hK5
  obtain ⟨gm, hgm⟩ : ∃ g, w4.heap.size = g := ⟨_, rfl⟩
  rw [hgm] at hK5
  try rw [hgm]
  try simp only [hgm]
  clear hgm hK4
  refine (DrawAccumulatorRange_any A n c bs w5 (HB.out _ hK5.below) hn).mono ?_; rintro e w6 ⟨bb, ww, rfl, hw⟩
  have hK6 := hK5.keep hw
  clear hK5 hw
  have KI := (fun W => AccumulatorRange_any bb ww W)
  have KS := (fun W => specAccumulatorRange_any bb ww W)
  obtain ⟨lo, hlo⟩ : ∃ v, arL bb ww = v := ⟨_, rfl⟩
  obtain ⟨hi, hhi⟩ : ∃ v, arH bb ww = v := ⟨_, rfl⟩
  obtain ⟨q2, hq2⟩ : ∃ v, arC bb ww = v := ⟨_, rfl⟩
  rw [hlo, hhi, hq2] at KI KS
  replace KI := Lib.hid KI
  replace KS := Lib.hid KS
  clear hlo hhi hq2
  go_wp2_with (first | (go_at_call 43; refine (KI.out _).mono ?_; rintro e w' ⟨rfl, rfl⟩) | (go_at_call 44; refine (KS.out _).mono ?_; rintro e w' ⟨rfl, rfl⟩))
  refine (DrawNegateAccumulator_any A n c bs _ (HB.out _ hK6.below) hn).mono ?_; unfold DrawsReg; rintro e w7 ⟨nb, A3, c3, nd, rfl, hl3, hKn⟩
  have hK7 := hK6.join hKn
  clear hK6 hKn KI KS
  go_wp2_with fail
  refine Calls.kn (hK7.al [.int .i64 nb, .slice A3 nd.length c3] 35) ?_; intro w8 hK8
  obtain ⟨gn, hgn⟩ : ∃ g, w7.heap.size = g := ⟨_, rfl⟩
  rw [hgn] at hK8
  try rw [hgn]
  try simp only [hgn]
  clear hgn hK7
  have H3 := Lib.hid (fun (h : ngC nb nd = 0) => neg_ok h)
  have KI := (fun W (hr : RI W A3 nd.length nd) => NegateAccumulator_any nb A3 c3 nd W hr (by omega))
  have KS := (fun W (hr : RI W A3 nd.length nd) => specNegateAccumulator_any nb A3 c3 nd W hr (by omega))
  unfold R1Ret at KI KS
  obtain ⟨xb, hxb⟩ : ∃ v, ngV nb nd = v := ⟨_, rfl⟩
  obtain ⟨xd, hxd⟩ : ∃ v, ngD nb nd = v := ⟨_, rfl⟩
  obtain ⟨q3, hq3⟩ : ∃ v, ngC nb nd = v := ⟨_, rfl⟩
  rw [hxb, hxd, hq3] at KI KS H3
  replace KI := Lib.hid KI
  replace KS := Lib.hid KS
  clear hxb hxd hq3
  refine (KI.out _ (hK8.front 1 rfl).riv).mono ?_; rintro e w9 ⟨E4, g4, rfl, hKn⟩
  have hK9 := hK8.join hKn
  clear hK8 hKn
  obtain ⟨x1, x2, x3⟩ := (hK9.front 1 rfl).blkAt
  go_wp2_with fail
  refine Calls.kn (hK9.al [.int .i64 xb, .slice E4 xd.length g4] 35) ?_; intro w10 hK10
  obtain ⟨gx, hgx⟩ : ∃ g, w9.heap.size = g := ⟨_, rfl⟩
  rw [hgx] at hK10
  try rw [hgx]
  try simp only [hgx]
  clear hgx hK9 x1 x2 x3
  refine (KS.out _ (hK10.front 3 rfl).riv).mono ?_; rintro e w11 ⟨E5, g5, rfl, hKn⟩
  have hK11 := hK10.join hKn
  clear hK10 hKn KI KS
  go_wp2_with fail
  refine Calls.kn (hK11.al [.int .i64 xb, .slice E5 xd.length g5] 35) ?_; intro w12 hK12
  obtain ⟨gy, hgy⟩ : ∃ g, w11.heap.size = g := ⟨_, rfl⟩
  rw [hgy] at hK12
  try rw [hgy]
  try simp only [hgy]
  clear hgy hK11
  refine (DrawWidenAccumulator_any A n c bs _ (HB.out _ hK12.below) hn).mono ?_; rintro e w13 ⟨ab, A6, c6, ad, k, rfl, hl6, hKn⟩
  have hK13 := hK12.join hKn
  clear hK12 hKn
  go_wp2_with fail
  refine Calls.kn (hK13.al [.int .i64 ab, .slice A6 ad.length c6] 35) ?_; intro w14 hK14
  obtain ⟨ga, hga⟩ : ∃ g, w13.heap.size = g := ⟨_, rfl⟩
  rw [hga] at hK14
  try rw [hga]
  try simp only [hga]
  clear hga hK13
  have H5 := Lib.hid (fun (h : wdC ab ad k = 0) => wd_ok h)
  have KI := (fun W (hr : RI W A6 ad.length ad) => WidenAccumulator_any ab A6 c6 ad k W hr (by omega))
  have KS := (fun W (hr : RI W A6 ad.length ad) => specWidenAccumulator_any ab A6 c6 ad k W hr (by omega))
  unfold R1Ret at KI KS
  obtain ⟨ub, hub⟩ : ∃ v, wdV ab ad k = v := ⟨_, rfl⟩
  obtain ⟨ud, hud⟩ : ∃ v, wdD ab ad k = v := ⟨_, rfl⟩
  obtain ⟨q5, hq5⟩ : ∃ v, wdC ab ad k = v := ⟨_, rfl⟩
  rw [hub, hud, hq5] at KI KS H5
  replace KI := Lib.hid KI
  replace KS := Lib.hid KS
  clear hub hud hq5
  refine (KI.out _ (hK14.front 1 rfl).riv).mono ?_; rintro e w15 ⟨E7, g7, rfl, hKn⟩
  have hK15 := hK14.join hKn
  clear hK14 hKn
  obtain ⟨x1, x2, x3⟩ := (hK15.front 1 rfl).blkAt
  go_wp2_with fail
  refine Calls.kn (hK15.al [.int .i64 ub, .slice E7 ud.length g7] 35) ?_; intro w16 hK16
  obtain ⟨gu, hgu⟩ : ∃ g, w15.heap.size = g := ⟨_, rfl⟩
  rw [hgu] at hK16
  try rw [hgu]
  try simp only [hgu]
  clear hgu hK15 x1 x2 x3
  refine (KS.out _ (hK16.front 3 rfl).riv).mono ?_; rintro e w17 ⟨E8, g8, rfl, hKn⟩
  have hK17 := hK16.join hKn
  clear hK16 hKn KI KS
  go_wp2_with fail
  refine Calls.kn (hK17.al [.int .i64 ub, .slice E8 ud.length g8] 35) ?_; intro w18 hK18
  obtain ⟨gv, hgv⟩ : ∃ g, w17.heap.size = g := ⟨_, rfl⟩
  rw [hgv] at hK18
  try rw [hgv]
  try simp only [hgv]
  clear hgv hK17
  refine (DrawAccumulatorText_any A n c bs _ (HB.out _ hK18.below) hn).mono ?_; unfold DrawsReg; rintro e w19 ⟨tb, A9, c9, td, rfl, hl9, hKn⟩
  have hK19 := hK18.join hKn
  clear hK18 hKn
  obtain ⟨gt, hgt⟩ : ∃ g, w19.heap.size = g := ⟨_, rfl⟩
  have hK20 := (hK19.al [.int .i64 tb, .slice A9 td.length c9] 35)
  rw [hgt] at hK20
  go_upto_region 16 with fail
  try rw [hgt]
  try simp only [hgt]
  refine Code.wp.kn hK20 ?_; intro w20 hK20
  clear hK19 hgt

  have hK20 : Kn w [.blk gt [.int .i64 tb, .slice A9 td.length c9] 35, rowI A9 c9 td, .blk gv [.int .i64 ub, .slice E8 ud.length g8] 35, rowI E8 g8 ud, .blk gu [.int .i64 ub, .slice E7 ud.length g7] 35, rowI E7 g7 ud, .blk ga [.int .i64 ab, .slice A6 ad.length c6] 35, rowI A6 c6 ad, .blk gy [.int .i64 xb, .slice E5 xd.length g5] 35, rowI E5 g5 xd, .blk gx [.int .i64 xb, .slice E4 xd.length g4] 35, rowI E4 g4 xd, .blk gn [.int .i64 nb, .slice A3 nd.length c3] 35, rowI A3 c3 nd, .blk gm [.int .i64 rb, .slice E2 rd.length g2] 35, rowI E2 g2 rd, .blk gr [.int .i64 rb, .slice E1 rd.length g1] 35, rowI E1 g1 rd] w20 := hK20
  have x0 := cell_regrown (show w20.cell? ⟨gt, 0, none⟩ = some (.int .i64 tb) from (hK20.front 0 rfl).blkAt.1 0)
  have x1 := cell_regrown (show w20.cell? ⟨gt, 1, none⟩ = some (.slice A9 td.length c9) from (hK20.front 0 rfl).blkAt.1 1)
  have x2 := cell_regrown (show w20.cell? ⟨gv, 0, none⟩ = some (.int .i64 ub) from (hK20.front 2 rfl).blkAt.1 0)
  have x3 := cell_regrown (show w20.cell? ⟨gv, 1, none⟩ = some (.slice E8 ud.length g8) from (hK20.front 2 rfl).blkAt.1 1)
  have x4 := cell_regrown (show w20.cell? ⟨gu, 0, none⟩ = some (.int .i64 ub) from (hK20.front 4 rfl).blkAt.1 0)
  have x5 := cell_regrown (show w20.cell? ⟨gu, 1, none⟩ = some (.slice E7 ud.length g7) from (hK20.front 4 rfl).blkAt.1 1)
  have x6 := cell_regrown (show w20.cell? ⟨gy, 0, none⟩ = some (.int .i64 xb) from (hK20.front 8 rfl).blkAt.1 0)
  have x7 := cell_regrown (show w20.cell? ⟨gy, 1, none⟩ = some (.slice E5 xd.length g5) from (hK20.front 8 rfl).blkAt.1 1)
  have x8 := cell_regrown (show w20.cell? ⟨gx, 0, none⟩ = some (.int .i64 xb) from (hK20.front 10 rfl).blkAt.1 0)
  have x9 := cell_regrown (show w20.cell? ⟨gx, 1, none⟩ = some (.slice E4 xd.length g4) from (hK20.front 10 rfl).blkAt.1 1)
  have x10 := cell_regrown (show w20.cell? ⟨gm, 0, none⟩ = some (.int .i64 rb) from (hK20.front 14 rfl).blkAt.1 0)
  have x11 := cell_regrown (show w20.cell? ⟨gm, 1, none⟩ = some (.slice E2 rd.length g2) from (hK20.front 14 rfl).blkAt.1 1)
  have x12 := cell_regrown (show w20.cell? ⟨gr, 0, none⟩ = some (.int .i64 rb) from (hK20.front 16 rfl).blkAt.1 0)
  have x13 := cell_regrown (show w20.cell? ⟨gr, 1, none⟩ = some (.slice E1 rd.length g1) from (hK20.front 16 rfl).blkAt.1 1)
  have S1 := Lib.hid (fun W (hW : Below w20.heap.size w20 W) => specSameRegister_same rb E1 E2 g1 g2 rd W ((hK20.keep hW).front 17 rfl).riv ((hK20.keep hW).front 15 rfl).riv (rowLenA (hK20.front 17 rfl)))
  have S2 := Lib.hid (fun W (hW : Below w20.heap.size w20 W) => specSameRegister_same xb E4 E5 g4 g5 xd W ((hK20.keep hW).front 11 rfl).riv ((hK20.keep hW).front 9 rfl).riv (rowLenA (hK20.front 11 rfl)))
  have S3 := Lib.hid (fun W (hW : Below w20.heap.size w20 W) => specSameRegister_same ub E7 E8 g7 g8 ud W ((hK20.keep hW).front 5 rfl).riv ((hK20.keep hW).front 3 rfl).riv (rowLenA (hK20.front 5 rfl)))
  have T1 := (fun W (hW : Below w20.heap.size w20 W) => AccumulatorText_any tb A9 c9 td W ((hK20.keep hW).front 1 rfl).riv (by omega) (HTB.out _ (hK20.keep hW).below))
  have T2 := (fun W (hW : Below w20.heap.size w20 W) => specAccumulatorText_any tb A9 c9 td W ((hK20.keep hW).front 1 rfl).riv (by omega))
  obtain ⟨TT, hTT⟩ : ∃ v, atB tb td = v := ⟨_, rfl⟩
  rw [hTT] at T1 T2
  have hself : (TT.toList == TT.toList) = true := by simp
  replace T1 := Lib.hid T1
  replace T2 := Lib.hid T2
  clear hTT
  refine wp_region_quiet_below (by kernel_rfl) (by kernel_rfl) ?_
  repeat (go_big_quiet_step (first | (go_at_call 52; first | (with_reducible exact quietB S1.out) | (with_reducible exact quietB S2.out) | (with_reducible exact quietB S3.out)) | (go_at_call 53; with_reducible exact quietB T1.out) | (go_at_call 54; with_reducible exact quietB T2.out)))
  refine wpQuiet_nil ?_
  intro _ hw'
  obtain ⟨⟨dq, osq⟩, hw''⟩ := hw'
  subst hw''
  obtain ⟨w21, hw3⟩ : ∃ W, grow (redrawn w20 dq) osq = W := ⟨_, rfl⟩
  have hK21 := hK20.keep (below_regrown w20 dq osq)
  dsimp only
  rw [hw3] at hK21 ⊢
  clear hw3 S1 S2 S3 T1 T2 hK20 x0 x1 x2 x3 x4 x5 x6 x7 x8 x9 x10 x11 x12 x13
  by_cases hq3 : q3 = 0
  · have HV := Lib.hid (H3.out hq3)
    subst hq3
    obtain ⟨o1, o2, o3, o4, o5, o6, o7, o8⟩ := HV.out
    subst o2
    have KN1 := (fun W (hr : RI W A3 nd.length nd) => NumberOf_any xb A3 c3 nd W hr (by omega))
    have KN2 := (fun W (hr : RI W E4 xd.length xd) => NumberOf_any xb E4 g4 xd W hr (by omega))
    have KN3 := (fun W (hr : RI W E4 xd.length xd) => NegateAccumulator_any xb E4 g4 xd W hr (by omega))
    unfold R1Ret at KN3
    have hub := aNum_bd o1
    rw [if_pos o1, if_pos o1] at KN1
    rw [if_pos o3, if_pos o3, o4] at KN2
    rw [o5, o6, o7] at KN3
    obtain ⟨v, hv⟩ : ∃ v, aNum xb nd = v := ⟨_, rfl⟩
    rw [hv] at KN1 KN2 hub
    have hwr : IntKind.i64.wrap v = v := wrapI64 (by omega)
    have hwr2 : IntKind.i64.wrap (-(-v)) = v := by rw [Int.neg_neg]; exact hwr
    replace KN1 := Lib.hid KN1
    replace KN2 := Lib.hid KN2
    replace KN3 := Lib.hid KN3
    clear o1 o3 o4 o5 o6 o7 o8 HV hv
    obtain ⟨x1, x2, x3⟩ := (hK21.front 12 rfl).blkAt
    go_wp2_with fail
    refine (KN1.out _ (hK21.front 13 rfl).riv).mono ?_; rintro e w22 ⟨rfl, hw⟩
    have hK22 := hK21.keep hw
    clear hw x1 x2 x3 hK21
    obtain ⟨x1, x2, x3⟩ := (hK22.front 10 rfl).blkAt
    go_wp2_with fail
    refine (KN2.out _ (hK22.front 11 rfl).riv).mono ?_; rintro e w23 ⟨rfl, hw⟩
    have hK23 := hK22.keep hw
    clear hw x1 x2 x3 hK22
    obtain ⟨x1, x2, x3⟩ := (hK23.front 10 rfl).blkAt
    go_wp2_with fail
    refine (KN3.out _ (hK23.front 11 rfl).riv).mono ?_; rintro e w24 ⟨E10, g10, rfl, hKn⟩
    have hK24 := hK23.join hKn
    clear hKn x1 x2 x3 hK23 KN1 KN2 KN3
    go_upto_region 22 with fail
    refine Code.wp.kn (hK24.al [.int .i64 xb, .slice E10 nd.length g10] 35) ?_; intro w25 hK25
    obtain ⟨gb, hgb⟩ : ∃ g, w24.heap.size = g := ⟨_, rfl⟩
    rw [hgb] at hK25
    try rw [hgb]
    try simp only [hgb]
    clear hgb hK24
    obtain ⟨x1, x2, x3⟩ := (hK25.front 0 rfl).blkAt
    obtain ⟨y1, y2, y3⟩ := (hK25.front 14 rfl).blkAt
    go_wp2_with fail
    refine (specSameRegister_same xb E10 A3 g10 c3 nd _ (hK25.front 1 rfl).riv (hK25.front 15 rfl).riv (by omega)).mono ?_; rintro e w26 ⟨rfl, hw⟩
    have hK26 := (hK25.keep hw).drop.drop
    clear hw x1 x2 x3 y1 y2 y3 hK25
    go_upto_region 24 with fail
    by_cases hq5 : q5 = 0
    · have HV := Lib.hid (H5.out hq5)
      subst hq5
      obtain ⟨o1, o2, o3, o4, o5⟩ := HV.out
      subst o2
      subst o5
      have KN1 := (fun W (hr : RI W A6 ad.length ad) => NumberOf_any ub A6 c6 ad W hr (by omega))
      have KN2 := (fun W (hr : RI W E7 ud.length ud) (hm : ud.length ≤ 9223372036854775807) => NumberOf_any ub E7 g7 ud W hr hm)
      rw [if_pos o1, if_pos o1] at KN1
      rw [if_pos o3, if_pos o3, o4] at KN2
      obtain ⟨v, hv⟩ : ∃ v, aNum ub ad = v := ⟨_, rfl⟩
      rw [hv] at KN1 KN2
      replace KN1 := Lib.hid KN1
      replace KN2 := Lib.hid KN2
      clear o1 o3 o4 HV hv
      obtain ⟨x1, x2, x3⟩ := (hK26.front 6 rfl).blkAt
      go_wp2_with fail
      refine (KN1.out _ (hK26.front 7 rfl).riv).mono ?_; rintro e w30 ⟨rfl, hw⟩
      have hK30 := hK26.keep hw
      clear hw x1 x2 x3
      obtain ⟨x1, x2, x3⟩ := (hK30.front 4 rfl).blkAt
      go_wp2_with fail
      refine (KN2.out _ (hK30.front 5 rfl).riv (rowLenA (hK30.front 5 rfl))).mono ?_; rintro e w31 ⟨rfl, hw⟩
      have hK31 := hK30.keep hw
      clear hw x1 x2 x3 hK30
      obtain ⟨x1, x2, x3⟩ := (hK31.front 4 rfl).blkAt
      go_upto_region 29 with fail
      clear x1 x2 x3 KN1 KN2
      by_cases hq1 : q1 = 0
      · have HV := Lib.hid (H1.out hq1)
        subst hq1
        obtain ⟨o1, o2, o3⟩ := HV.out
        have KN := (fun W (hr : RI W E1 rd.length rd) (hm : rd.length ≤ 9223372036854775807) => NumberOf_any x E1 g1 rd W hr hm)
        rw [if_pos o2, if_pos o2, o3] at KN
        replace KN := Lib.hid KN
        subst o1
        clear o2 o3 HV
        obtain ⟨x1, x2, x3⟩ := (hK31.front 16 rfl).blkAt
        go_wp2_with fail
        refine (KN.out _ (hK31.front 17 rfl).riv (rowLenA (hK31.front 17 rfl))).mono ?_; rintro e w40 ⟨rfl, hw⟩
        have hK40 := hK31.keep hw
        go_wp2_with fail
        go_ret
        exact ⟨rfl, hK40.below⟩
      · have hq1b : (q1 != 0) = true := by simpa using hq1
        go_wp2_with fail
        go_ret
        exact ⟨rfl, hK31.below⟩
    · have hq5b : (q5 == 0) = false := by simpa using hq5
      go_upto_region 29 with fail
      by_cases hq1 : q1 = 0
      · have HV := Lib.hid (H1.out hq1)
        subst hq1
        obtain ⟨o1, o2, o3⟩ := HV.out
        have KN := (fun W (hr : RI W E1 rd.length rd) (hm : rd.length ≤ 9223372036854775807) => NumberOf_any x E1 g1 rd W hr hm)
        rw [if_pos o2, if_pos o2, o3] at KN
        replace KN := Lib.hid KN
        subst o1
        clear o2 o3 HV
        obtain ⟨x1, x2, x3⟩ := (hK26.front 16 rfl).blkAt
        go_wp2_with fail
        refine (KN.out _ (hK26.front 17 rfl).riv (rowLenA (hK26.front 17 rfl))).mono ?_; rintro e w40 ⟨rfl, hw⟩
        have hK40 := hK26.keep hw
        go_wp2_with fail
        go_ret
        exact ⟨rfl, hK40.below⟩
      · have hq1b : (q1 != 0) = true := by simpa using hq1
        go_wp2_with fail
        go_ret
        exact ⟨rfl, hK26.below⟩
  · have hq3b : (q3 == 0) = false := by simpa using hq3
    go_upto_region 24 with fail
    by_cases hq5 : q5 = 0
    · have HV := Lib.hid (H5.out hq5)
      subst hq5
      obtain ⟨o1, o2, o3, o4, o5⟩ := HV.out
      subst o2
      subst o5
      have KN1 := (fun W (hr : RI W A6 ad.length ad) => NumberOf_any ub A6 c6 ad W hr (by omega))
      have KN2 := (fun W (hr : RI W E7 ud.length ud) (hm : ud.length ≤ 9223372036854775807) => NumberOf_any ub E7 g7 ud W hr hm)
      rw [if_pos o1, if_pos o1] at KN1
      rw [if_pos o3, if_pos o3, o4] at KN2
      obtain ⟨v, hv⟩ : ∃ v, aNum ub ad = v := ⟨_, rfl⟩
      rw [hv] at KN1 KN2
      replace KN1 := Lib.hid KN1
      replace KN2 := Lib.hid KN2
      clear o1 o3 o4 HV hv
      obtain ⟨x1, x2, x3⟩ := (hK21.front 6 rfl).blkAt
      go_wp2_with fail
      refine (KN1.out _ (hK21.front 7 rfl).riv).mono ?_; rintro e w30 ⟨rfl, hw⟩
      have hK30 := hK21.keep hw
      clear hw x1 x2 x3
      obtain ⟨x1, x2, x3⟩ := (hK30.front 4 rfl).blkAt
      go_wp2_with fail
      refine (KN2.out _ (hK30.front 5 rfl).riv (rowLenA (hK30.front 5 rfl))).mono ?_; rintro e w31 ⟨rfl, hw⟩
      have hK31 := hK30.keep hw
      clear hw x1 x2 x3 hK30
      obtain ⟨x1, x2, x3⟩ := (hK31.front 4 rfl).blkAt
      go_upto_region 29 with fail
      clear x1 x2 x3 KN1 KN2
      by_cases hq1 : q1 = 0
      · have HV := Lib.hid (H1.out hq1)
        subst hq1
        obtain ⟨o1, o2, o3⟩ := HV.out
        have KN := (fun W (hr : RI W E1 rd.length rd) (hm : rd.length ≤ 9223372036854775807) => NumberOf_any x E1 g1 rd W hr hm)
        rw [if_pos o2, if_pos o2, o3] at KN
        replace KN := Lib.hid KN
        subst o1
        clear o2 o3 HV
        obtain ⟨x1, x2, x3⟩ := (hK31.front 16 rfl).blkAt
        go_wp2_with fail
        refine (KN.out _ (hK31.front 17 rfl).riv (rowLenA (hK31.front 17 rfl))).mono ?_; rintro e w40 ⟨rfl, hw⟩
        have hK40 := hK31.keep hw
        go_wp2_with fail
        go_ret
        exact ⟨rfl, hK40.below⟩
      · have hq1b : (q1 != 0) = true := by simpa using hq1
        go_wp2_with fail
        go_ret
        exact ⟨rfl, hK31.below⟩
    · have hq5b : (q5 == 0) = false := by simpa using hq5
      go_upto_region 29 with fail
      by_cases hq1 : q1 = 0
      · have HV := Lib.hid (H1.out hq1)
        subst hq1
        obtain ⟨o1, o2, o3⟩ := HV.out
        have KN := (fun W (hr : RI W E1 rd.length rd) (hm : rd.length ≤ 9223372036854775807) => NumberOf_any x E1 g1 rd W hr hm)
        rw [if_pos o2, if_pos o2, o3] at KN
        replace KN := Lib.hid KN
        subst o1
        clear o2 o3 HV
        obtain ⟨x1, x2, x3⟩ := (hK21.front 16 rfl).blkAt
        go_wp2_with fail
        refine (KN.out _ (hK21.front 17 rfl).riv (rowLenA (hK21.front 17 rfl))).mono ?_; rintro e w40 ⟨rfl, hw⟩
        have hK40 := hK21.keep hw
        go_wp2_with fail
        go_ret
        exact ⟨rfl, hK40.below⟩
      · have hq1b : (q1 != 0) = true := by simpa using hq1
        go_wp2_with fail
        go_ret
        exact ⟨rfl, hK21.below⟩
end Go.Proofs.YtcapccadpbiecaaDoor

namespace Go.Proofs.YtcapccadpbiecaaDoor
open Go.RowKit Go.ChangeShapes Go.WideShapes Go.ChangeAt
section
variable {H : Type} {enc : TypeId × Value → H} {w : World} {base : Nat} {spare : Nat → Bool} {held : Bool} {fuel : Nat} {cs : List Value} {x : DataW H × List MemPlace}
theorem cellsU8 : Tryd.prog.cellsOf 5 = 1 := by kernel_rfl
theorem byteV_of (z : Int) (h0 : 0 ≤ z) (h1 : z ≤ 255) : Value.int .u8 z = byteV (UInt8.ofNat z.toNat) := by
  unfold byteV
  congr 1
  rw [UInt8.toNat_ofNat']
  omega
theorem rd_bytes (h : DataW.trod enc Tryd.prog w base spare held fuel 47 cs = some x) : ∃ A n c bs, cs = [.slice A n c] ∧ RB w A n bs ∧ n ≤ 9223372036854775807 := by
  rcases open_ints Tryd.underlying47 Tryd.underlying5 cellsU8 h with ⟨rfl, _⟩ | ⟨a, len, cap, zs, rfl, _, hl, hm, hz, _, hcell, hwf⟩
  · exact ⟨none, 0, 0, [], rfl, ⟨rfl, fun h => absurd h (by omega)⟩, by omega⟩
  · have hlen : len ≤ zs.length := by rw [hz]; split <;> omega
    have hw : ∀ z ∈ zs, 0 ≤ z ∧ z ≤ 255 := fun z hz => by
      have h := hwf z hz
      have h1 : IntKind.u8.min = 0 := by decide
      have h2 : IntKind.u8.max = 255 := by decide
      simp [Lit.wf] at h
      omega
    refine ⟨some a, len, cap, (zs.take len).map (fun z => UInt8.ofNat z.toNat), rfl, ⟨by simp; omega, fun h0 => ⟨a, rfl, ?_, fun j u hu => ?_⟩⟩, by simp only [maxLen] at hm; omega⟩
    · have := World.block_lt_of_cell? w _ (hcell 0 (by omega)); rwa [block_of_add] at this
    · rw [List.getElem?_map, List.getElem?_take] at hu
      split at hu
      · have hj : j < zs.length := by omega
        rw [List.getElem?_eq_getElem hj] at hu
        have hu' : UInt8.ofNat zs[j].toNat = u := by simpa using hu
        obtain ⟨z0, z1⟩ := hw zs[j] (List.getElem_mem _)
        rw [hcell j hj, ← hu', ← byteV_of _ z0 z1]
        simp [List.getD, List.getElem?_eq_getElem hj]
      · simp at hu
end
end Go.Proofs.YtcapccadpbiecaaDoor

namespace Go.Proofs.YtcapccadpbiecaaDoor.fnAccumulators
open Go.ChangeShapes Go.WideShapes Go.ChangeAt Go.RowKit
set_option maxRecDepth 100000 in
theorem contract (H : Type) (enc : TypeId × Value → H) (W : World) (base : Nat) (args : Array Value) (ds gs : List (DataW H)) (before : List MemPlace)
    (hval : ∀ (j : Nat) t v, Tryd.f8.params[j]? = some t → args[j]? = some v → Value.okWide Tryd.prog W .any base t v)
    (hW : DataW.Whole enc Tryd.prog Tryd.f8.params.toList Rows.fnAccumulatorsSpec.vars false W args.toList ds gs before) (hL : laidMetH Tryd.prog Rows.fnAccumulatorsRow.laid W) :
    Calls Tryd.prog 8 args W fun e W' => ∃ v, e = .returned v ∧ Rows.fnAccumulatorsSpec.post enc Tryd.prog Tryd.f8 false true false false W args v W' := by
  have hW' := hW
  obtain ⟨p, q, hA0, hV, rfl, hfz, hnd⟩ := hW
  have hA : DataW.TrodAll enc Tryd.prog W 0 (fun _ => true) true Tryd.f8.params.toList args.toList ds p := hA0
  rw [Tryd.params8] at hA hval
  obtain ⟨v0, vs0, d0, ds0, p0, q0, hargs, rfl, rfl, h0, r0⟩ := trodAll_cons hA
  obtain ⟨rfl, rfl, rfl⟩ := trodAll_nil r0
  obtain rfl : args = #[v0] := by cases args; simp_all
  obtain ⟨rfl, rfl⟩ := trodVars_none hV
  clear hA0
  simp only [List.append_nil] at hW'
  have hlt : ∀ x ∈ p0, x.block < W.heap.size := fun x hx => by
    have := hW'.lt x (by simpa using hx)
    simpa using this
  obtain ⟨Y0A, Y0n, Y0c, rfl⟩ := okWide_slice Tryd.underlying47 (hval 0 _ _ rfl rfl)
  have t0 := h0
  obtain ⟨fuel0, hf0⟩ := h0
  obtain ⟨QA0, Qn0, Qc0, Y0xs, hcs0, hr0, hn0⟩ := rd_bytes hf0
  obtain ⟨rfl, rfl, rfl⟩ : QA0 = Y0A ∧ Qn0 = Y0n ∧ Qc0 = Y0c := by
    have : [Value.slice Y0A Y0n Y0c] = [.slice QA0 Qn0 Qc0] := hcs0
    injection this with this
    injection this with e1 e2 e3
    exact ⟨e1.symm, e2.symm, e3.symm⟩
  have walk : Calls Tryd.prog 8 #[.slice QA0 Qn0 Qc0] W fun e w' => e = .returned (.bool true) ∧ Below W.heap.size W w' :=
    law_Accumulators QA0 Qn0 Qc0 Y0xs W hr0 hn0 (tb_of_laid hL)
  refine walk.mono fun e W' ⟨he, hb⟩ => ?_
  subst he
  have u0 := Below.trod laidOut (by kernel_rfl) (of_decide_eq_true (by kernel_rfl)) t0 hb hlt
  exact ⟨_, rfl, [d0], [], p0 ++ [], [], p0 ++ [], [], by simpa using hW', trodAll_cons_mk (shut_bool Tryd.underlying4 _) trodAll_mk0, (trodAll_cons_mk u0 trodAll_mk0), rfl, hb.frame _, fun h => by cases h⟩
theorem reads (os : Os) {H : Type} (enc : TypeId × Value → H) : ∃ places, DataW.whole enc Tryd.prog ((laidWorld os).forCall (fun _ _ => 0) ⟨#[], #[.slice none 0 0], []⟩).memory Tryd.f8.params.toList Rows.fnAccumulatorsSpec.vars false (#[.slice none 0 0] : Array Value).toList 8 = some ([.nil], [], places) :=
  ⟨[], by kernel_rfl⟩
set_option maxRecDepth 100000 in
theorem lifted (os : Os) (started : os.Started) (H : Type) (enc : TypeId × Value → H) (F : Stop.Interp) :
    ReturnsInHanded {} Tryd.checked os 8 .any ((OpenSpec.ofChange Rows.fnAccumulatorsSpec).preRow enc Tryd.prog Tryd.f8 Rows.fnAccumulatorsRow.domain false Rows.fnAccumulatorsRow.laid) (((OpenSpec.ofChange Rows.fnAccumulatorsSpec).at F).post enc Tryd.prog Tryd.f8 false true false false) := by
  obtain ⟨places, hx⟩ := reads os enc
  refine returnsInHanded_of_row (C := Tryd.checked) (s := OpenSpec.ofChange Rows.fnAccumulatorsSpec) own started (by kernel_rfl) Tryd.func8
    (witness_row_at (enc := enc) (C := Tryd.checked) false (laidWorld os) #[.slice none 0 0] rfl (by kernel_rfl) (by kernel_rfl) (by kernel_rfl)
      (OpenSpec.preRow_of_cond 8 hx (by kernel_rfl) (fun k hk => by cases hk) (by kernel_rfl) (laid_met os _))) ?_
  intro W base args ds gs before hval hW _ _ _ hL _ _
  exact contract H enc W base args ds gs before hval hW hL
theorem said : Rows.FnAccumulatorsSaid :=
  OpenClaim.holds_of_cond 8 Tryd.f8 rfl rfl rfl rfl rfl rfl rfl ⟨rfl, rfl, rfl, rfl, rfl⟩ rfl rfl rfl rfl rfl (by kernel_rfl) Tryd.func8 (by kernel_rfl)
    (of_decide_eq_true (by kernel_rfl)) (by unfold Func.isWrapper; first | (rw [if_pos (by decide +kernel)]; kernel_rfl) | (rw [if_neg (by decide +kernel)]; exact ⟨rfl, rfl⟩))
    (fun os started H enc _ F => by rw [OpenClaim.pre_eq_preRow]; exact lifted os started H enc F)
theorem plain (f : FuncId) (fn : Func) (hf : Tryd.pinned.checked.prog.funcNamed "loop.example/g00930/laws.FnAccumulators" = some f) (hfn : Tryd.pinned.checked.prog.funcs[f]? = some fn) :
    false = Tryd.pinned.checked.prog.looks [] ∧ ∀ (j : Nat) t, fn.params[j]? = some t → Tryd.pinned.checked.prog.wantsStandIn t = false := by
  obtain rfl : f = 8 := Option.some.inj ((show Tryd.prog.funcNamed "loop.example/g00930/laws.FnAccumulators" = some 8 by kernel_rfl).symm.trans hf) |>.symm
  obtain rfl : fn = Tryd.f8 := (Option.some.inj (Tryd.func8.symm.trans hfn)).symm
  refine ⟨by kernel_rfl, fun j t ht => ?_⟩
  rw [Tryd.params8] at ht
  have s0 : Tryd.prog.wantsStandIn 47 = false := by kernel_rfl
  have hm := Array.mem_of_getElem? ht
  obtain rfl : t = 47 := by simpa using hm
  exact s0
/-- THE CARD. -/
theorem card : Rows.FnAccumulatorsCardSaid :=
  Claim7.holds_tied_plain_at .later [] _ _ _ _ said (fun _ h => by cases h) (by kernel_rfl) (fun _ h => by cases h) fnAccumulators_row_tie rfl ⟨rfl, rfl⟩ (by kernel_rfl) rfl plain (by kernel_rfl)
end Go.Proofs.YtcapccadpbiecaaDoor.fnAccumulators
