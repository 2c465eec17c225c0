import Derived.Test.YtmnegfhigfipbaaB2
import Derived.WalkSmall
import Derived.Laws.Bits64b
namespace Go.Proofs.Ytmnegfhigfipbaa
open Go.RowKit Go.Sort
theorem gtrans {w a b : World} {o : Option Nat} (h1 : w.grownBy a o) (h2 : a.grownBy b o) : w.grownBy b o :=
  ⟨h2.os.trans h1.os, h2.tape.trans h1.tape, h2.output.trans h1.output, Nat.le_trans h1.size h2.size, fun k hk hne => (h2.block k (Nat.lt_of_lt_of_le hk h1.size) hne).trans (h1.block k hk hne)⟩
/-- a source of draws at block b, from which at most N draws were taken -/
def Src (w : World) (b N : Nat) : Prop := ∃ (A : Option Addr) (n c k : Nat) (seed : Int) (bs : List UInt8), w.cell? ⟨b, 0, none⟩ = some (.slice A n c) ∧ w.cell? ⟨b, 1, none⟩ = some (.int .i64 (k : Int)) ∧ w.cell? ⟨b, 2, none⟩ = some (.int .u64 seed) ∧
  w.frozen? ⟨b, 1, none⟩ = false ∧ w.frozen? ⟨b, 2, none⟩ = false ∧ RB w A n bs ∧ k ≤ N ∧ n ≤ 9223372036854775807 ∧ (0 < n → ∀ ad, A = some ad → ad.block < b) ∧ b < w.heap.size
theorem low_byte (x : Int) : 0 ≤ wrap64 (bits .and .u64 (IntKind.u64.wrap x / 1099511627776) 255) ∧ wrap64 (bits .and .u64 (IntKind.u64.wrap x / 1099511627776) 255) ≤ 255 := by
  obtain ⟨a, ha, ha2⟩ : ∃ a : Nat, IntKind.u64.wrap x / 1099511627776 = (a : Int) ∧ a < 18446744073709551616 := by
    rw [IntKind.wrap_u64]
    exact ⟨(x % 18446744073709551616 / 1099511627776).toNat, by omega, by omega⟩
  rw [ha]
  have h := bits_and_u64_nat a 255 ha2 (by omega)
  have h2 : a &&& 255 ≤ 255 := Nat.and_le_right
  have h3 : bits .and .u64 (a : Int) 255 = ((a &&& 255 : Nat) : Int) := h
  rw [h3]
  unfold wrap64
  omega
theorem src_step {w : World} {b N k n c : Nat} {A : Option Addr} {seed : Int} {bs : List UInt8} (c0 : w.cell? ⟨b, 0, none⟩ = some (.slice A n c)) (c1 : w.cell? ⟨b, 1, none⟩ = some (.int .i64 (k : Int))) (c2 : w.cell? ⟨b, 2, none⟩ = some (.int .u64 seed))
    (f1 : w.frozen? ⟨b, 1, none⟩ = false) (f2 : w.frozen? ⟨b, 2, none⟩ = false) (hb : RB w A n bs) (hk : k ≤ N) (hn : n ≤ 9223372036854775807) (hne : 0 < n → ∀ ad, A = some ad → ad.block < b) (hlt : b < w.heap.size) (s : Int) :
    Src ((w.setCell ⟨b, 1, none⟩ (.int .i64 ((k : Int) + 1))).setCell ⟨b, 2, none⟩ (.int .u64 s)) b (N + 1) ∧ w.grownBy ((w.setCell ⟨b, 1, none⟩ (.int .i64 ((k : Int) + 1))).setCell ⟨b, 2, none⟩ (.int .u64 s)) (some b) := by
  refine ⟨⟨A, n, c, k + 1, s, bs, by go_simp, by go_simp, by go_simp, by go_simp, by go_simp, ⟨hb.1, fun h0 => ?_⟩, by omega, hn, hne, by simp [World.setCell]; exact hlt⟩, ⟨rfl, rfl, rfl, by simp [World.setCell], fun g _ hg => ?_⟩⟩
  · obtain ⟨ad, e, hl, hc⟩ := hb.2 h0
    refine ⟨ad, e, by simp [World.setCell]; exact hl, fun j u hu => ?_⟩
    have h1 : ad.block ≠ b := Nat.ne_of_lt (hne h0 ad e)
    rw [World.cell?_setCell_far _ _ _ _ (by rw [block_of_add]; exact Ne.symm h1), World.cell?_setCell_far _ _ _ _ (by rw [block_of_add]; exact Ne.symm h1)]
    exact hc j u hu
  · rw [heap_setCell_other _ _ _ _ (fun e => hg (by rw [e])), heap_setCell_other _ _ _ _ (fun e => hg (by rw [e]))]
theorem Src.drewN {w : World} {b N : Nat} (h : Src w b N) (q : Nat) : Src (w.drewN q) b N := h
theorem gDrew {w w' : World} {o : Option Nat} (h : w.grownBy w' o) (q : Nat) : w.grownBy (w'.drewN q) o := ⟨h.os, h.tape, h.output, h.size, h.block⟩
theorem gDrewL {w w' : World} {o : Option Nat} {q : Nat} (h : (w.drewN q).grownBy w' o) : w.grownBy w' o := ⟨h.os, h.tape, h.output, h.size, h.block⟩
set_option maxHeartbeats 1600000 in
theorem next_any (b N : Nat) (w : World) (h : Src w b N) (hN : N ≤ 1000000) :
    Calls Try.prog 88 #[.pointer (some ⟨b, 0, none⟩)] w fun e w' => ∃ x : Int, e = .returned (.int .i64 x) ∧ 0 ≤ x ∧ x ≤ 255 ∧ Src w' b (N + 1) ∧ w.grownBy w' (some b) := by
  obtain ⟨A, n, c, k, seed, bs, c0, c1, c2, f1, f2, hb, hk, hn, hne, hlt⟩ := h
  have HB := Lib.hid hb
  by_cases hkn : k < n
  · obtain ⟨ad, hA, hl, hc⟩ := hb.2 (by omega)
    have hbl : k < bs.length := by have := hb.1; omega
    have hcb := hc k _ (List.getElem?_eq_getElem hbl)
    have hi0 : (0 : Int) ≤ (k : Int) := by omega
    have hi1 : (k : Int) < (n : Int) := by omega
    have hi2 : (k : Int) + 1 ≤ (n : Int) := by omega
    unfold byteV at hcb
    obtain ⟨u, hu⟩ : ∃ u : Nat, u = bs[k].toNat := ⟨_, rfl⟩
    have hu2 : u < 256 := by rw [hu]; exact UInt8.toNat_lt _
    rw [← hu] at hcb
    subst hA
    clear hu hb hc
    go_enter Try.func88, Try.ntmps88
    go_wp2
    go_quiet (fail)
    go_wp2
    go_quiet (fail)
    go_wp2
    go_quiet (fail)
    go_wp2
    go_ret
    refine ⟨_, rfl, by omega, by omega, ?_⟩
    have z := fun q => src_step (w := w.drewN q) c0 c1 c2 f1 f2 HB.out hk hn hne hlt
    exact ⟨(z _ _).1.drewN _, gDrew (gDrewL (z _ _).2) _⟩
  · have hi1 : ¬ (k : Int) < (n : Int) := by omega
    have hi2 : ¬ (k : Int) + 1 ≤ (n : Int) := by omega
    clear hb
    go_enter Try.func88, Try.ntmps88
    go_wp2
    go_quiet (fail)
    go_wp2
    go_quiet (fail)
    go_wp2
    go_ret
    obtain ⟨q1, q2⟩ := low_byte (IntKind.u64.wrap (IntKind.u64.wrap (seed * 6364136223846793005)) + 1442695040888963407)
    refine ⟨_, rfl, q1, q2, ?_⟩
    have z := fun q => src_step (w := w.drewN q) c0 c1 c2 f1 f2 HB.out hk hn hne hlt
    exact ⟨(z _ _).1.drewN _, gDrew (gDrewL (z _ _).2) _⟩
theorem Src.keep {w w' : World} {b N : Nat} (h : Src w b N) (hs : w.heap.size ≤ w'.heap.size) (hk : ∀ k, k ≤ b → w'.heap[k]? = w.heap[k]?) : Src w' b N := by
  obtain ⟨A, n, c, k, seed, bs, c0, c1, c2, f1, f2, hb, hkN, hn, hne, hlt⟩ := h
  have hcell : ∀ o, w'.cell? ⟨b, o, none⟩ = w.cell? ⟨b, o, none⟩ := fun o => World.cell?_of_block (hk b (Nat.le_refl _))
  have hfz : ∀ o, w'.frozen? ⟨b, o, none⟩ = w.frozen? ⟨b, o, none⟩ := fun o => World.frozen?_of_block (hk b (Nat.le_refl _))
  refine ⟨A, n, c, k, seed, bs, by rw [hcell]; exact c0, by rw [hcell]; exact c1, by rw [hcell]; exact c2, by rw [hfz]; exact f1, by rw [hfz]; exact f2, ⟨hb.1, fun h0 => ?_⟩, hkN, hn, hne, Nat.lt_of_lt_of_le hlt hs⟩
  obtain ⟨ad, e, hl, hc⟩ := hb.2 h0
  refine ⟨ad, e, Nat.lt_of_lt_of_le hl hs, fun j u hu => ?_⟩
  rw [World.cell?_of_block (w := w) (by rw [block_of_add]; exact hk _ (Nat.le_of_lt (hne h0 ad e)))]
  exact hc j u hu
theorem Src.mono {w : World} {b N M : Nat} (h : Src w b N) (hm : N ≤ M) : Src w b M := by
  obtain ⟨A, n, c, k, seed, bs, c0, c1, c2, f1, f2, hb, hkN, hr⟩ := h
  exact ⟨A, n, c, k, seed, bs, c0, c1, c2, f1, f2, hb, by omega, hr⟩
theorem Src.lt {w : World} {b N : Nat} (h : Src w b N) : b < w.heap.size := by
  obtain ⟨A, n, c, k, seed, bs, c0, c1, c2, f1, f2, hb, hkN, hn, hne, hlt⟩ := h
  exact hlt
theorem gRefl (w : World) (o : Option Nat) : w.grownBy w o := ⟨rfl, rfl, rfl, Nat.le_refl _, fun _ _ _ => rfl⟩
theorem gMore {w a c : World} {o o2 : Option Nat} (h1 : w.grownBy a o) (h2 : a.grownBy c o2) (ho : ∀ k, o2 = some k → w.heap.size ≤ k) : w.grownBy c o :=
  ⟨h2.os.trans h1.os, h2.tape.trans h1.tape, h2.output.trans h1.output, Nat.le_trans h1.size h2.size, fun k hk hne => (h2.block k (Nat.lt_of_lt_of_le hk h1.size) (fun e => by have := ho k e.symm; omega)).trans (h1.block k hk hne)⟩
theorem gBelow {w a c : World} {o : Option Nat} (h1 : w.grownBy a o) (h2 : Below a.heap.size a c) : w.grownBy c o :=
  ⟨h2.os.trans h1.os, h2.tape.trans h1.tape, h2.output.trans h1.output, Nat.le_trans h1.size h2.size, fun k hk hne => (h2.block k (Nat.lt_of_lt_of_le hk h1.size)).trans (h1.block k hk hne)⟩
theorem ofBelow {w c : World} (h2 : Below w.heap.size w c) (o : Option Nat) : w.grownBy c o := gBelow (gRefl w o) h2
/-- from a source's own block on, everything is new -/
theorem belowG {B b : Nat} {a w c : World} (h : Below B a w) (h2 : w.grownBy c (some b)) (hb : B ≤ b) (hs : B ≤ w.heap.size) : Below B a c :=
  h.grown h2 hs (fun k hk => by injection hk with hk; omega)
theorem Src.below {w w' : World} {b N : Nat} (h : Src w b N) (hb : Below w.heap.size w w') : Src w' b N := h.keep hb.size (fun k hk => hb.block k (Nat.lt_of_le_of_lt hk h.lt))
theorem OwnI.grown {w w' : World} {base b : Nat} {v : Value} {ds : List Int} (h : OwnI w base v ds) (hg : w.grownBy w' (some b)) (hb : b < base) : OwnI w' base v ds := by
  refine ⟨h.1, ?_⟩
  rcases h.2 with hn | ⟨g, cap, cur, rfl, hbg, hc, rest⟩
  · exact .inl hn
  · exact .inr ⟨g, cap, cur, rfl, hbg, by rw [hg.block g (Array.getElem?_eq_some_iff.1 hc).1 (fun e => by injection e with e; omega)]; exact hc, rest⟩
theorem ownI_lo {w : World} {base : Nat} {v : Value} {ds : List Int} (h : OwnI w base v ds) : ∀ k, v.ownBlock = some k → base ≤ k := by
  intro k hk
  rcases h.2 with ⟨rfl, -⟩ | ⟨g, cap, cur, rfl, hb, -⟩
  · simp [Value.ownBlock] at hk
  · simp only [Value.ownBlock, Option.some.injEq] at hk; omega
set_option maxHeartbeats 1600000 in
theorem pick_any (b N : Nat) (n : Int) (w : World) (h : Src w b N) (hN : N ≤ 999999) :
    Calls Try.prog 62 #[.pointer (some ⟨b, 0, none⟩), .int .i64 n] w fun e w' => ∃ x : Int, e = .returned (.int .i64 x) ∧ 0 ≤ x ∧ (x < n ∨ (n ≤ 1 ∧ x = 0)) ∧ Src w' b (N + 2) ∧ w.grownBy w' (some b) := by
  have H := Lib.hid h; clear h
  by_cases h1 : n ≤ 1
  · go_enter Try.func62, Try.ntmps62
    go_wp2
    go_ret
    exact ⟨0, rfl, by omega, .inr ⟨h1, rfl⟩, H.out.mono (by omega), gRefl _ _⟩
  · by_cases h2 : 200 < n
    · go_enter Try.func62, Try.ntmps62
      go_wp2_with fail
      refine (next_any b N w H.out (by omega)).mono ?_; rintro e w1 ⟨x, rfl, x0, x1, hs1, hg1⟩
      have HS1 := Lib.hid hs1; clear hs1
      have HG1 := Lib.hid hg1; clear hg1
      go_wp2_with fail
      refine (next_any b (N + 1) w1 HS1.out (by omega)).mono ?_; rintro e w2 ⟨y, rfl, y0, y1, hs2, hg2⟩
      have HS2 := Lib.hid hs2; clear hs2
      have HG2 := Lib.hid (gtrans HG1.out hg2); clear hg2
      go_wp2
      go_ret
      exact ⟨_, rfl, Int.emod_nonneg _ (by omega), .inl (Int.emod_lt_of_pos _ (by omega)), HS2.out, HG2.out⟩
    · go_enter Try.func62, Try.ntmps62
      go_wp2_with fail
      refine (next_any b N w H.out (by omega)).mono ?_; rintro e w1 ⟨x, rfl, x0, x1, hs1, hg1⟩
      have HS1 := Lib.hid hs1; clear hs1
      have HG1 := Lib.hid hg1; clear hg1
      go_wp2
      go_ret
      exact ⟨_, rfl, Int.emod_nonneg _ (by omega), .inl (Int.emod_lt_of_pos _ (by omega)), HS1.out.mono (by omega), HG1.out⟩
set_option maxHeartbeats 800000 in
theorem one_any (b N : Nat) (n : Int) (w : World) (h : Src w b N) (hN : N ≤ 999999) :
    Calls Try.prog 63 #[.pointer (some ⟨b, 0, none⟩), .int .i64 n] w fun e w' => ∃ x : Bool, e = .returned (.bool x) ∧ Src w' b (N + 2) ∧ w.grownBy w' (some b) := by
  have H := Lib.hid h; clear h
  go_enter Try.func63, Try.ntmps63
  go_wp2_with fail
  refine (pick_any b N n w H.out hN).mono ?_; rintro e w1 ⟨x, rfl, x0, -, hs1, hg1⟩
  have HS1 := Lib.hid hs1; clear hs1
  have HG1 := Lib.hid hg1; clear hg1
  go_wp2
  go_ret
  exact ⟨_, rfl, HS1.out, HG1.out⟩
set_option maxHeartbeats 800000 in
theorem among_any (b N : Nat) (A : Option Addr) (n c : Nat) (ds : List Int) (w : World) (h : Src w b N) (hN : N ≤ 999999) (hr : RI w A n ds) (hA : ∀ ad, A = some ad → ad.block ≠ b) (hn0 : 0 < n) (hn : n ≤ 1000000) :
    Calls Try.prog 61 #[.pointer (some ⟨b, 0, none⟩), .slice A n c] w fun e w' => ∃ x : Int, e = .returned (.int .i64 x) ∧ x ∈ ds ∧ Src w' b (N + 2) ∧ w.grownBy w' (some b) := by
  have H := Lib.hid h; clear h
  go_enter Try.func61, Try.ntmps61
  go_wp2_with fail
  refine (pick_any b N n w H.out hN).mono ?_; rintro e w1 ⟨x, rfl, x0, xn, hs1, hg1⟩
  have HS1 := Lib.hid hs1; clear hs1
  have HG1 := Lib.hid hg1; clear hg1
  obtain ⟨j, rfl⟩ : ∃ j : Nat, x = j := ⟨x.toNat, by omega⟩
  have hjn : j < n := by omega
  obtain ⟨ad, hAd, hlt, hjl, hc⟩ := hr.at_ hjn
  have hc2 : w1.cell? (ad.add j) = some (.int .i64 ds[j]) := by
    rw [World.cell?_of_block (w := w) (by rw [block_of_add]; exact HG1.out.block _ hlt (fun e => by injection e with e; exact hA ad hAd e))]; exact hc
  have hi1 : (j : Int) < (n : Int) := by omega
  have HM := Lib.hid (List.getElem_mem hjl)
  subst hAd
  clear hc xn
  go_wp2
  go_ret
  exact ⟨_, rfl, HM.out, HS1.out, HG1.out⟩
set_option maxHeartbeats 800000 in
theorem l00From_any (A : Option Addr) (n c : Nat) (bs : List UInt8) (w : World) (hb : RB w A n bs) (hn : n ≤ 9223372036854775807) :
    Calls Try.prog 39 #[.slice A n c] w fun e w' => e = .returned (.pointer (some ⟨w.heap.size, 0, none⟩)) ∧ Src w' w.heap.size 0 ∧ Below w.heap.size w w' := by
  have HB := Lib.hid hb; clear hb
  go_enter Try.func39, Try.ntmps39
  go_wp2
  go_ret
  have hba : Below w.heap.size w (w.alloc (.cells #[.slice A n c, .int .i64 0, .int .u64 0] 98)) := (Below.refl _ _).alloc (Nat.le_refl _) _
  exact ⟨rfl, ⟨A, n, c, 0, 0, bs, by go_simp, by go_simp, by go_simp, by go_simp, by go_simp, HB.out.below hba, Nat.le_refl _, hn, (fun h0 ad e => by obtain ⟨ad', e', hl, -⟩ := HB.out.2 h0; rw [e] at e'; injection e' with e'; rw [e']; exact hl), by simp⟩, hba⟩
set_option maxRecDepth 100000 in
set_option maxHeartbeats 1600000 in
theorem l02DrawDigits_any (b N : Nat) (base : Int) (width : Nat) (w : World) (h : Src w b N) (hN : N + width * 4 ≤ 900000) (hb2 : 2 ≤ base) (hb16 : base ≤ 1000) (hw : width ≤ 1000) :
    Calls Try.prog 65 #[.pointer (some ⟨b, 0, none⟩), .int .i64 base, .int .i64 width] w fun e w' => ∃ A c ds, e = .returned (.slice A width c) ∧ OwnI w' w.heap.size (.slice A width c) ds ∧ ds.length = width ∧ (∀ d ∈ ds, 0 ≤ d ∧ d < base) ∧ Src w' b (N + width * 4) ∧ w.grownBy w' (some b) := by
  have H := Lib.hid h
  have hlt := h.lt
  clear h
  go_enter Try.func65, Try.ntmps65
  go_wp2_with fail
  go_loopw [8, 7] (fun kk out wr => ∃ (k : Nat) (ds : List Int), k ≤ width ∧ kk = .int .i64 k ∧ OwnI wr w.heap.size out ds ∧ ds.length = k ∧ (∀ d ∈ ds, 0 ≤ d ∧ d < base) ∧ Src wr b (N + k * 4) ∧ w.grownBy wr (some b)) (fun kk _ _ => width - (intOf kk).toNat)
  case atStart =>
    have hba : Below w.heap.size w (w.alloc (.cells #[] 2)) := (Below.refl _ _).alloc (Nat.le_refl _) _
    exact ⟨0, [], Nat.zero_le _, rfl, ⟨rfl, .inr ⟨w.heap.size, 0, #[], rfl, Nat.le_refl _, heap_alloc_new _ _, Nat.le_refl _, by decide, rfl, rfl⟩⟩, rfl, (fun d hd => by cases hd), by simpa using H.out.below hba, ofBelow hba _⟩
  case round =>
    obtain ⟨k, ds, hk, rfl, hown, hlen, hds, hsr, hg⟩ := hrel
    have HO := Lib.hid hown
    have HD := Lib.hid hds
    have HS := Lib.hid hsr
    have HG := Lib.hid hg
    have HL := Lib.hid hlen
    have hwz := hg.size
    clear hown hds hsr hg hlen
    by_cases hkn : k < width
    · have hi1 : (k : Int) < (width : Int) := by omega
      go_wp2_with fail
      refine (pick_any b _ base wr HS.out (by omega)).mono ?_; rintro e w1 ⟨x, rfl, x0, xn, hs1, hg1⟩
      have HS1 := Lib.hid hs1
      have HG1 := Lib.hid (gtrans HG.out hg1)
      have HO1 := Lib.hid (HO.out.grown hg1 hlt)
      have hz1 := hg1.size
      have hxb : x < base := by omega
      clear hs1 hg1 xn
      go_wp2_with fail
      refine (one_any b _ 3 w1 HS1.out (by omega)).mono ?_; rintro e w2 ⟨y, rfl, hs2, hg2⟩
      have HS2 := Lib.hid hs2
      have HG2 := Lib.hid (gtrans HG1.out hg2)
      have HO2 := Lib.hid (HO1.out.grown hg2 hlt)
      have hz2 := hg2.size
      have hlen := HL.out
      clear hs2 hg2
      cases y
      · have HOB := Lib.hid (HO2.out.below ((Below.refl _ _).alloc (Nat.le_refl _) (.cells #[.int .i64 x] 2)))
        have hgb := gBelow HG2.out ((Below.refl _ _).alloc (Nat.le_refl _) (.cells #[.int .i64 x] 2))
        have hsb := HS2.out.below ((Below.refl _ _).alloc (Nat.le_refl _) (.cells #[.int .i64 x] 2))
        have HGB := Lib.hid hgb; clear hgb
        have HSB := Lib.hid hsb; clear hsb
        go_wp2_with (at_builtin; refine app1I rfl _ _ rfl w.heap.size _ ds rfl HOB.out w2.heap.size x rfl (heap_alloc_new _ _) (by omega) (by simp; omega) ?_; intro v5 w6 hown5 hg5 hv5)
        have hlo := ownI_lo HOB.out
        have HGF := Lib.hid (gMore HGB.out hg5 hlo)
        have HSF := Lib.hid ((HSB.out.keep hg5.size (fun k hk => hg5.block k (by simp; omega) (fun e => by have := hlo k e.symm; omega))).mono (show N + k * 4 + 2 + 2 ≤ N + (k + 1) * 4 by omega))
        have HOF := Lib.hid hown5; clear hown5
        go_roundw
        case rel => exact ⟨k + 1, ds ++ [x], by omega, by go_num, HOF.out, by rw [List.length_append, HL.out]; rfl, fun d hd => by
          rcases List.mem_append.1 hd with hd | hd
          · exact HD.out d hd
          · rw [List.mem_singleton.1 hd]; omega, HSF.out, HGF.out⟩
        case measure => simp [intOf]; omega
      · have HOB := Lib.hid (HO2.out.below ((Below.refl _ _).alloc (Nat.le_refl _) (.cells #[.int .i64 (base - 1)] 2)))
        have hgb := gBelow HG2.out ((Below.refl _ _).alloc (Nat.le_refl _) (.cells #[.int .i64 (base - 1)] 2))
        have hsb := HS2.out.below ((Below.refl _ _).alloc (Nat.le_refl _) (.cells #[.int .i64 (base - 1)] 2))
        have HGB := Lib.hid hgb; clear hgb
        have HSB := Lib.hid hsb; clear hsb
        go_wp2_with (at_builtin; refine app1I rfl _ _ rfl w.heap.size _ ds rfl HOB.out w2.heap.size (base - 1) rfl (heap_alloc_new _ _) (by omega) (by simp; omega) ?_; intro v5 w6 hown5 hg5 hv5)
        have hlo := ownI_lo HOB.out
        have HGF := Lib.hid (gMore HGB.out hg5 hlo)
        have HSF := Lib.hid ((HSB.out.keep hg5.size (fun k hk => hg5.block k (by simp; omega) (fun e => by have := hlo k e.symm; omega))).mono (show N + k * 4 + 2 + 2 ≤ N + (k + 1) * 4 by omega))
        have HOF := Lib.hid hown5; clear hown5
        go_roundw
        case rel => exact ⟨k + 1, ds ++ [(base - 1)], by omega, by go_num, HOF.out, by rw [List.length_append, HL.out]; rfl, fun d hd => by
          rcases List.mem_append.1 hd with hd | hd
          · exact HD.out d hd
          · rw [List.mem_singleton.1 hd]; omega, HSF.out, HGF.out⟩
        case measure => simp [intOf]; omega
    · have HK : Hid (k = width) := by simp only [Hid]; omega
      obtain ⟨AO, cO, rfl, -⟩ := HO.out.reads
      have HE : Hid (ds.length = width) := by simp only [Hid]; have := HL.out; have := HK.out; omega
      have HOW : Hid (OwnI wr w.heap.size (.slice AO width cO) ds) := by have h := HO.out; rw [HE.out] at h; exact h
      have HSF : Hid (Src wr b (N + width * 4)) := HS.out.mono (by have := HK.out; omega)
      rw [HE.out]
      go_wp2
      go_ret
      exact ⟨AO, cO, ds, rfl, HOW.out, HE.out, HD.out, HSF.out, HG.out⟩
end Go.Proofs.Ytmnegfhigfipbaa
