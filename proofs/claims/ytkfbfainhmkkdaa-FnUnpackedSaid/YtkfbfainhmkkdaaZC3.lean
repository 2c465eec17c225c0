/- Part 3: lemmas and contracts of the claim's functions. -/
import Derived.Test.YtkfbfainhmkkdaaZC1
import Derived.Test.YtkfbfainhmkkdaaZC2
import Derived.WalkSmall
import Derived.Laws.Bits64b
namespace Go.Proofs.Ytkfbfainhmkkdaa
open Go.RowKit Go.Sort
theorem MB.congr {w0 w : World} {g : Nat} {rest : List Value} {T : TypeId} {k k' : Tri} {m : List Ent} (h : MB w0 g rest T k m w) (e : k = k') : MB w0 g rest T k' m w := e ▸ h
theorem l10ShiftM {w0 : World} {m : List Ent} {rest : List Value} {T : TypeId} {g : Nat} (t : Tri) (k by_ : Int) (w : World) (hM : MB w0 g rest T t m w) (hv : vmach t = true) (hb : (k = 3 ∧ by_ = 1) ∨ (k = 4 ∧ by_ = -1)) :
    Calls Try.prog 175 #[.pointer (some ⟨g, 0, none⟩), .int .i64 by_] w fun e w' => e = .returned (.bool (strokeT k t).2) ∧ MB w0 g rest T (strokeT k t).1 m w' := by
  obtain ⟨A1, c1, A2, c2, A3, c3, hK⟩ := hM
  obtain ⟨-, -, -, -, -, -, -, -, p0, p1⟩ := vmach_all hv
  refine (l10ShiftK t A1 A2 A3 c1 c2 c3 by_ w hK hv (by omega)).mono ?_
  rintro e w' ⟨h1, h2⟩
  rcases hbt : betB (t.carry + by_) 0 (vplaces t - 1) with _ | _
  · obtain ⟨rfl, hK'⟩ := h2 hbt
    have := betB_false.1 hbt
    have hs : strokeT k t = (t, true) := by
      rcases hb with ⟨rfl, rfl⟩ | ⟨rfl, rfl⟩
      · unfold strokeT; rw [if_neg (by decide), if_neg (by decide), if_pos rfl, if_pos (by omega)]
      · unfold strokeT; rw [if_neg (by decide), if_neg (by decide), if_neg (by decide), if_pos rfl, if_pos (by omega)]
    rw [hs]
    exact ⟨rfl, A1, c1, A2, c2, A3, c3, hK'⟩
  · obtain ⟨rfl, hK'⟩ := h1 hbt
    have := betB_iff.1 hbt
    have hs : strokeT k t = ({ t with carry := t.carry + by_ }, false) := by
      rcases hb with ⟨rfl, rfl⟩ | ⟨rfl, rfl⟩
      · unfold strokeT; rw [if_neg (by decide), if_neg (by decide), if_pos rfl, if_neg (by omega)]
      · unfold strokeT; rw [if_neg (by decide), if_neg (by decide), if_neg (by decide), if_pos rfl, if_neg (by omega)]; rfl
    rw [hs]
    exact ⟨rfl, A1, c1, A2, c2, A3, c3, hK'⟩
set_option maxRecDepth 100000 in
set_option maxHeartbeats 1600000 in
theorem l10DoK {w0 : World} {m : List Ent} {rest : List Value} {T : TypeId} {g : Nat} (t : Tri) (k : Int) (w : World) (hM : MB w0 g rest T t m w) (hv : vmach t = true) (hk : 1 ≤ k ∧ k ≤ 6) :
    Calls Try.prog 166 #[.pointer (some ⟨g, 0, none⟩), .int .i64 k] w fun e w' => e = .returned (.bool (strokeT k t).2) ∧ MB w0 g rest T (strokeT k t).1 m w' := by
  have hk' : k = 1 ∨ k = 2 ∨ k = 3 ∨ k = 4 ∨ k = 5 ∨ k = 6 := by omega
  clear hk
  rcases hk' with rfl | rfl | rfl | rfl | rfl | rfl
  · have KT := Lib.hid (l10TurnK t 1 w hM hv (.inl rfl))
    obtain ⟨r, hr⟩ : ∃ r, strokeT 1 t = r := ⟨_, rfl⟩
    have HR := Lib.hid (show turnT t 1 = r by rw [← hr]; rfl)
    rw [hr]
    clear hr hM hv
    go_enter Try.func166, Try.ntmps166
    go_wp2_with (go_at_call 174; refine KT.out.mono ?_; rw [HR.out]; rintro e w' ⟨rfl, hM⟩)
    go_ret
    exact ⟨rfl, hM⟩
  · have KT := Lib.hid (l10TurnK t (-1) w hM hv (.inr rfl))
    obtain ⟨r, hr⟩ : ∃ r, strokeT 2 t = r := ⟨_, rfl⟩
    have HR := Lib.hid (show turnT t (-1) = r by rw [← hr]; rfl)
    rw [hr]
    clear hr hM hv
    go_enter Try.func166, Try.ntmps166
    go_wp2_with (go_at_call 174; refine KT.out.mono ?_; rw [HR.out]; rintro e w' ⟨rfl, hM⟩)
    go_ret
    exact ⟨rfl, hM⟩
  · have KT := (l10ShiftM t 3 1 w hM hv (.inl ⟨rfl, rfl⟩))
    obtain ⟨r, hr⟩ : ∃ r, strokeT 3 t = r := ⟨_, rfl⟩
    rw [hr] at KT ⊢
    have KT := Lib.hid KT
    clear hr hM hv
    go_enter Try.func166, Try.ntmps166
    go_wp2_with (go_at_call 175; refine KT.out.mono ?_; rintro e w' ⟨rfl, hM⟩)
    go_ret
    exact ⟨rfl, hM⟩
  · have KT := (l10ShiftM t 4 (-1) w hM hv (.inr ⟨rfl, rfl⟩))
    obtain ⟨r, hr⟩ : ∃ r, strokeT 4 t = r := ⟨_, rfl⟩
    rw [hr] at KT ⊢
    have KT := Lib.hid KT
    clear hr hM hv
    go_enter Try.func166, Try.ntmps166
    go_wp2_with (go_at_call 175; refine KT.out.mono ?_; rintro e w' ⟨rfl, hM⟩)
    go_ret
    exact ⟨rfl, hM⟩
  · obtain ⟨k1, k2, k3, -⟩ := vmach_all hv
    obtain ⟨-, ⟨n3, n4⟩, -, -⟩ := vreg_iff.1 k2
    obtain ⟨-, ⟨n5, n6⟩, -, -⟩ := vreg_iff.1 k3
    have hS : strokeT 5 t = (⟨t.a, ⟨t.b.base, List.replicate t.b.digits.length 0⟩, ⟨t.s.base, List.replicate t.s.digits.length 0⟩, t.carry⟩, false) := by unfold strokeT; simp [digD_zero]
    rw [hS]
    obtain ⟨A1, c1, A2, c2, A3, c3, hK⟩ := hM
    clear hS hv k1 k2 k3
    obtain ⟨a1, a2, a3⟩ := hK.blkAt
    go_enter Try.func166, Try.ntmps166
    go_wp2_with fail
    refine (l10ZeroK (cs := (.int .i64 t.a.base :: .slice A1 t.a.digits.length c1 :: .int .i64 t.b.base :: .slice A2 t.b.digits.length c2 :: .int .i64 t.s.base :: .slice A3 t.s.digits.length c3 :: .int .i64 t.carry :: rest)) (o := 2) A2 c2 t.b.digits w hK.sw2 rfl (by omega) (by omega)).mono ?_; rintro e w1 ⟨rfl, hK1⟩
    go_wp2_with fail
    refine (l10ZeroK (cs := (.int .i64 t.a.base :: .slice A1 t.a.digits.length c1 :: .int .i64 t.b.base :: .slice A2 t.b.digits.length c2 :: .int .i64 t.s.base :: .slice A3 t.s.digits.length c3 :: .int .i64 t.carry :: rest)) (o := 4) A3 c3 t.s.digits w1 (hK1.sw1.sw2) rfl (by omega) (by omega)).mono ?_; rintro e w2 ⟨rfl, hK2⟩
    go_wp2_with fail
    go_ret
    refine ⟨rfl, A1, c1, A2, c2, A3, c3, ?_⟩
    simp only [List.length_replicate]
    exact hK2.sw1
  · obtain ⟨k1, k2, k3, -⟩ := vmach_all hv
    obtain ⟨-, ⟨n1, n2⟩, -, -⟩ := vreg_iff.1 k1
    have hS : strokeT 6 t = ({ t with a := ⟨t.a.base, List.replicate t.a.digits.length 0⟩ }, false) := by unfold strokeT; simp [digD_zero]
    rw [hS]
    obtain ⟨A1, c1, A2, c2, A3, c3, hK⟩ := hM
    clear hS hv k1 k2 k3
    go_enter Try.func166, Try.ntmps166
    go_wp2_with fail
    refine (l10ZeroK (cs := (.int .i64 t.a.base :: .slice A1 t.a.digits.length c1 :: .int .i64 t.b.base :: .slice A2 t.b.digits.length c2 :: .int .i64 t.s.base :: .slice A3 t.s.digits.length c3 :: .int .i64 t.carry :: rest)) (o := 0) A1 c1 t.a.digits w hK.sw3 rfl (by omega) (by omega)).mono ?_; rintro e w1 ⟨rfl, hK1⟩
    go_wp2_with fail
    go_ret
    refine ⟨rfl, A1, c1, A2, c2, A3, c3, ?_⟩
    simp only [List.length_replicate]
    exact hK1.sw3.sw3.sw3
end Go.Proofs.Ytkfbfainhmkkdaa

namespace Go.Proofs.Ytkfbfainhmkkdaa
open Go.RowKit Go.Sort
theorem gtrans {w a b : World} {o : Option Nat} (h1 : w.grownBy a o) (h2 : a.grownBy b o) : w.grownBy b o :=
  ⟨h2.os.trans h1.os, h2.tape.trans h1.tape, h2.output.trans h1.output, Nat.le_trans h1.size h2.size, fun k hk hne => (h2.block k (Nat.lt_of_lt_of_le hk h1.size) hne).trans (h1.block k hk hne)⟩
/-- a source of draws at block b, from which at most N draws were taken -/
def Src (w : World) (b N : Nat) : Prop := ∃ (A : Option Addr) (n c k : Nat) (seed : Int) (bs : List UInt8), w.cell? ⟨b, 0, none⟩ = some (.slice A n c) ∧ w.cell? ⟨b, 1, none⟩ = some (.int .i64 (k : Int)) ∧ w.cell? ⟨b, 2, none⟩ = some (.int .u64 seed) ∧
  w.frozen? ⟨b, 1, none⟩ = false ∧ w.frozen? ⟨b, 2, none⟩ = false ∧ RB w A n bs ∧ k ≤ N ∧ n ≤ 9223372036854775807 ∧ (0 < n → ∀ ad, A = some ad → ad.block < b) ∧ b < w.heap.size
theorem low_byte (x : Int) : 0 ≤ wrap64 (bits .and .u64 (IntKind.u64.wrap x / 1099511627776) 255) ∧ wrap64 (bits .and .u64 (IntKind.u64.wrap x / 1099511627776) 255) ≤ 255 := by
  obtain ⟨a, ha, ha2⟩ : ∃ a : Nat, IntKind.u64.wrap x / 1099511627776 = (a : Int) ∧ a < 18446744073709551616 := by
    rw [IntKind.wrap_u64]
    exact ⟨(x % 18446744073709551616 / 1099511627776).toNat, by omega, by omega⟩
  rw [ha]
  have h := bits_and_u64_nat a 255 ha2 (by omega)
  have h2 : a &&& 255 ≤ 255 := Nat.and_le_right
  have h3 : bits .and .u64 (a : Int) 255 = ((a &&& 255 : Nat) : Int) := h
  rw [h3]
  unfold wrap64
  omega
theorem src_step {w : World} {b N k n c : Nat} {A : Option Addr} {seed : Int} {bs : List UInt8} (c0 : w.cell? ⟨b, 0, none⟩ = some (.slice A n c)) (c1 : w.cell? ⟨b, 1, none⟩ = some (.int .i64 (k : Int))) (c2 : w.cell? ⟨b, 2, none⟩ = some (.int .u64 seed))
    (f1 : w.frozen? ⟨b, 1, none⟩ = false) (f2 : w.frozen? ⟨b, 2, none⟩ = false) (hb : RB w A n bs) (hk : k ≤ N) (hn : n ≤ 9223372036854775807) (hne : 0 < n → ∀ ad, A = some ad → ad.block < b) (hlt : b < w.heap.size) (s : Int) :
    Src ((w.setCell ⟨b, 1, none⟩ (.int .i64 ((k : Int) + 1))).setCell ⟨b, 2, none⟩ (.int .u64 s)) b (N + 1) ∧ w.grownBy ((w.setCell ⟨b, 1, none⟩ (.int .i64 ((k : Int) + 1))).setCell ⟨b, 2, none⟩ (.int .u64 s)) (some b) := by
  refine ⟨⟨A, n, c, k + 1, s, bs, by go_simp, by go_simp, by go_simp, by go_simp, by go_simp, ⟨hb.1, fun h0 => ?_⟩, by omega, hn, hne, by simp [World.setCell]; exact hlt⟩, ⟨rfl, rfl, rfl, by simp [World.setCell], fun g _ hg => ?_⟩⟩
  · obtain ⟨ad, e, hl, hc⟩ := hb.2 h0
    refine ⟨ad, e, by simp [World.setCell]; exact hl, fun j u hu => ?_⟩
    have h1 : ad.block ≠ b := Nat.ne_of_lt (hne h0 ad e)
    rw [World.cell?_setCell_far _ _ _ _ (by rw [block_of_add]; exact Ne.symm h1), World.cell?_setCell_far _ _ _ _ (by rw [block_of_add]; exact Ne.symm h1)]
    exact hc j u hu
  · rw [heap_setCell_other _ _ _ _ (fun e => hg (by rw [e])), heap_setCell_other _ _ _ _ (fun e => hg (by rw [e]))]
theorem Src.drewN {w : World} {b N : Nat} (h : Src w b N) (q : Nat) : Src (w.drewN q) b N := h
theorem gDrew {w w' : World} {o : Option Nat} (h : w.grownBy w' o) (q : Nat) : w.grownBy (w'.drewN q) o := ⟨h.os, h.tape, h.output, h.size, h.block⟩
theorem gDrewL {w w' : World} {o : Option Nat} {q : Nat} (h : (w.drewN q).grownBy w' o) : w.grownBy w' o := ⟨h.os, h.tape, h.output, h.size, h.block⟩
set_option maxHeartbeats 1600000 in
theorem srcNext_any (b N : Nat) (w : World) (h : Src w b N) (hN : N ≤ 1000000) :
    Calls Try.prog 138 #[.pointer (some ⟨b, 0, none⟩)] w fun e w' => ∃ x : Int, e = .returned (.int .i64 x) ∧ 0 ≤ x ∧ x ≤ 255 ∧ Src w' b (N + 1) ∧ w.grownBy w' (some b) := by
  obtain ⟨A, n, c, k, seed, bs, c0, c1, c2, f1, f2, hb, hk, hn, hne, hlt⟩ := h
  have HB := Lib.hid hb
  by_cases hkn : k < n
  · obtain ⟨ad, hA, hl, hc⟩ := hb.2 (by omega)
    have hbl : k < bs.length := by have := hb.1; omega
    have hcb := hc k _ (List.getElem?_eq_getElem hbl)
    have hi0 : (0 : Int) ≤ (k : Int) := by omega
    have hi1 : (k : Int) < (n : Int) := by omega
    have hi2 : (k : Int) + 1 ≤ (n : Int) := by omega
    unfold byteV at hcb
    obtain ⟨u, hu⟩ : ∃ u : Nat, u = bs[k].toNat := ⟨_, rfl⟩
    have hu2 : u < 256 := by rw [hu]; exact UInt8.toNat_lt _
    rw [← hu] at hcb
    subst hA
    clear hu hb hc
    go_enter Try.func138, Try.ntmps138
    go_wp2
    go_quiet (fail)
    go_wp2
    go_quiet (fail)
    go_wp2
    go_quiet (fail)
    go_wp2
    go_ret
    refine ⟨_, rfl, by omega, by omega, ?_⟩
    have z := fun q => src_step (w := w.drewN q) c0 c1 c2 f1 f2 HB.out hk hn hne hlt
    exact ⟨(z _ _).1.drewN _, gDrew (gDrewL (z _ _).2) _⟩
  · have hi1 : ¬ (k : Int) < (n : Int) := by omega
    have hi2 : ¬ (k : Int) + 1 ≤ (n : Int) := by omega
    clear hb
    go_enter Try.func138, Try.ntmps138
    go_wp2
    go_quiet (fail)
    go_wp2
    go_quiet (fail)
    go_wp2
    go_ret
    obtain ⟨q1, q2⟩ := low_byte (IntKind.u64.wrap (IntKind.u64.wrap (seed * 6364136223846793005)) + 1442695040888963407)
    refine ⟨_, rfl, q1, q2, ?_⟩
    have z := fun q => src_step (w := w.drewN q) c0 c1 c2 f1 f2 HB.out hk hn hne hlt
    exact ⟨(z _ _).1.drewN _, gDrew (gDrewL (z _ _).2) _⟩
theorem Src.keep {w w' : World} {b N : Nat} (h : Src w b N) (hs : w.heap.size ≤ w'.heap.size) (hk : ∀ k, k ≤ b → w'.heap[k]? = w.heap[k]?) : Src w' b N := by
  obtain ⟨A, n, c, k, seed, bs, c0, c1, c2, f1, f2, hb, hkN, hn, hne, hlt⟩ := h
  have hcell : ∀ o, w'.cell? ⟨b, o, none⟩ = w.cell? ⟨b, o, none⟩ := fun o => World.cell?_of_block (hk b (Nat.le_refl _))
  have hfz : ∀ o, w'.frozen? ⟨b, o, none⟩ = w.frozen? ⟨b, o, none⟩ := fun o => World.frozen?_of_block (hk b (Nat.le_refl _))
  refine ⟨A, n, c, k, seed, bs, by rw [hcell]; exact c0, by rw [hcell]; exact c1, by rw [hcell]; exact c2, by rw [hfz]; exact f1, by rw [hfz]; exact f2, ⟨hb.1, fun h0 => ?_⟩, hkN, hn, hne, Nat.lt_of_lt_of_le hlt hs⟩
  obtain ⟨ad, e, hl, hc⟩ := hb.2 h0
  refine ⟨ad, e, Nat.lt_of_lt_of_le hl hs, fun j u hu => ?_⟩
  rw [World.cell?_of_block (w := w) (by rw [block_of_add]; exact hk _ (Nat.le_of_lt (hne h0 ad e)))]
  exact hc j u hu
theorem Src.mono {w : World} {b N M : Nat} (h : Src w b N) (hm : N ≤ M) : Src w b M := by
  obtain ⟨A, n, c, k, seed, bs, c0, c1, c2, f1, f2, hb, hkN, hr⟩ := h
  exact ⟨A, n, c, k, seed, bs, c0, c1, c2, f1, f2, hb, by omega, hr⟩
theorem Src.lt {w : World} {b N : Nat} (h : Src w b N) : b < w.heap.size := by
  obtain ⟨A, n, c, k, seed, bs, c0, c1, c2, f1, f2, hb, hkN, hn, hne, hlt⟩ := h
  exact hlt
theorem gRefl (w : World) (o : Option Nat) : w.grownBy w o := ⟨rfl, rfl, rfl, Nat.le_refl _, fun _ _ _ => rfl⟩
theorem gMore {w a c : World} {o o2 : Option Nat} (h1 : w.grownBy a o) (h2 : a.grownBy c o2) (ho : ∀ k, o2 = some k → w.heap.size ≤ k) : w.grownBy c o :=
  ⟨h2.os.trans h1.os, h2.tape.trans h1.tape, h2.output.trans h1.output, Nat.le_trans h1.size h2.size, fun k hk hne => (h2.block k (Nat.lt_of_lt_of_le hk h1.size) (fun e => by have := ho k e.symm; omega)).trans (h1.block k hk hne)⟩
theorem gBelow {w a c : World} {o : Option Nat} (h1 : w.grownBy a o) (h2 : Below a.heap.size a c) : w.grownBy c o :=
  ⟨h2.os.trans h1.os, h2.tape.trans h1.tape, h2.output.trans h1.output, Nat.le_trans h1.size h2.size, fun k hk hne => (h2.block k (Nat.lt_of_lt_of_le hk h1.size)).trans (h1.block k hk hne)⟩
theorem ofBelow {w c : World} (h2 : Below w.heap.size w c) (o : Option Nat) : w.grownBy c o := gBelow (gRefl w o) h2
/-- from a source's own block on, everything is new -/
theorem belowG {B b : Nat} {a w c : World} (h : Below B a w) (h2 : w.grownBy c (some b)) (hb : B ≤ b) (hs : B ≤ w.heap.size) : Below B a c :=
  h.grown h2 hs (fun k hk => by injection hk with hk; omega)
theorem Src.below {w w' : World} {b N : Nat} (h : Src w b N) (hb : Below w.heap.size w w') : Src w' b N := h.keep hb.size (fun k hk => hb.block k (Nat.lt_of_le_of_lt hk h.lt))
theorem OwnI.grown {w w' : World} {base b : Nat} {v : Value} {ds : List Int} (h : OwnI w base v ds) (hg : w.grownBy w' (some b)) (hb : b < base) : OwnI w' base v ds := by
  refine ⟨h.1, ?_⟩
  rcases h.2 with hn | ⟨g, cap, cur, rfl, hbg, hc, rest⟩
  · exact .inl hn
  · exact .inr ⟨g, cap, cur, rfl, hbg, by rw [hg.block g (Array.getElem?_eq_some_iff.1 hc).1 (fun e => by injection e with e; omega)]; exact hc, rest⟩
theorem ownI_lo {w : World} {base : Nat} {v : Value} {ds : List Int} (h : OwnI w base v ds) : ∀ k, v.ownBlock = some k → base ≤ k := by
  intro k hk
  rcases h.2 with ⟨rfl, -⟩ | ⟨g, cap, cur, rfl, hb, -⟩
  · simp [Value.ownBlock] at hk
  · simp only [Value.ownBlock, Option.some.injEq] at hk; omega
set_option maxHeartbeats 1600000 in
theorem pick_any (b N : Nat) (n : Int) (w : World) (h : Src w b N) (hN : N ≤ 999999) :
    Calls Try.prog 74 #[.pointer (some ⟨b, 0, none⟩), .int .i64 n] w fun e w' => ∃ x : Int, e = .returned (.int .i64 x) ∧ 0 ≤ x ∧ (x < n ∨ (n ≤ 1 ∧ x = 0)) ∧ Src w' b (N + 2) ∧ w.grownBy w' (some b) := by
  have H := Lib.hid h; clear h
  by_cases h1 : n ≤ 1
  · go_enter Try.func74, Try.ntmps74
    go_wp2
    go_ret
    exact ⟨0, rfl, by omega, .inr ⟨h1, rfl⟩, H.out.mono (by omega), gRefl _ _⟩
  · by_cases h2 : 200 < n
    · go_enter Try.func74, Try.ntmps74
      go_wp2_with fail
      refine (srcNext_any b N w H.out (by omega)).mono ?_; rintro e w1 ⟨x, rfl, x0, x1, hs1, hg1⟩
      have HS1 := Lib.hid hs1; clear hs1
      have HG1 := Lib.hid hg1; clear hg1
      go_wp2_with fail
      refine (srcNext_any b (N + 1) w1 HS1.out (by omega)).mono ?_; rintro e w2 ⟨y, rfl, y0, y1, hs2, hg2⟩
      have HS2 := Lib.hid hs2; clear hs2
      have HG2 := Lib.hid (gtrans HG1.out hg2); clear hg2
      go_wp2
      go_ret
      exact ⟨_, rfl, Int.emod_nonneg _ (by omega), .inl (Int.emod_lt_of_pos _ (by omega)), HS2.out, HG2.out⟩
    · go_enter Try.func74, Try.ntmps74
      go_wp2_with fail
      refine (srcNext_any b N w H.out (by omega)).mono ?_; rintro e w1 ⟨x, rfl, x0, x1, hs1, hg1⟩
      have HS1 := Lib.hid hs1; clear hs1
      have HG1 := Lib.hid hg1; clear hg1
      go_wp2
      go_ret
      exact ⟨_, rfl, Int.emod_nonneg _ (by omega), .inl (Int.emod_lt_of_pos _ (by omega)), HS1.out.mono (by omega), HG1.out⟩
set_option maxHeartbeats 800000 in
theorem one_any (b N : Nat) (n : Int) (w : World) (h : Src w b N) (hN : N ≤ 999999) :
    Calls Try.prog 72 #[.pointer (some ⟨b, 0, none⟩), .int .i64 n] w fun e w' => ∃ x : Bool, e = .returned (.bool x) ∧ Src w' b (N + 2) ∧ w.grownBy w' (some b) := by
  have H := Lib.hid h; clear h
  go_enter Try.func72, Try.ntmps72
  go_wp2_with fail
  refine (pick_any b N n w H.out hN).mono ?_; rintro e w1 ⟨x, rfl, x0, -, hs1, hg1⟩
  have HS1 := Lib.hid hs1; clear hs1
  have HG1 := Lib.hid hg1; clear hg1
  go_wp2
  go_ret
  exact ⟨_, rfl, HS1.out, HG1.out⟩
set_option maxHeartbeats 800000 in
theorem among_any (b N : Nat) (A : Option Addr) (n c : Nat) (ds : List Int) (w : World) (h : Src w b N) (hN : N ≤ 999999) (hr : RI w A n ds) (hA : ∀ ad, A = some ad → ad.block ≠ b) (hn0 : 0 < n) (hn : n ≤ 1000000) :
    Calls Try.prog 122 #[.pointer (some ⟨b, 0, none⟩), .slice A n c] w fun e w' => ∃ x : Int, e = .returned (.int .i64 x) ∧ x ∈ ds ∧ Src w' b (N + 2) ∧ w.grownBy w' (some b) := by
  have H := Lib.hid h; clear h
  go_enter Try.func122, Try.ntmps122
  go_wp2_with fail
  refine (pick_any b N n w H.out hN).mono ?_; rintro e w1 ⟨x, rfl, x0, xn, hs1, hg1⟩
  have HS1 := Lib.hid hs1; clear hs1
  have HG1 := Lib.hid hg1; clear hg1
  obtain ⟨j, rfl⟩ : ∃ j : Nat, x = j := ⟨x.toNat, by omega⟩
  have hjn : j < n := by omega
  obtain ⟨ad, hAd, hlt, hjl, hc⟩ := hr.at_ hjn
  have hc2 : w1.cell? (ad.add j) = some (.int .i64 ds[j]) := by
    rw [World.cell?_of_block (w := w) (by rw [block_of_add]; exact HG1.out.block _ hlt (fun e => by injection e with e; exact hA ad hAd e))]; exact hc
  have hi1 : (j : Int) < (n : Int) := by omega
  have HM := Lib.hid (List.getElem_mem hjl)
  subst hAd
  clear hc xn
  go_wp2
  go_ret
  exact ⟨_, rfl, HM.out, HS1.out, HG1.out⟩
set_option maxHeartbeats 800000 in
theorem l00From_any (A : Option Addr) (n c : Nat) (bs : List UInt8) (w : World) (hb : RB w A n bs) (hn : n ≤ 9223372036854775807) :
    Calls Try.prog 71 #[.slice A n c] w fun e w' => e = .returned (.pointer (some ⟨w.heap.size, 0, none⟩)) ∧ Src w' w.heap.size 0 ∧ Below w.heap.size w w' := by
  have HB := Lib.hid hb; clear hb
  go_enter Try.func71, Try.ntmps71
  go_wp2
  go_ret
  have hba : Below w.heap.size w (w.alloc (.cells #[.slice A n c, .int .i64 0, .int .u64 0] 155)) := (Below.refl _ _).alloc (Nat.le_refl _) _
  exact ⟨rfl, ⟨A, n, c, 0, 0, bs, by go_simp, by go_simp, by go_simp, by go_simp, by go_simp, HB.out.below hba, Nat.le_refl _, hn, (fun h0 ad e => by obtain ⟨ad', e', hl, -⟩ := HB.out.2 h0; rw [e] at e'; injection e' with e'; rw [e']; exact hl), by simp⟩, hba⟩
set_option maxRecDepth 100000 in
set_option maxHeartbeats 1600000 in
theorem l02DrawDigits_any (b N : Nat) (base : Int) (width : Nat) (w : World) (h : Src w b N) (hN : N + width * 4 ≤ 900000) (hb2 : 2 ≤ base) (hb16 : base ≤ 1000) (hw : width ≤ 1000) :
    Calls Try.prog 112 #[.pointer (some ⟨b, 0, none⟩), .int .i64 base, .int .i64 width] w fun e w' => ∃ A c ds, e = .returned (.slice A width c) ∧ OwnI w' w.heap.size (.slice A width c) ds ∧ ds.length = width ∧ (∀ d ∈ ds, 0 ≤ d ∧ d < base) ∧ Src w' b (N + width * 4) ∧ w.grownBy w' (some b) := by
  have H := Lib.hid h
  have hlt := h.lt
  clear h
  go_enter Try.func112, Try.ntmps112
  go_wp2_with fail
  go_loopw [8, 7] (fun kk out wr => ∃ (k : Nat) (ds : List Int), k ≤ width ∧ kk = .int .i64 k ∧ OwnI wr w.heap.size out ds ∧ ds.length = k ∧ (∀ d ∈ ds, 0 ≤ d ∧ d < base) ∧ Src wr b (N + k * 4) ∧ w.grownBy wr (some b)) (fun kk _ _ => width - (intOf kk).toNat)
  case atStart =>
    have hba : Below w.heap.size w (w.alloc (.cells #[] 2)) := (Below.refl _ _).alloc (Nat.le_refl _) _
    exact ⟨0, [], Nat.zero_le _, rfl, ⟨rfl, .inr ⟨w.heap.size, 0, #[], rfl, Nat.le_refl _, heap_alloc_new _ _, Nat.le_refl _, by decide, rfl, rfl⟩⟩, rfl, (fun d hd => by cases hd), by simpa using H.out.below hba, ofBelow hba _⟩
  case round =>
    obtain ⟨k, ds, hk, rfl, hown, hlen, hds, hsr, hg⟩ := hrel
    have HO := Lib.hid hown
    have HD := Lib.hid hds
    have HS := Lib.hid hsr
    have HG := Lib.hid hg
    have HL := Lib.hid hlen
    have hwz := hg.size
    clear hown hds hsr hg hlen
    by_cases hkn : k < width
    · have hi1 : (k : Int) < (width : Int) := by omega
      go_wp2_with fail
      refine (pick_any b _ base wr HS.out (by omega)).mono ?_; rintro e w1 ⟨x, rfl, x0, xn, hs1, hg1⟩
      have HS1 := Lib.hid hs1
      have HG1 := Lib.hid (gtrans HG.out hg1)
      have HO1 := Lib.hid (HO.out.grown hg1 hlt)
      have hz1 := hg1.size
      have hxb : x < base := by omega
      clear hs1 hg1 xn
      go_wp2_with fail
      refine (one_any b _ 3 w1 HS1.out (by omega)).mono ?_; rintro e w2 ⟨y, rfl, hs2, hg2⟩
      have HS2 := Lib.hid hs2
      have HG2 := Lib.hid (gtrans HG1.out hg2)
      have HO2 := Lib.hid (HO1.out.grown hg2 hlt)
      have hz2 := hg2.size
      have hlen := HL.out
      clear hs2 hg2
      cases y
      · have HOB := Lib.hid (HO2.out.below ((Below.refl _ _).alloc (Nat.le_refl _) (.cells #[.int .i64 x] 2)))
        have hgb := gBelow HG2.out ((Below.refl _ _).alloc (Nat.le_refl _) (.cells #[.int .i64 x] 2))
        have hsb := HS2.out.below ((Below.refl _ _).alloc (Nat.le_refl _) (.cells #[.int .i64 x] 2))
        have HGB := Lib.hid hgb; clear hgb
        have HSB := Lib.hid hsb; clear hsb
        go_wp2_with (at_builtin; refine app1I rfl _ _ rfl w.heap.size _ ds rfl HOB.out w2.heap.size x rfl (heap_alloc_new _ _) (by omega) (by simp; omega) ?_; intro v5 w6 hown5 hg5 hv5)
        have hlo := ownI_lo HOB.out
        have HGF := Lib.hid (gMore HGB.out hg5 hlo)
        have HSF := Lib.hid ((HSB.out.keep hg5.size (fun k hk => hg5.block k (by simp; omega) (fun e => by have := hlo k e.symm; omega))).mono (show N + k * 4 + 2 + 2 ≤ N + (k + 1) * 4 by omega))
        have HOF := Lib.hid hown5; clear hown5
        go_roundw
        case rel => exact ⟨k + 1, ds ++ [x], by omega, by go_num, HOF.out, by rw [List.length_append, HL.out]; rfl, fun d hd => by
          rcases List.mem_append.1 hd with hd | hd
          · exact HD.out d hd
          · rw [List.mem_singleton.1 hd]; omega, HSF.out, HGF.out⟩
        case measure => simp [intOf]; omega
      · have HOB := Lib.hid (HO2.out.below ((Below.refl _ _).alloc (Nat.le_refl _) (.cells #[.int .i64 (base - 1)] 2)))
        have hgb := gBelow HG2.out ((Below.refl _ _).alloc (Nat.le_refl _) (.cells #[.int .i64 (base - 1)] 2))
        have hsb := HS2.out.below ((Below.refl _ _).alloc (Nat.le_refl _) (.cells #[.int .i64 (base - 1)] 2))
        have HGB := Lib.hid hgb; clear hgb
        have HSB := Lib.hid hsb; clear hsb
        go_wp2_with (at_builtin; refine app1I rfl _ _ rfl w.heap.size _ ds rfl HOB.out w2.heap.size (base - 1) rfl (heap_alloc_new _ _) (by omega) (by simp; omega) ?_; intro v5 w6 hown5 hg5 hv5)
        have hlo := ownI_lo HOB.out
        have HGF := Lib.hid (gMore HGB.out hg5 hlo)
        have HSF := Lib.hid ((HSB.out.keep hg5.size (fun k hk => hg5.block k (by simp; omega) (fun e => by have := hlo k e.symm; omega))).mono (show N + k * 4 + 2 + 2 ≤ N + (k + 1) * 4 by omega))
        have HOF := Lib.hid hown5; clear hown5
        go_roundw
        case rel => exact ⟨k + 1, ds ++ [(base - 1)], by omega, by go_num, HOF.out, by rw [List.length_append, HL.out]; rfl, fun d hd => by
          rcases List.mem_append.1 hd with hd | hd
          · exact HD.out d hd
          · rw [List.mem_singleton.1 hd]; omega, HSF.out, HGF.out⟩
        case measure => simp [intOf]; omega
    · have HK : Hid (k = width) := by simp only [Hid]; omega
      obtain ⟨AO, cO, rfl, -⟩ := HO.out.reads
      have HE : Hid (ds.length = width) := by simp only [Hid]; have := HL.out; have := HK.out; omega
      have HOW : Hid (OwnI wr w.heap.size (.slice AO width cO) ds) := by have h := HO.out; rw [HE.out] at h; exact h
      have HSF : Hid (Src wr b (N + width * 4)) := HS.out.mono (by have := HK.out; omega)
      rw [HE.out]
      go_wp2
      go_ret
      exact ⟨AO, cO, ds, rfl, HOW.out, HE.out, HD.out, HSF.out, HG.out⟩
end Go.Proofs.Ytkfbfainhmkkdaa

namespace Go.Proofs.Ytkfbfainhmkkdaa
open Go.RowKit Go.Sort
/-- w with its first n blocks alone -/
def trunc (w : World) (n : Nat) : World := { w with heap := w.heap.extract 0 n }
theorem trunc_size {w : World} {n : Nat} (h : n ≤ w.heap.size) : (trunc w n).heap.size = n := by
  simp only [trunc, Array.size_extract]; omega
theorem trunc_get {w : World} {n k : Nat} (h : n ≤ w.heap.size) (hk : k < n) : (trunc w n).heap[k]? = w.heap[k]? := by
  simp only [trunc, Array.getElem?_extract, Nat.sub_zero, Nat.zero_add]
  rw [if_pos (by omega)]
theorem trunc_below {w : World} {n : Nat} (h : n ≤ w.heap.size) : Below (trunc w n).heap.size (trunc w n) w := by
  rw [trunc_size h]
  exact ⟨rfl, rfl, rfl, by rw [trunc_size h]; exact h, fun k hk => (trunc_get h hk).symm⟩
/-- v is w with block b turned -/
def Tw (b : Nat) (w v : World) : Prop := w.grownBy v (some b) ∧ v.heap.size = w.heap.size
theorem Tw.refl (b : Nat) (w : World) : Tw b w w := ⟨gRefl w _, rfl⟩
theorem Tw.of {b : Nat} {w w' : World} (h : w.grownBy w' (some b)) : Tw b w (trunc w' w.heap.size) :=
  ⟨⟨h.os, h.tape, h.output, by rw [trunc_size h.size]; exact Nat.le_refl _, fun k hk hne => (trunc_get h.size hk).trans (h.block k hk hne)⟩, trunc_size h.size⟩
theorem Src.trunc {b N : Nat} {w : World} {n : Nat} (h : Src w b N) (hb : b < n) (hn : n ≤ w.heap.size) : Src (trunc w n) b N := by
  obtain ⟨A, m, c, k, seed, bs, c0, c1, c2, f1, f2, hB, hkN, hm, hne, hlt⟩ := h
  have hbl : ∀ k, k ≤ b → (Go.Proofs.Ytkfbfainhmkkdaa.trunc w n).heap[k]? = w.heap[k]? := fun k hk => trunc_get hn (by omega)
  have hcell : ∀ o, (Go.Proofs.Ytkfbfainhmkkdaa.trunc w n).cell? ⟨b, o, none⟩ = w.cell? ⟨b, o, none⟩ := fun o => World.cell?_of_block (hbl b (Nat.le_refl _))
  have hfz : ∀ o, (Go.Proofs.Ytkfbfainhmkkdaa.trunc w n).frozen? ⟨b, o, none⟩ = w.frozen? ⟨b, o, none⟩ := fun o => World.frozen?_of_block (hbl b (Nat.le_refl _))
  refine ⟨A, m, c, k, seed, bs, by rw [hcell]; exact c0, by rw [hcell]; exact c1, by rw [hcell]; exact c2, by rw [hfz]; exact f1, by rw [hfz]; exact f2, ⟨hB.1, fun h0 => ?_⟩, hkN, hm, hne, by rw [trunc_size hn]; exact hb⟩
  obtain ⟨ad, e, hl, hc⟩ := hB.2 h0
  have hab := hne h0 ad e
  refine ⟨ad, e, by rw [trunc_size hn]; omega, fun j u hu => ?_⟩
  rw [World.cell?_of_block (w := w) (by rw [block_of_add]; exact hbl _ (by omega))]
  exact hc j u hu
/-- what a draw leaves: the source's block is turned, and the call owns the things of m -/
def DR (b N : Nat) (w : World) (m : List Ent) (w' : World) : Prop := ∃ v, Tw b w v ∧ Src v b N ∧ Kn v m w'
theorem DR.src {b N : Nat} {w : World} {m : List Ent} {w' : World} (h : DR b N w m w') : Src w' b N := by
  obtain ⟨v, -, hS, hK⟩ := h
  exact hS.below hK.below
theorem DR.of {b N : Nat} {w w' : World} (hs : Src w' b N) (hg : w.grownBy w' (some b)) (hb : b < w.heap.size) : DR b N w [] w' :=
  ⟨_, Tw.of hg, hs.trunc hb hg.size, (Kn.nil _).keep (trunc_below hg.size)⟩
theorem DR.nil {b N : Nat} {w : World} (hs : Src w b N) : DR b N w [] w := ⟨w, Tw.refl b w, hs, Kn.nil w⟩
theorem DR.mono {b N M : Nat} {w w' : World} {m : List Ent} (h : DR b N w m w') (hm : N ≤ M) : DR b M w m w' := by
  obtain ⟨v, hT, hS, hK⟩ := h
  exact ⟨v, hT, hS.mono hm, hK⟩
theorem DR.kn {b N : Nat} {w w' : World} {m m' : List Ent} (h : DR b N w m w') {w2 : World} (f : ∀ v, Kn v m w' → Kn v m' w2) : DR b N w m' w2 := by
  obtain ⟨v, hT, hS, hK⟩ := h
  exact ⟨v, hT, hS, f v hK⟩
theorem Kn.tw {b : Nat} {w v : World} {m : List Ent} {wi wi' : World} (hT : Tw b w v) (hK : Kn v m wi) (hb : b < w.heap.size) (hg : wi.grownBy wi' (some b)) : Tw b w (trunc wi' w.heap.size) ∧ Kn (trunc wi' w.heap.size) m wi' := by
  have hs : w.heap.size ≤ wi.heap.size := by have := hK.size; rw [hT.2] at this; exact this
  have hs' : w.heap.size ≤ wi'.heap.size := Nat.le_trans hs hg.size
  have hbw := hK.below
  refine ⟨⟨⟨hg.os.trans (hbw.os.trans hT.1.os), hg.tape.trans (hbw.tape.trans hT.1.tape), hg.output.trans (hbw.output.trans hT.1.output), by rw [trunc_size hs']; exact Nat.le_refl _, fun k hk hne => ?_⟩, trunc_size hs'⟩, trunc_below hs', fun e he => ?_, fun e he k hk => ?_, hK.apart⟩
  · rw [trunc_get hs' hk, hg.block k (by omega) hne, hbw.block k (by rw [hT.2]; exact hk)]
    exact hT.1.block k hk hne
  · refine Ent.stable (hK.ents e he) hg.size (fun k hk => hg.block k (Ent.lt (hK.ents e he) hk) (fun h2 => ?_))
    have h3 := hK.own e he k hk
    rw [hT.2] at h3
    injection h2 with h2
    omega
  · rw [trunc_size hs']
    have h3 := hK.own e he k hk
    rw [hT.2] at h3
    exact h3
theorem Tw.grown {b : Nat} {w v : World} (h : Tw b w v) : w.grownBy v (some b) := h.1
/-- one draw behind another -/
theorem DR.join {b N M : Nat} {w wi w' : World} {m m' : List Ent} (h : DR b N w m wi) (h1 : DR b M wi m' w') (hb : b < w.heap.size) : DR b M w (m' ++ m) w' := by
  obtain ⟨v, hT, hS, hK⟩ := h
  obtain ⟨v1, hT1, hS1, hK1⟩ := h1
  have hs : w.heap.size ≤ wi.heap.size := by have := hK.size; rw [hT.2] at this; exact this
  have hs1 : w.heap.size ≤ v1.heap.size := by rw [hT1.2]; exact hs
  obtain ⟨h2, h3⟩ := hK.tw hT hb hT1.1
  exact ⟨_, h2, hS1.trunc hb hs1, h3.join hK1⟩
/-- a source of the call's own -/
theorem Kn.ofDR {w w1 w2 : World} {b N : Nat} {m : List Ent} (hb : Below w.heap.size w w1) (hlo : w.heap.size ≤ b) (h : DR b N w1 m w2) : Kn w m w2 := by
  obtain ⟨v, hT, -, hK⟩ := h
  exact hK.mono (belowG hb hT.1 hlo hb.size)
theorem pick_dr (b N : Nat) (n : Int) (w : World) (h : Src w b N) (hN : N ≤ 999999) :
    Calls Try.prog 74 #[.pointer (some ⟨b, 0, none⟩), .int .i64 n] w fun e w' => ∃ x : Int, e = .returned (.int .i64 x) ∧ (0 ≤ x ∧ (x < n ∨ (n ≤ 1 ∧ x = 0))) ∧ DR b (N + 2) w [] w' := by
  refine (pick_any b N n w h hN).mono ?_
  rintro e w' ⟨x, rfl, h0, h1, hs, hg⟩
  exact ⟨x, rfl, ⟨h0, h1⟩, .of hs hg h.lt⟩
theorem one_dr (b N : Nat) (n : Int) (w : World) (h : Src w b N) (hN : N ≤ 999999) :
    Calls Try.prog 72 #[.pointer (some ⟨b, 0, none⟩), .int .i64 n] w fun e w' => ∃ x : Bool, e = .returned (.bool x) ∧ DR b (N + 2) w [] w' := by
  refine (one_any b N n w h hN).mono ?_
  rintro e w' ⟨x, rfl, hs, hg⟩
  exact ⟨x, rfl, .of hs hg h.lt⟩
theorem among_dr (b N : Nat) (A : Option Addr) (n c : Nat) (ds : List Int) (w : World) (h : Src w b N) (hN : N ≤ 999999) (hr : RI w A n ds) (hA : ∀ ad, A = some ad → ad.block ≠ b) (hn0 : 0 < n) (hn : n ≤ 1000000) :
    Calls Try.prog 122 #[.pointer (some ⟨b, 0, none⟩), .slice A n c] w fun e w' => ∃ x : Int, e = .returned (.int .i64 x) ∧ x ∈ ds ∧ DR b (N + 2) w [] w' := by
  refine (among_any b N A n c ds w h hN hr hA hn0 hn).mono ?_
  rintro e w' ⟨x, rfl, hx, hs, hg⟩
  exact ⟨x, rfl, hx, .of hs hg h.lt⟩
theorem digits_dr (b N : Nat) (base : Int) (width : Nat) (w : World) (h : Src w b N) (hN : N + width * 4 ≤ 900000) (hb2 : 2 ≤ base) (hb16 : base ≤ 1000) (hw : width ≤ 1000) :
    Calls Try.prog 112 #[.pointer (some ⟨b, 0, none⟩), .int .i64 base, .int .i64 width] w fun e w' => ∃ A c ds, e = .returned (.slice A width c) ∧ ds.length = width ∧ (∀ d ∈ ds, 0 ≤ d ∧ d < base) ∧ DR b (N + width * 4) w [rowI A c ds] w' := by
  refine (l02DrawDigits_any b N base width w h hN hb2 hb16 hw).mono ?_
  rintro e w' ⟨A, c, ds, rfl, ho, hl, hd, hs, hg⟩
  refine ⟨A, c, ds, rfl, hl, hd, _, Tw.of hg, hs.trunc h.lt hg.size, ?_⟩
  have hk := (Kn.nil (trunc w' w.heap.size)).addI (trunc_below hg.size) (by rw [trunc_size hg.size]; exact ho)
  rw [← hl] at hk
  exact hk
end Go.Proofs.Ytkfbfainhmkkdaa

namespace Go.Proofs.Ytkfbfainhmkkdaa
open Go.RowKit Go.Sort
section
variable {b N : Nat} {w wi : World} {m : List Ent}
theorem DR.al (h : DR b N w m wi) (l : List Value) (T : TypeId) : DR b N w (.blk wi.heap.size l T :: m) (wi.alloc (.cells l.toArray T)) := h.kn (fun _ hK => hK.al l T)
theorem DR.al_ (h : DR b N w m wi) (o : Obj) : DR b N w m (wi.alloc o) := h.kn (fun _ hK => hK.al_ o)
theorem DR.st {g : Nat} {l : List Value} {T : TypeId} (h : DR b N w (.blk g l T :: m) wi) (j : Nat) (v : Value) : DR b N w (.blk g (l.set j v) T :: m) (wi.setCell ⟨g, j, none⟩ v) := h.kn (fun _ hK => hK.st j v)
theorem DR.drew (h : DR b N w m wi) : DR b N w m wi.drew := h.kn (fun _ hK => hK.drew)
theorem DR.front (h : DR b N w m wi) (i : Nat) {e : Ent} (hi : m[i]? = some e) : DR b N w (e :: m.eraseIdx i) wi := h.kn (fun _ hK => hK.front i hi)
theorem DR.sel (h : DR b N w m wi) (is : List Nat) (n : Nat) (h1 : is.Nodup) (h2 : ∀ i ∈ is, i < n) : DR b N w (is.filterMap (fun i => m[i]?) ++ m.drop n) wi := h.kn (fun _ hK => hK.sel is n h1 h2)
theorem DR.cells (h : DR b N w m wi) : Cells m wi := by
  obtain ⟨v, -, -, hK⟩ := h
  exact hK.cells
theorem DR.lt (h : DR b N w m wi) : b < w.heap.size := by
  obtain ⟨v, hT, hS, -⟩ := h
  have := hS.lt
  rw [hT.2] at this
  exact this
theorem DR.add (h : DR b N w m wi) {M : Nat} {w' : World} {m' : List Ent} (h1 : DR b M wi m' w') : DR b M w (m' ++ m) w' := h.join h1 h.lt
theorem DR.keep (h : DR b N w m wi) {w' : World} (hb : Below wi.heap.size wi w') : DR b N w m w' := h.kn (fun _ hK => hK.keep hb)
theorem DR.box2 {g : Nat} {v0 v1 : Value} {T : TypeId} (h : DR b N w (.blk g [v0, v1] T :: m) wi) : wi.cell? ⟨g, 0, none⟩ = some v0 ∧ wi.cell? ⟨g, 1, none⟩ = some v1 := by
  obtain ⟨v, -, -, hK⟩ := h
  exact Go.Proofs.Ytkfbfainhmkkdaa.box2 hK
theorem Calls.dr {P : Program} {f : FuncId} {args : Array Value} {R : Ending → World → Prop} (h : DR b N w m wi) (k : ∀ W, DR b N w m W → Calls P f args W R) : Calls P f args wi R := k wi h
theorem Code.wp.dr {P : Program} {c : Code} {Q : Exit → Act → World → Prop} {a : Act} (h : DR b N w m wi) (k : ∀ W, DR b N w m W → c.wp P Q a W) : c.wp P Q a wi := k wi h
theorem bodyPost.dr {P : Program} {f : Func} {R : Ending → World → Prop} {x : Exit} {a : Act} (h : DR b N w m wi) (k : ∀ W, DR b N w m W → bodyPost P f R x a W) : bodyPost P f R x a wi := k wi h
end
theorem DR.lit {b N : Nat} {w wi : World} {m : List Ent} {g : Nat} {ds : List Int} (h : DR b N w (.blk g (ds.map (Value.int .i64)) 2 :: m) wi) (hd : ds.length ≤ 1000) :
    RI wi (some ⟨g, 0, none⟩) ds.length ds ∧ (∀ ad, some (⟨g, 0, none⟩ : Addr) = some ad → ad.block ≠ b) := by
  obtain ⟨v, -, hS, hK⟩ := h
  have hb := hS.lt
  have ho := hK.own _ (List.mem_cons_self ..) g rfl
  have hr : Kn v (rowI (some ⟨g, 0, none⟩) ds.length ds :: m) wi := hK.litRow (size := 1) (n := ds.length) (by simp) (by unfold maxLen; omega)
  refine ⟨Kn.riv hr, fun ad he => ?_⟩
  injection he with he
  subst he
  show g ≠ b
  omega
set_option maxHeartbeats 800000 in
theorem l02Most_any (x : Int) (w : World) : Calls Try.prog 164 #[.int .i64 x] w fun e w' => (∃ k : Nat, e = .returned (.int .i64 (k : Int)) ∧ 1 ≤ k ∧ k ≤ 16) ∧ w = w' := by
  go_enter Try.func164, Try.ntmps164
  go_wp2_with fail
  go_loopw [3, 4] (fun nn pp wr => ∃ (k : Nat) (p : Int), nn = .int .i64 (k : Int) ∧ 1 ≤ k ∧ k ≤ 16 ∧ pp = .int .i64 p ∧ w = wr) (fun nn _ _ => 16 - (intOf nn).toNat)
  case atStart => exact ⟨1, _, rfl, by omega, by omega, rfl, rfl⟩
  case round =>
    obtain ⟨k, p, rfl, k1, k2, rfl, rfl⟩ := hrel
    obtain ⟨q, hq⟩ : ∃ q, IntKind.i64.wrap (p - 1) = q := ⟨_, rfl⟩
    by_cases hc : q ≤ 1000000000000
    · by_cases hk : k < 16
      · have hk2 : (k : Int) < 16 := by omega
        go_wp2_with fail
        go_roundw
        case rel => exact ⟨k + 1, _, by go_num, by omega, by omega, rfl, by first | exact trivial | rfl⟩
        case measure => simp [intOf]; omega
      · have hk2 : ¬ (k : Int) < 16 := by omega
        go_wp2_with fail
        go_ret
        exact ⟨⟨k, rfl, k1, k2⟩, rfl⟩
    · go_wp2_with fail
      go_ret
      exact ⟨⟨k, rfl, k1, k2⟩, rfl⟩
end Go.Proofs.Ytkfbfainhmkkdaa

namespace Go.Proofs.Ytkfbfainhmkkdaa
open Go.RowKit Go.Sort
structure Ins where
  op : Int
  arg : Int
deriving DecidableEq
def InsM (w : World) (p : Addr) (x : Ins) : Prop := w.cell? p = some (.int .i64 x.op) ∧ w.cell? ⟨p.block, p.off + 1, none⟩ = some (.int .i64 x.arg)
theorem steady_InsM : Steady InsM := by
  rintro w w' p f hp hb ⟨h1, h2⟩
  exact ⟨by rw [hb.cell hp]; exact h1, by rw [hb.cell (by exact hp)]; exact h2⟩
def instrOk (op arg : Int) : Bool := if op = 1 then betB arg 0 1000000000000 else if op = 2 ∨ op = 3 ∨ op = 4 ∨ op = 5 ∨ op = 8 then betB arg 1 100 else if op = 6 ∨ op = 7 ∨ op = 9 ∨ op = 10 then arg == 0 else false
def opens (op : Int) : Bool := op == 8 || op == 9
/-- how many loops are open behind an instruction; none where it does not fit -/
def depthStep (op d : Int) : Option Int := if op = 10 then (if d = 0 then none else some (d - 1)) else if opens op then (if d = 4 then none else some (d + 1)) else some d
def stepI (d : Option Int) (x : Ins) : Option Int := d.bind fun d => if instrOk x.op x.arg then depthStep x.op d else none
def progD (xs : List Ins) : Option Int := xs.foldl stepI (some 0)
def vprog (xs : List Ins) : Bool := decide (progD xs = some 0) && decide (xs.length ≤ 120)
theorem progD_succ {xs : List Ins} {k : Nat} (h : k < xs.length) : progD (xs.take (k + 1)) = stepI (progD (xs.take k)) xs[k] := by
  unfold progD; rw [List.take_succ_eq_append_getElem h, List.foldl_append]; rfl
theorem stepI_none (xs : List Ins) : xs.foldl stepI none = none := by
  induction xs with
  | nil => rfl
  | cons x xs ih => exact ih
theorem progD_none {xs : List Ins} {k : Nat} (h : progD (xs.take k) = none) : progD xs = none := by
  unfold progD at *
  rw [← List.take_append_drop k xs, List.foldl_append, h, stepI_none]
theorem depthStep_bd {op d e : Int} (h : depthStep op d = some e) (h0 : 0 ≤ d) (h4 : d ≤ 4) : 0 ≤ e ∧ e ≤ 4 := by
  unfold depthStep at h
  split at h
  · split at h
    · cases h
    · injection h with h; omega
  · split at h
    · split at h
      · cases h
      · injection h with h; omega
    · injection h with h; omega
theorem op_cases (op : Int) : op = 1 ∨ op = 2 ∨ op = 3 ∨ op = 4 ∨ op = 5 ∨ op = 6 ∨ op = 7 ∨ op = 8 ∨ op = 9 ∨ op = 10 ∨ (op < 1 ∨ 10 < op) := by omega
theorem op_else {op : Int} (h : op < 1 ∨ 10 < op) : (op == 1) = false ∧ (op == 2) = false ∧ (op == 3) = false ∧ (op == 4) = false ∧ (op == 5) = false ∧ (op == 6) = false ∧ (op == 7) = false ∧ (op == 8) = false ∧ (op == 9) = false ∧ (op == 10) = false := by
  simp only [beq_eq_false_iff_ne]; omega
theorem instrOk_else {op arg : Int} (h : op < 1 ∨ 10 < op) : instrOk op arg = false := by
  unfold instrOk; rw [if_neg (by omega), if_neg (by omega), if_neg (by omega)]
theorem betB_0 (arg : Int) : betB arg 0 0 = (arg == 0) := by rw [Bool.eq_iff_iff, betB_iff, beq_iff_eq]; omega
set_option maxHeartbeats 1600000 in
theorem isInstr_any (op arg : Int) (w : World) : Calls Try.prog 130 #[.agg #[.int .i64 op, .int .i64 arg]] w fun e w' => e = .returned (.bool (instrOk op arg)) ∧ Below w.heap.size w w' := by
  have hb : Below w.heap.size w (w.alloc (.cells #[.int .i64 op, .int .i64 arg] 46)) := (Below.refl _ _).alloc (Nat.le_refl _) _
  rcases op_cases op with rfl | rfl | rfl | rfl | rfl | rfl | rfl | rfl | rfl | rfl | h
  rotate_right 1
  · have HI := Lib.hid (instrOk_else (arg := arg) h)
    obtain ⟨h1, h2, h3, h4, h5, h6, h7, h8, h9, h10⟩ := op_else h
    clear h
    go_enter Try.func130, Try.ntmps130
    go_wp2_with fail
    go_ret
    exact ⟨ret_bool HI.out.symm, hb⟩
  all_goals
    go_enter Try.func130, Try.ntmps130
    go_wp2_with (go_at_call 82; refine (between_any _ _ _ _).mono ?_; rintro e w' ⟨rfl, rfl⟩)
    go_ret
    exact ⟨rfl, hb⟩
set_option maxHeartbeats 1600000 in
theorem l11Arg_any (op arg : Int) (h : betB op 1 10 = true) (w : World) : Calls Try.prog 135 #[.int .i64 op, .int .i64 arg] w fun e w' => e = .returned (.bool (instrOk op arg)) ∧ w = w' := by
  have hbd := betB_iff.1 h
  clear h
  rcases op_cases op with rfl | rfl | rfl | rfl | rfl | rfl | rfl | rfl | rfl | rfl | h
  rotate_right 1
  · omega
  all_goals
    clear hbd
    go_enter Try.func135, Try.ntmps135
    go_wp2_with (go_at_call 85; refine (l00In_any _ _ _ _).mono ?_; rintro e w' ⟨rfl, rfl⟩)
    go_ret
    exact ⟨rfl, rfl⟩
theorem begins_any (op arg : Int) (w : World) : Calls Try.prog 83 #[.agg #[.int .i64 op, .int .i64 arg]] w fun e w' => e = .returned (.bool (opens op)) ∧ Below w.heap.size w w' := by
  have hb : Below w.heap.size w (w.alloc (.cells #[.int .i64 op, .int .i64 arg] 46)) := (Below.refl _ _).alloc (Nat.le_refl _) _
  rcases h8 : (op == 8) with _ | _
  all_goals
    have H8 := Lib.hid h8
    go_enter Try.func83, Try.ntmps83
    go_wp2
    go_ret
    exact ⟨ret_bool (by unfold opens; rw [H8.out]; rfl), hb⟩
theorem l11Opens_any (op : Int) (w : World) : Calls Try.prog 80 #[.int .i64 op] w fun e w' => e = .returned (.bool (opens op)) ∧ w = w' := by
  rcases h8 : (op == 8) with _ | _
  all_goals
    have H8 := Lib.hid h8
    go_enter Try.func80, Try.ntmps80
    go_wp2
    go_ret
    exact ⟨ret_bool (by unfold opens; rw [H8.out]; rfl), rfl⟩
set_option maxHeartbeats 1600000 in
theorem depthBehind_any (op arg d : Int) (h0 : 0 ≤ d) (h4 : d ≤ 4) (w : World) : Calls Try.prog 79 #[.agg #[.int .i64 op, .int .i64 arg], .int .i64 d] w fun e w' => ∃ n f : Int, e = .returned (.tuple #[.int .i64 n, .int .i64 f]) ∧ ((depthStep op d = none ∧ f ≠ 0) ∨ (depthStep op d = some n ∧ f = 0)) ∧ Below w.heap.size w w' := by
  rcases h10 : (op == 10) with _ | _
  · have n10 : ¬ op = 10 := by simpa using h10
    rcases ho : opens op with _ | _
    · have HO := Lib.hid ho
      have HD : Hid (depthStep op d = some d) := by simp [Hid, depthStep, n10, ho]
      clear ho n10
      go_enter Try.func79, Try.ntmps79
      have hK0 := (Kn.nil w).al [.int .i64 op, .int .i64 arg] 46
      go_wp2_with (first | (refine wpList.kn hK0 ?_; clear hK0; intro w1 hK; obtain ⟨a1, a2, a3, -⟩ := hK.cells) | (go_at_call 83; refine (begins_any op arg _).mono ?_; rintro e w' ⟨rfl, hw⟩; rw [HO.out]; replace hK := hK.keep hw; clear a1 a2 a3; obtain ⟨a1, a2, a3, -⟩ := hK.cells))
      go_ret2
      exact ⟨_, _, rfl, .inr ⟨HD.out, rfl⟩, hK.below⟩
    · rcases hd : (d == 4) with _ | _
      · have nd : ¬ d = 4 := by simpa using hd
        have HO := Lib.hid ho
        have HD : Hid (depthStep op d = some (d + 1)) := by simp [Hid, depthStep, n10, ho, nd]
        clear ho n10 nd
        go_enter Try.func79, Try.ntmps79
        have hK0 := (Kn.nil w).al [.int .i64 op, .int .i64 arg] 46
        go_wp2_with (first | (refine wpList.kn hK0 ?_; clear hK0; intro w1 hK; obtain ⟨a1, a2, a3, -⟩ := hK.cells) | (go_at_call 83; refine (begins_any op arg _).mono ?_; rintro e w' ⟨rfl, hw⟩; rw [HO.out]; replace hK := hK.keep hw; clear a1 a2 a3; obtain ⟨a1, a2, a3, -⟩ := hK.cells))
        go_ret2
        exact ⟨_, _, rfl, .inr ⟨HD.out, rfl⟩, hK.below⟩
      · have nd : d = 4 := by simpa using hd
        have HO := Lib.hid ho
        have HD : Hid (depthStep op d = none) := by simp [Hid, depthStep, n10, ho, nd]
        clear ho n10 nd
        go_enter Try.func79, Try.ntmps79
        have hK0 := (Kn.nil w).al [.int .i64 op, .int .i64 arg] 46
        go_wp2_with (first | (refine wpList.kn hK0 ?_; clear hK0; intro w1 hK; obtain ⟨a1, a2, a3, -⟩ := hK.cells) | (go_at_call 83; refine (begins_any op arg _).mono ?_; rintro e w' ⟨rfl, hw⟩; rw [HO.out]; replace hK := hK.keep hw; clear a1 a2 a3; obtain ⟨a1, a2, a3, -⟩ := hK.cells))
        go_ret2
        exact ⟨_, _, rfl, .inl ⟨HD.out, by decide⟩, hK.below⟩
  · have n10 : op = 10 := by simpa using h10
    have HO : Hid (opens op = false) := by simp [Hid, opens, n10]
    rcases hd : (d == 0) with _ | _
    · have nd : ¬ d = 0 := by simpa using hd
      have HD : Hid (depthStep op d = some (d - 1)) := by simp [Hid, depthStep, n10, nd]
      clear n10 nd
      go_enter Try.func79, Try.ntmps79
      have hK0 := (Kn.nil w).al [.int .i64 op, .int .i64 arg] 46
      go_wp2_with (first | (refine wpList.kn hK0 ?_; clear hK0; intro w1 hK; obtain ⟨a1, a2, a3, -⟩ := hK.cells) | (go_at_call 83; refine (begins_any op arg _).mono ?_; rintro e w' ⟨rfl, hw⟩; rw [HO.out]; replace hK := hK.keep hw; clear a1 a2 a3; obtain ⟨a1, a2, a3, -⟩ := hK.cells))
      go_ret2
      exact ⟨_, _, rfl, .inr ⟨HD.out, rfl⟩, hK.below⟩
    · have nd : d = 0 := by simpa using hd
      have HD : Hid (depthStep op d = none) := by simp [Hid, depthStep, n10, nd]
      clear n10 nd
      go_enter Try.func79, Try.ntmps79
      have hK0 := (Kn.nil w).al [.int .i64 op, .int .i64 arg] 46
      go_wp2_with (first | (refine wpList.kn hK0 ?_; clear hK0; intro w1 hK; obtain ⟨a1, a2, a3, -⟩ := hK.cells) | (go_at_call 83; refine (begins_any op arg _).mono ?_; rintro e w' ⟨rfl, hw⟩; rw [HO.out]; replace hK := hK.keep hw; clear a1 a2 a3; obtain ⟨a1, a2, a3, -⟩ := hK.cells))
      go_ret2
      exact ⟨_, _, rfl, .inl ⟨HD.out, by decide⟩, hK.below⟩
end Go.Proofs.Ytkfbfainhmkkdaa

namespace Go.Proofs.Ytkfbfainhmkkdaa
open Go.RowKit Go.Sort
set_option maxHeartbeats 1600000 in
theorem ValidProgram_any (A : Option Addr) (n c : Nat) (xs : List Ins) (w : World) (hr : RL InsM 2 w A n xs) (hm : n ≤ 9223372036854775807) :
    Calls Try.prog 66 #[.slice A n c] w fun e w' => e = .returned (.bool (vprog xs)) ∧ Below w.heap.size w w' := by
  have HL := Lib.hid hr.1
  go_enter Try.func66, Try.ntmps66
  go_wp2
  go_loopw [3, 10] (fun dd ii wr => ∃ (k : Nat) (d : Int), k ≤ n ∧ ii = .int .i64 k ∧ dd = .int .i64 d ∧ progD (xs.take k) = some d ∧ (0 ≤ d ∧ d ≤ 4) ∧ Kn w [] wr) (fun _ i _ => n - (intOf i).toNat)
  case atStart => exact ⟨0, 0, Nat.zero_le _, rfl, rfl, rfl, ⟨by omega, by omega⟩, Kn.nil _⟩
  case round =>
    obtain ⟨k, d, hk, rfl, rfl, hp, ⟨d0, d4⟩, hK⟩ := hrel
    have HP := Lib.hid hp; clear hp
    by_cases hkn : k < n
    · obtain ⟨ad, hA, hlt, hkl, hx⟩ := (hr.below steady_InsM hK.below).at_ hkn
      obtain ⟨x1, x2⟩ := hx
      obtain ⟨x, hxe⟩ : ∃ x, xs[k] = x := ⟨_, rfl⟩
      rw [hxe] at x1 x2
      have HS : Hid (progD (xs.take (k + 1)) = stepI (some d) x) := by simp only [Hid]; rw [progD_succ hkl, HP.out, hxe]
      have hi0 : (0 : Int) ≤ (k : Int) := by omega
      have hi1 : (k : Int) < (n : Int) := by omega
      subst hA
      clear hxe
      go_wp2_with fail
      refine Calls.kn (hK.al [.int .i64 x.op, .int .i64 x.arg] 46) ?_; intro w1 hK1
      refine (isInstr_any x.op x.arg w1).mono ?_; rintro e w2 ⟨rfl, hw⟩
      have hK2 := hK1.keep hw
      clear hw hK1 x1 x2
      obtain ⟨a1, a2, a3, -⟩ := hK2.cells
      rcases hok : instrOk x.op x.arg with _ | _
      · have HF : Hid (vprog xs = false) := by
          simp only [Hid, vprog]
          rw [progD_none (xs := xs) (k := k + 1) (by rw [HS.out]; simp [stepI, hok])]; rfl
        clear hok
        go_wp2_with fail
        go_ret
        exact ⟨ret_bool HF.out.symm, hK2.below⟩
      · have HS : Hid (progD (xs.take (k + 1)) = depthStep x.op d) := by simp only [Hid]; rw [HS.out]; simp [stepI, hok]
        clear hok
        go_wp2_with fail
        refine (depthBehind_any x.op x.arg d d0 d4 w2).mono ?_; rintro e w3 ⟨q, f, rfl, hor, hw⟩
        have hK3 := hK2.keep hw
        clear hw hK2 a1 a2 a3
        rcases hor with ⟨h1, h2⟩ | ⟨h1, rfl⟩
        · have HF : Hid (vprog xs = false) := by
            simp only [Hid, vprog]
            rw [progD_none (xs := xs) (k := k + 1) (by rw [HS.out, h1])]; rfl
          have hf : (f != 0) = true := by simpa using h2
          clear h1 h2
          go_wp2_with fail
          go_ret
          exact ⟨ret_bool HF.out.symm, hK3.below⟩
        · have HQ : Hid (progD (xs.take (k + 1)) = some q) := by simp only [Hid]; rw [HS.out, h1]
          have hb := depthStep_bd h1 d0 d4
          clear h1
          go_wp2_with fail
          go_roundw
          case rel => exact ⟨k + 1, q, by omega, by go_num, rfl, HQ.out, hb, hK3.drop⟩
          case measure => simp [intOf]; omega
    · have HK : Hid (progD xs = some d) := by have h1 := HP.out; rwa [List.take_of_length_le (by have := HL.out; omega)] at h1
      rcases hd0 : (d == 0) with _ | _
      · have HF : Hid (vprog xs = false) := by
          simp only [Hid, vprog]; rw [HK.out, decide_eq_false (by simp at hd0 ⊢; exact hd0)]; rfl
        go_wp2_with fail
        go_ret
        exact ⟨ret_bool HF.out.symm, hK.below⟩
      · have HF : Hid (vprog xs = decide (n ≤ 120)) := by
          simp only [Hid, vprog]; rw [HK.out, HL.out]; simp at hd0; simp [hd0]
        by_cases h120 : n ≤ 120
        · have hi : (n : Int) ≤ 120 := by omega
          have HG : Hid (decide (n ≤ 120) = true) := decide_eq_true h120
          clear h120
          go_wp2_with fail
          go_ret
          exact ⟨ret_bool (by rw [HF.out, HG.out]), hK.below⟩
        · have hi : ¬ (n : Int) ≤ 120 := by omega
          have HG : Hid (decide (n ≤ 120) = false) := decide_eq_false h120
          clear h120
          go_wp2_with fail
          go_ret
          exact ⟨ret_bool (by rw [HF.out, HG.out]), hK.below⟩
set_option maxRecDepth 100000 in
set_option maxHeartbeats 1600000 in
theorem l11Ok_any (A : Option Addr) (n c : Nat) (xs : List Ins) (w : World) (hr : RL InsM 2 w A n xs) (hm : n ≤ 9223372036854775807) :
    Calls Try.prog 69 #[.slice A n c] w fun e w' => e = .returned (.bool (vprog xs)) ∧ ∃ q, w' = w.drewN q := by
  have HL := Lib.hid hr.1
  go_enter Try.func69, Try.ntmps69
  go_wp2
  go_loopw [3, 4] (fun dd ii wr => ∃ (k : Nat) (d : Int), k ≤ n ∧ ii = .int .i64 k ∧ dd = .int .i64 d ∧ progD (xs.take k) = some d ∧ (0 ≤ d ∧ d ≤ 4) ∧ ∃ q, wr = w.drewN q) (fun _ i _ => n - (intOf i).toNat)
  case atStart => exact ⟨0, 0, Nat.zero_le _, rfl, rfl, rfl, ⟨by omega, by omega⟩, 0, rfl⟩
  case round =>
    obtain ⟨k, d, hk, rfl, rfl, hp, ⟨d0, d4⟩, q, rfl⟩ := hrel
    have HP := Lib.hid hp; clear hp
    by_cases hkn : k < n
    · obtain ⟨ad, hA, hlt, hkl, hx⟩ := hr.at_ hkn
      obtain ⟨x1, x2⟩ := hx
      obtain ⟨x, hxe⟩ : ∃ x, xs[k] = x := ⟨_, rfl⟩
      rw [hxe] at x1 x2
      have HS : Hid (progD (xs.take (k + 1)) = stepI (some d) x) := by simp only [Hid]; rw [progD_succ hkl, HP.out, hxe]
      have hi0 : (0 : Int) ≤ (k : Int) := by omega
      have hi1 : (k : Int) < (n : Int) := by omega
      subst hA
      clear hxe
      rcases hin : betB x.op 1 10 with _ | _
      · have HF : Hid (vprog xs = false) := by
          have h1 : instrOk x.op x.arg = false := instrOk_else (by have := betB_false.1 hin; omega)
          simp only [Hid, vprog]
          rw [progD_none (xs := xs) (k := k + 1) (by rw [HS.out]; simp [stepI, h1])]; rfl
        have KI := Lib.hid (fun W => calls_val (l00In_any x.op 1 10 W) (congrArg Value.bool hin))
        clear hin
        go_wp2_with fail
        go_quiet ((go_at_call 85; first | exact quiet_left (KI.out _) | exact quiet_add_left (KI.out _)))
        go_wp2_with fail
        go_ret
        exact ⟨ret_bool HF.out.symm, by first | exact ⟨_, rfl⟩ | exact ⟨_, World.drewN_drewN _ _ _⟩⟩
      · have KI := Lib.hid (fun W => calls_val (l00In_any x.op 1 10 W) (congrArg Value.bool hin))
        rcases hok : instrOk x.op x.arg with _ | _
        · have HF : Hid (vprog xs = false) := by
            simp only [Hid, vprog]
            rw [progD_none (xs := xs) (k := k + 1) (by rw [HS.out]; simp [stepI, hok])]; rfl
          have KA := Lib.hid (fun W => calls_val (l11Arg_any x.op x.arg hin W) (congrArg Value.bool hok))
          clear hin hok
          go_wp2_with fail
          go_quiet ((first | (go_at_call 85; first | exact quiet_left (KI.out _) | exact quiet_add_left (KI.out _)) | (go_at_call 135; first | exact quiet_left (KA.out _) | exact quiet_add_left (KA.out _))))
          go_wp2_with fail
          go_ret
          exact ⟨ret_bool HF.out.symm, by first | exact ⟨_, rfl⟩ | exact ⟨_, World.drewN_drewN _ _ _⟩⟩
        · have HS : Hid (progD (xs.take (k + 1)) = depthStep x.op d) := by simp only [Hid]; rw [HS.out]; simp [stepI, hok]
          have KA := Lib.hid (fun W => calls_val (l11Arg_any x.op x.arg hin W) (congrArg Value.bool hok))
          clear hin hok
          go_wp2_with fail
          go_quiet ((first | (go_at_call 85; first | exact quiet_left (KI.out _) | exact quiet_add_left (KI.out _)) | (go_at_call 135; first | exact quiet_left (KA.out _) | exact quiet_add_left (KA.out _))))
          rcases hop : opens x.op with _ | _
          · have HO := Lib.hid (fun W => calls_val (l11Opens_any x.op W) (congrArg Value.bool hop))
            rcases h10 : (x.op == 10) with _ | _
            · have HQ : Hid (progD (xs.take (k + 1)) = some d) := by simp only [Hid]; rw [HS.out]; simp at h10; simp [depthStep, h10, hop]
              have hi2 : ¬ d < 0 := by omega
              have hi3 : ¬ 4 < d := by omega
              clear hop
              go_wp2_with (go_at_call 80; refine (HO.out _).mono ?_; rintro e w' ⟨rfl, rfl⟩)
              go_roundw
              case rel => exact ⟨k + 1, d, by omega, by go_num, rfl, HQ.out, ⟨d0, d4⟩, by first | exact ⟨_, rfl⟩ | exact ⟨_, World.drewN_drewN _ _ _⟩⟩
              case measure => simp [intOf]; omega
            · rcases hd0 : (d == 0) with _ | _
              · have hdn : d ≠ 0 := by simpa using hd0
                have HQ : Hid (progD (xs.take (k + 1)) = some (d - 1)) := by simp only [Hid]; rw [HS.out]; simp at h10; simp [depthStep, h10, hdn]
                have hi2 : ¬ d - 1 < 0 := by omega
                have hi3 : ¬ 4 < d - 1 := by omega
                clear hop hd0
                go_wp2_with (go_at_call 80; refine (HO.out _).mono ?_; rintro e w' ⟨rfl, rfl⟩)
                go_roundw
                case rel => exact ⟨k + 1, d - 1, by omega, by go_num, rfl, HQ.out, ⟨by omega, by omega⟩, by first | exact ⟨_, rfl⟩ | exact ⟨_, World.drewN_drewN _ _ _⟩⟩
                case measure => simp [intOf]; omega
              · have hdn : d = 0 := by simpa using hd0
                have HF : Hid (vprog xs = false) := by
                  simp only [Hid, vprog]
                  rw [progD_none (xs := xs) (k := k + 1) (by rw [HS.out]; simp at h10; simp [depthStep, h10, hdn])]; rfl
                have hi2 : d - 1 < 0 := by omega
                clear hop hd0 hdn
                go_wp2_with (go_at_call 80; refine (HO.out _).mono ?_; rintro e w' ⟨rfl, rfl⟩)
                go_ret
                exact ⟨ret_bool HF.out.symm, by first | exact ⟨_, rfl⟩ | exact ⟨_, World.drewN_drewN _ _ _⟩⟩
          · have HO := Lib.hid (fun W => calls_val (l11Opens_any x.op W) (congrArg Value.bool hop))
            have h10 : (x.op == 10) = false := by unfold opens at hop; simp at hop ⊢; omega
            rcases hd4 : (d == 4) with _ | _
            · have hdn : d ≠ 4 := by simpa using hd4
              have HQ : Hid (progD (xs.take (k + 1)) = some (d + 1)) := by simp only [Hid]; rw [HS.out]; simp at h10; simp [depthStep, h10, hdn, hop]
              have hi2 : ¬ d + 1 < 0 := by omega
              have hi3 : ¬ 4 < d + 1 := by omega
              clear hop hd4
              go_wp2_with (go_at_call 80; refine (HO.out _).mono ?_; rintro e w' ⟨rfl, rfl⟩)
              go_roundw
              case rel => exact ⟨k + 1, d + 1, by omega, by go_num, rfl, HQ.out, ⟨by omega, by omega⟩, by first | exact ⟨_, rfl⟩ | exact ⟨_, World.drewN_drewN _ _ _⟩⟩
              case measure => simp [intOf]; omega
            · have hdn : d = 4 := by simpa using hd4
              have HF : Hid (vprog xs = false) := by
                simp only [Hid, vprog]
                rw [progD_none (xs := xs) (k := k + 1) (by rw [HS.out]; simp at h10; simp [depthStep, h10, hdn, hop])]; rfl
              have hi2 : ¬ d + 1 < 0 := by omega
              have hi3 : 4 < d + 1 := by omega
              clear hop hd4 hdn
              go_wp2_with (go_at_call 80; refine (HO.out _).mono ?_; rintro e w' ⟨rfl, rfl⟩)
              go_ret
              exact ⟨ret_bool HF.out.symm, by first | exact ⟨_, rfl⟩ | exact ⟨_, World.drewN_drewN _ _ _⟩⟩
    · have HK : Hid (progD xs = some d) := by have h1 := HP.out; rwa [List.take_of_length_le (by have := HL.out; omega)] at h1
      rcases hd0 : (d == 0) with _ | _
      · have HF : Hid (vprog xs = false) := by
          simp only [Hid, vprog]; rw [HK.out, decide_eq_false (by simp at hd0 ⊢; exact hd0)]; rfl
        go_wp2_with fail
        go_ret
        exact ⟨ret_bool HF.out.symm, ⟨_, rfl⟩⟩
      · have HF : Hid (vprog xs = decide (n ≤ 120)) := by
          simp only [Hid, vprog]; rw [HK.out, HL.out]; simp at hd0; simp [hd0]
        by_cases h120 : n ≤ 120
        · have hi : (n : Int) ≤ 120 := by omega
          have HG : Hid (decide (n ≤ 120) = true) := decide_eq_true h120
          clear h120
          go_wp2_with fail
          go_ret
          exact ⟨ret_bool (by rw [HF.out, HG.out]), ⟨_, rfl⟩⟩
        · have hi : ¬ (n : Int) ≤ 120 := by omega
          have HG : Hid (decide (n ≤ 120) = false) := decide_eq_false h120
          clear h120
          go_wp2_with fail
          go_ret
          exact ⟨ret_bool (by rw [HF.out, HG.out]), ⟨_, rfl⟩⟩
end Go.Proofs.Ytkfbfainhmkkdaa

namespace Go.Proofs.Ytkfbfainhmkkdaa
open Go.RowKit Go.Sort
/-! programs, plainly: depths, matches, what a run does -/
def depA (xs : List Ins) (k : Nat) : Int := (progD (xs.take k)).getD 0
theorem vprog_len {xs : List Ins} (h : vprog xs = true) : xs.length ≤ 120 := by
  unfold vprog at h; simp only [Bool.and_eq_true, decide_eq_true_eq] at h; exact h.2
theorem vprog_some {xs : List Ins} (h : vprog xs = true) (k : Nat) : progD (xs.take k) = some (depA xs k) := by
  unfold vprog at h; simp only [Bool.and_eq_true, decide_eq_true_eq] at h
  unfold depA
  cases hp : progD (xs.take k) with
  | none => rw [progD_none hp] at h; cases h.1
  | some d => rfl
theorem depA_zero (xs : List Ins) : depA xs 0 = 0 := rfl
theorem depA_end {xs : List Ins} (h : vprog xs = true) {k : Nat} (hk : xs.length ≤ k) : depA xs k = 0 := by
  unfold vprog at h; simp only [Bool.and_eq_true, decide_eq_true_eq] at h
  unfold depA; rw [List.take_of_length_le hk, h.1]; rfl
theorem dep_step {xs : List Ins} (h : vprog xs = true) {k : Nat} (hk : k < xs.length) : instrOk xs[k].op xs[k].arg = true ∧ depthStep xs[k].op (depA xs k) = some (depA xs (k + 1)) := by
  have h1 := vprog_some h (k + 1)
  rw [progD_succ hk, vprog_some h k] at h1
  simp only [stepI, Option.bind_some] at h1
  split at h1
  · rename_i hi; exact ⟨hi, h1⟩
  · cases h1
theorem dep_bd {xs : List Ins} (h : vprog xs = true) : ∀ k : Nat, 0 ≤ depA xs k ∧ depA xs k ≤ 4
  | 0 => by rw [depA_zero]; omega
  | k + 1 => by
    by_cases hk : k < xs.length
    · exact depthStep_bd (dep_step h hk).2 (dep_bd h k).1 (dep_bd h k).2
    · rw [depA_end h (by omega)]; omega
theorem dep_open {xs : List Ins} (h : vprog xs = true) {k : Nat} (hk : k < xs.length) (ho : opens xs[k].op = true) : depA xs (k + 1) = depA xs k + 1 := by
  have h1 := (dep_step h hk).2
  have h10 : ¬ xs[k].op = 10 := by intro h; rw [h] at ho; simp [opens] at ho
  unfold depthStep at h1
  rw [if_neg h10, ho] at h1
  simp only [if_true] at h1
  split at h1
  · cases h1
  · injection h1 with h1; omega
theorem dep_close {xs : List Ins} (h : vprog xs = true) {k : Nat} (hk : k < xs.length) (ho : xs[k].op = 10) : depA xs (k + 1) = depA xs k - 1 := by
  have h1 := (dep_step h hk).2
  unfold depthStep at h1
  rw [if_pos ho] at h1
  split at h1
  · cases h1
  · injection h1 with h1; omega
theorem dep_same {xs : List Ins} (h : vprog xs = true) {k : Nat} (hk : k < xs.length) (ho : opens xs[k].op = false) (h10 : ¬ xs[k].op = 10) : depA xs (k + 1) = depA xs k := by
  have h1 := (dep_step h hk).2
  unfold depthStep at h1
  rw [if_neg h10, ho] at h1
  simp only [Bool.false_eq_true, if_false] at h1
  injection h1 with h1; omega
theorem dep_near {xs : List Ins} (h : vprog xs = true) (k : Nat) : depA xs k - 1 ≤ depA xs (k + 1) ∧ depA xs (k + 1) ≤ depA xs k + 1 := by
  by_cases hk : k < xs.length
  · rcases ho : opens xs[k].op with _ | _
    · by_cases h10 : xs[k].op = 10
      · rw [dep_close h hk h10]; omega
      · rw [dep_same h hk ho h10]; omega
    · rw [dep_open h hk ho]; omega
  · rw [depA_end h (show xs.length ≤ k by omega), depA_end h (show xs.length ≤ k + 1 by omega)]; omega
/-- e is the end of the loop that begins at i -/
def IsMatch (xs : List Ins) (i e : Nat) : Prop := i ≤ e ∧ e < xs.length ∧ depA xs (e + 1) = depA xs i ∧ ∀ j, i < j → j ≤ e → depA xs i < depA xs j
theorem IsMatch.one {xs : List Ins} {i e f : Nat} (h1 : IsMatch xs i e) (h2 : IsMatch xs i f) : e = f := by
  obtain ⟨a1, a2, a3, a4⟩ := h1
  obtain ⟨b1, b2, b3, b4⟩ := h2
  rcases Nat.lt_trichotomy e f with h | h | h
  · have := b4 (e + 1) (by omega) (by omega); omega
  · exact h
  · have := a4 (f + 1) (by omega) (by omega); omega
/-- a part of a program in which all loops are whole -/
structure Seg (xs : List Ins) (i tt : Nat) : Prop where
  le : i ≤ tt
  len : tt ≤ xs.length
  dep : depA xs tt = depA xs i
  above : ∀ j, i ≤ j → j ≤ tt → depA xs i ≤ depA xs j
theorem Seg.all {xs : List Ins} (h : vprog xs = true) : Seg xs 0 xs.length :=
  ⟨Nat.zero_le _, Nat.le_refl _, by rw [depA_end h (Nat.le_refl _), depA_zero], fun j _ _ => by rw [depA_zero]; exact (dep_bd h j).1⟩
theorem Seg.lt {xs : List Ins} {i tt : Nat} (hs : Seg xs i tt) (hi : i < tt) : i < xs.length := Nat.lt_of_lt_of_le hi hs.len
theorem Seg.noEnd {xs : List Ins} (h : vprog xs = true) {i tt : Nat} (hs : Seg xs i tt) (hi : i < tt) : ¬ (xs[i]'(hs.lt hi)).op = 10 := by
  intro h10
  have h1 := dep_close h (hs.lt hi) h10
  have h2 := hs.above (i + 1) (by omega) (by omega)
  omega
theorem Seg.next {xs : List Ins} (h : vprog xs = true) {i tt : Nat} (hs : Seg xs i tt) (hi : i < tt) (ho : opens (xs[i]'(hs.lt hi)).op = false) : Seg xs (i + 1) tt := by
  have h1 := dep_same h (hs.lt hi) ho (hs.noEnd h hi)
  exact ⟨by omega, hs.len, by rw [h1]; exact hs.dep, fun j h2 h3 => by rw [h1]; exact hs.above j (by omega) h3⟩
theorem Seg.loop {xs : List Ins} (h : vprog xs = true) {i tt e : Nat} (hs : Seg xs i tt) (hi : i < tt) (ho : opens (xs[i]'(hs.lt hi)).op = true) (hm : IsMatch xs i e) :
    i < e ∧ e < tt ∧ Seg xs (i + 1) e ∧ Seg xs (e + 1) tt := by
  obtain ⟨m1, m2, m3, m4⟩ := hm
  have h1 := dep_open h (hs.lt hi) ho
  have he : i < e := by
    rcases Nat.lt_or_ge i e with h2 | h2
    · exact h2
    · obtain rfl : e = i := by omega
      omega
  have ht : e < tt := by
    rcases Nat.lt_or_ge e tt with h2 | h2
    · exact h2
    · have := m4 tt hi h2; have := hs.dep; omega
  have h3 := m4 e he (Nat.le_refl _)
  have h4 := dep_near h e
  refine ⟨he, ht, ⟨by omega, by omega, by omega, fun j h5 h6 => ?_⟩, ⟨by omega, hs.len, by rw [m3]; exact hs.dep, fun j h5 h6 => by rw [m3]; exact hs.above j (by omega) h6⟩⟩
  have := m4 j (by omega) h6
  omega
theorem Seg.noOpen {xs : List Ins} {i tt : Nat} (hs : Seg xs i tt) : xs.length = tt ∨ tt < xs.length := by have := hs.len; omega
/-- what a runner holds -/
structure RS where
  m : Tri
  tr : List Int
  done : Nat
  code : Int
def RS.tick (s : RS) : RS := ⟨s.m, s.tr, s.done + 1, if s.done = 3000 then 5 else 0⟩
theorem RS.tick_full {s : RS} (h : s.done = 3000) : s.tick = ⟨s.m, s.tr, s.done + 1, 5⟩ := by simp [RS.tick, h]
theorem RS.tick_ok {s : RS} (h : ¬ s.done = 3000) : s.tick = ⟨s.m, s.tr, s.done + 1, 0⟩ := by simp [RS.tick, h]
/-- the setting set tt a value that fits -/
def setT (t : Tri) (v : Int) : Tri := { t with a := ⟨t.a.base, digD t.a.base t.a.digits.length v⟩ }
def setFits (t : Tri) (v : Int) : Bool := restD t.a.base t.a.digits.length v == 0
inductive Task where
  | run (i tt : Nat)
  | loop (op arg : Int) (i e : Nat) (k : Nat)
  | str (kind : Int) (n : Nat)
/-- what is done by a part of a program; the last is whether the bell has rung -/
inductive Ev (L : List Ins) : Task → RS → RS → Bool → Prop where
  | s0 {kind s} : Ev L (.str kind 0) s s false
  | sFull {kind n s} (h : s.done = 3000) : Ev L (.str kind (n + 1)) s s.tick false
  | sStep {kind n s s' b} (h : ¬ s.done = 3000) (he : Ev L (.str kind n) ⟨(strokeT kind s.m).1, s.tr ++ [kind], s.done + 1, 0⟩ s' b) : Ev L (.str kind (n + 1)) s s' ((strokeT kind s.m).2 || b)
  | rEnd {i tt s} (h : tt ≤ i) : Ev L (.run i tt) s s false
  | rCode {i tt s} (hi : i < tt) (h : ¬ s.code = 0) : Ev L (.run i tt) s s false
  | rSetFull {i tt s} (hi : i < tt) (hl : i < L.length) (hc : s.code = 0) (ho : L[i].op = 1) (h : s.done = 3000) : Ev L (.run i tt) s s.tick false
  | rSetBad {i tt s} (hi : i < tt) (hl : i < L.length) (hc : s.code = 0) (ho : L[i].op = 1) (h : ¬ s.done = 3000) (hf : setFits s.m L[i].arg = false) : Ev L (.run i tt) s ⟨s.m, s.tr, s.done + 1, 10⟩ false
  | rSet {i tt s s' b} (hi : i < tt) (hl : i < L.length) (hc : s.code = 0) (ho : L[i].op = 1) (h : ¬ s.done = 3000) (hf : setFits s.m L[i].arg = true) (he : Ev L (.run (i + 1) tt) ⟨setT s.m L[i].arg, s.tr, s.done + 1, 0⟩ s' b) : Ev L (.run i tt) s s' b
  | rLoop {i tt e s s1 s' b b1} (hi : i < tt) (hl : i < L.length) (hc : s.code = 0) (ho : opens L[i].op = true) (hm : IsMatch L i e) (h1 : Ev L (.loop L[i].op L[i].arg (i + 1) e 0) s s1 b1) (he : Ev L (.run (e + 1) tt) s1 s' b) : Ev L (.run i tt) s s' b
  | rStr {i tt s s1 s' b b1} (hi : i < tt) (hl : i < L.length) (hc : s.code = 0) (ho : opens L[i].op = false) (h1' : ¬ L[i].op = 1) (h1 : Ev L (.str (L[i].op - 1) (max 1 L[i].arg).toNat) s s1 b1) (he : Ev L (.run (i + 1) tt) s1 s' b) : Ev L (.run i tt) s s' (b1 || b)
  | lEnd {op arg : Int} {i e k : Nat} {s : RS} (h8 : op = 8) (hk : arg ≤ (k : Int)) : Ev L (.loop op arg i e k) s s false
  | lFull {op arg : Int} {i e k : Nat} {s : RS} (h8 : ¬ (op = 8 ∧ arg ≤ (k : Int))) (h : s.done = 3000) : Ev L (.loop op arg i e k) s s.tick false
  | lOut {op arg : Int} {i e k : Nat} {s s1 : RS} {b : Bool} (h8 : ¬ (op = 8 ∧ arg ≤ (k : Int))) (h : ¬ s.done = 3000) (h1 : Ev L (.run i e) ⟨s.m, s.tr, s.done + 1, 0⟩ s1 b) (ho : ¬ s1.code = 0 ∨ (op = 9 ∧ b = true)) : Ev L (.loop op arg i e k) s s1 false
  | lStep {op arg : Int} {i e k : Nat} {s s1 s' : RS} {b b2 : Bool} (h8 : ¬ (op = 8 ∧ arg ≤ (k : Int))) (h : ¬ s.done = 3000) (h1 : Ev L (.run i e) ⟨s.m, s.tr, s.done + 1, 0⟩ s1 b) (ho : s1.code = 0 ∧ ¬ (op = 9 ∧ b = true)) (he : Ev L (.loop op arg i e (k + 1)) s1 s' b2) : Ev L (.loop op arg i e k) s s' false
theorem Ev.one {L : List Ins} {t : Task} {s s1 : RS} {b1 : Bool} (h : Ev L t s s1 b1) : ∀ {s2 : RS} {b2 : Bool}, Ev L t s s2 b2 → s1 = s2 ∧ b1 = b2 := by
  induction h with
  | s0 => intro s2 b2 h2; cases h2; exact ⟨rfl, rfl⟩
  | sFull h => intro s2 b2 h2; cases h2 with
    | sFull => exact ⟨rfl, rfl⟩
    | sStep h' => exact absurd h h'
  | sStep h he ih => intro s2 b2 h2; cases h2 with
    | sFull h' => exact absurd h' h
    | sStep _ h' => obtain ⟨rfl, rfl⟩ := ih h'; exact ⟨rfl, rfl⟩
  | rEnd h => intro s2 b2 h2; cases h2 <;> first | exact ⟨rfl, rfl⟩ | omega
  | rCode hi h => intro s2 b2 h2; cases h2 <;> first | exact ⟨rfl, rfl⟩ | contradiction
  | @rSetFull i _ _ hi hl hc ho h =>
    have hop : opens (L[i]'hl).op = false := by rw [ho]; rfl
    intro s2 b2 h2; cases h2 <;> first | exact ⟨rfl, rfl⟩ | contradiction | omega | simp_all
  | @rSetBad i _ _ hi hl hc ho h hf =>
    have hop : opens (L[i]'hl).op = false := by rw [ho]; rfl
    intro s2 b2 h2; cases h2 <;> first | exact ⟨rfl, rfl⟩ | contradiction | omega | simp_all
  | @rSet i _ _ _ _ hi hl hc ho h hf he ih =>
    have hop : opens (L[i]'hl).op = false := by rw [ho]; rfl
    intro s2 b2 h2; cases h2 with
    | rSet _ _ _ _ _ _ he' => exact ih he'
    | _ => first | contradiction | omega | simp_all
  | @rLoop i _ _ _ _ _ _ _ hi hl hc ho hm h1 he ih1 ih2 =>
    have hop : ¬ (L[i]'hl).op = 1 := by intro h; rw [h] at ho; simp [opens] at ho
    intro s2 b2 h2; cases h2 with
    | rLoop _ _ _ _ hm' h1' he' =>
      obtain rfl := hm.one hm'
      obtain ⟨rfl, -⟩ := ih1 h1'
      exact ih2 he'
    | _ => first | contradiction | omega | simp_all
  | rStr hi hl hc ho h1' h1 he ih1 ih2 =>
    intro s2 b2 h2; cases h2 with
    | rStr _ _ _ _ _ h1'' he' =>
      obtain ⟨rfl, rfl⟩ := ih1 h1''
      obtain ⟨rfl, rfl⟩ := ih2 he'
      exact ⟨rfl, rfl⟩
    | _ => first | contradiction | omega | simp_all
  | lEnd h8 hk => intro s2 b2 h2; cases h2 <;> first | exact ⟨rfl, rfl⟩ | (exfalso; rename_i h _; exact h ⟨h8, hk⟩) | (exfalso; simp_all)
  | lFull h8 h => intro s2 b2 h2; cases h2 with
    | lEnd a b => exact absurd ⟨a, b⟩ h8
    | lFull => exact ⟨rfl, rfl⟩
    | lOut _ h' => exact absurd h h'
    | lStep _ h' => exact absurd h h'
  | lOut h8 h h1 ho ih => intro s2 b2 h2; cases h2 with
    | lEnd a b => exact absurd ⟨a, b⟩ h8
    | lFull _ h' => exact absurd h' h
    | lOut _ _ h1' => exact ⟨(ih h1').1, rfl⟩
    | lStep _ _ h1' ho' =>
      obtain ⟨rfl, rfl⟩ := ih h1'
      rcases ho with ho | ho
      · exact absurd ho'.1 ho
      · exact absurd ho ho'.2
  | lStep h8 h h1 ho he ih1 ih2 => intro s2 b2 h2; cases h2 with
    | lEnd a b => exact absurd ⟨a, b⟩ h8
    | lFull _ h' => exact absurd h' h
    | lOut _ _ h1' ho' =>
      obtain ⟨rfl, rfl⟩ := ih1 h1'
      rcases ho' with ho' | ho'
      · exact absurd ho.1 ho'
      · exact absurd ho' ho.2
    | lStep _ _ h1' _ he' =>
      obtain ⟨rfl, rfl⟩ := ih1 h1'
      exact ⟨(ih2 he').1, rfl⟩
theorem restD_div (b : Int) (hb : 2 ≤ b) (k : Nat) (v : Int) (h0 : 0 ≤ v) : restD b k v = v / pw b k := by
  induction k with
  | zero => simp [restD, pw]
  | succ k ih =>
    have h1 := pw_pos b hb k
    rw [restD, ih, Int.tdiv_eq_ediv_of_nonneg (Int.ediv_nonneg h0 (by omega)), Int.ediv_ediv_of_nonneg (by omega)]; rfl
theorem restD_zero (b : Int) (hb : 2 ≤ b) (k : Nat) (v : Int) (h0 : 0 ≤ v) : (restD b k v == 0) = decide (v < pw b k) := by
  have h1 := pw_pos b hb k
  rw [restD_div b hb k v h0, Bool.eq_iff_iff, beq_iff_eq, decide_eq_true_iff]
  constructor
  · intro h
    rcases Int.lt_or_le v (pw b k) with h2 | h2
    · exact h2
    · have := Int.ediv_le_ediv (show 0 < pw b k by omega) h2
      rw [Int.ediv_self (by omega)] at this; omega
  · intro h; exact Int.ediv_eq_zero_of_lt h0 h
/-- what holds of a runner all the time -/
structure RS.Good (s : RS) : Prop where
  m : vmach s.m = true
  tr : s.tr.length ≤ s.done
  done : s.code = 0 → s.done ≤ 3000
  top : s.done ≤ 3001
theorem setT_ok {t : Tri} (v : Int) (h : vmach t = true) (h0 : 0 ≤ v) (h1 : v < pw t.a.base t.a.digits.length) : vmach (setT t v) = true := by
  obtain ⟨k1, k2, k3, e1, e2, f1, f2, l1, c0, c1⟩ := vmach_all h
  obtain ⟨⟨b1, b2⟩, ⟨n1, n2⟩, hd, hl⟩ := vreg_iff.1 k1
  have hm := pw_mono t.a.base (by omega) _ _ l1
  rw [e1] at hm
  refine vmach_mk (t := setT t v) (digD_vreg _ b1 b2 _ (by omega) (by omega) v h0 h1 ?_) k2 k3 e1 e2 f1 f2 (by simp only [setT, digD_len]; exact l1) c0 (by simp only [setT, vplaces, digD_len]; exact c1)
  rw [e1] at h1; omega
theorem RS.Good.tick {s : RS} (h : s.Good) (hc : s.code = 0) : s.tick.Good := by
  have h1 := h.done hc
  have h2 := h.tr
  unfold RS.tick
  split
  · exact ⟨h.m, by simp only []; omega, (fun h => by cases h), by simp only []; omega⟩
  · exact ⟨h.m, by simp only []; omega, fun _ => by simp only []; omega, by simp only []; omega⟩
theorem RS.Good.stroke {s : RS} (h : s.Good) (hc : s.code = 0) (hd : ¬ s.done = 3000) (k : Int) : (RS.mk (strokeT k s.m).1 (s.tr ++ [k]) (s.done + 1) 0).Good := by
  have h1 := h.done hc
  have h2 := h.tr
  exact ⟨strokeT_ok k h.m, by simp; omega, fun _ => by simp only []; omega, by simp only []; omega⟩
theorem RS.Good.more {s : RS} (h : s.Good) (hc : s.code = 0) (hd : ¬ s.done = 3000) (t : Tri) (ht : vmach t = true) (c : Int) : (RS.mk t s.tr (s.done + 1) c).Good := by
  have h1 := h.done hc
  have h2 := h.tr
  exact ⟨ht, by simp only []; omega, fun _ => by simp only []; omega, by simp only []; omega⟩
end Go.Proofs.Ytkfbfainhmkkdaa

namespace Go.Proofs.Ytkfbfainhmkkdaa
open Go.RowKit Go.Sort
/-- what is known at index j of the search for the match of i -/
structure Seek (xs : List Ins) (i j : Nat) (d : Int) : Prop where
  le : i ≤ j
  lt : j < xs.length
  dep : d = depA xs j - depA xs i
  above : ∀ q, i < q → q ≤ j → depA xs i < depA xs q
theorem Seek.next {xs : List Ins} (h : vprog xs = true) {i j : Nat} {d : Int} (hs : Seek xs i j d) (ho : opens (xs[i]'(Nat.lt_of_le_of_lt hs.le hs.lt)).op = true) {d' : Int} (hd : d' = depA xs (j + 1) - depA xs i) (h0 : ¬ d' = 0) : Seek xs i (j + 1) d' := by
  have hn := dep_near h j
  have hi : i < xs.length := Nat.lt_of_le_of_lt hs.le hs.lt
  have hb := dep_bd h i
  have hge : depA xs i ≤ depA xs (j + 1) := by
    rcases Nat.lt_or_eq_of_le hs.le with h1 | h1
    · have := hs.above j h1 (Nat.le_refl _); omega
    · subst h1; rw [dep_open h hi ho]; omega
  have hl : j + 1 < xs.length := by
    rcases Nat.lt_or_ge (j + 1) xs.length with h1 | h1
    · exact h1
    · have := depA_end h h1; omega
  refine ⟨by have := hs.le; omega, hl, hd, fun q h1 h2 => ?_⟩
  rcases Nat.lt_or_eq_of_le h2 with h3 | h3
  · exact hs.above q h1 (by omega)
  · subst h3; omega
theorem Seek.found {xs : List Ins} {i j : Nat} {d : Int} (hs : Seek xs i j d) {d' : Int} (hd : d' = depA xs (j + 1) - depA xs i) (h0 : d' = 0) : IsMatch xs i j := ⟨hs.le, hs.lt, by omega, hs.above⟩
theorem Seek.zero {xs : List Ins} {i : Nat} (hi : i < xs.length) : Seek xs i i 0 := ⟨Nat.le_refl _, hi, by omega, fun q h1 h2 => by omega⟩
def MatchRet (xs : List Ins) (i : Nat) (w : World) (e : Ending) (w' : World) : Prop := ∃ f : Nat, e = .returned (.int .i64 f) ∧ IsMatch xs i f ∧ Below w.heap.size w w'
def MatchRet0 (xs : List Ins) (i : Nat) (w : World) (e : Ending) (w' : World) : Prop := ∃ f : Nat, e = .returned (.int .i64 f) ∧ IsMatch xs i f ∧ w = w'
set_option maxRecDepth 100000 in
set_option maxHeartbeats 3200000 in
theorem matchOf_any (A : Option Addr) (n c : Nat) (xs : List Ins) (i : Nat) (w : World) (hr : RL InsM 2 w A n xs) (hv : vprog xs = true) (hi : i < xs.length) (ho : opens xs[i].op = true) :
    Calls Try.prog 84 #[.slice A n c, .int .i64 i] w (MatchRet xs i w) := by
  have h120 := vprog_len hv
  have HL := Lib.hid hr.1
  have HR := Lib.hid hr
  have HO := Lib.hid ho
  have hn : n ≤ 120 := by have := HL.out; omega
  clear hr ho
  go_enter Try.func84, Try.ntmps84
  go_wp2_with fail
  go_loopw [5, 6] (fun dd ii wr => ∃ (j : Nat) (d : Int), ii = .int .i64 j ∧ dd = .int .i64 d ∧ Seek xs i j d ∧ Kn w [] wr) (fun _ ii _ => xs.length - (intOf ii).toNat)
  case atStart => exact ⟨i, 0, rfl, rfl, Seek.zero hi, Kn.nil _⟩
  case round =>
    obtain ⟨j, d, rfl, rfl, hs, hK⟩ := hrel
    have HS := Lib.hid hs
    have hlt := hs.lt
    have hdep := hs.dep
    have hb1 := dep_bd hv j
    have hb2 := dep_bd hv i
    have hd4 : -4 ≤ d ∧ d ≤ 4 := by omega
    obtain ⟨ad, hA, hlt2, hkl, hx⟩ := (HR.out.below steady_InsM hK.below).at_ (show j < n by have := HL.out; omega)
    obtain ⟨x1, x2⟩ := hx
    obtain ⟨x, hxe⟩ : ∃ x, xs[j] = x := ⟨_, rfl⟩
    rw [hxe] at x1 x2
    have hj0 : (0 : Int) ≤ (j : Int) := by omega
    have hj1 : (j : Int) < (n : Int) := by have := HL.out; omega
    subst hA
    have hup : opens x.op = true → d + 1 = depA xs (j + 1) - depA xs i := fun h => by rw [dep_open hv hlt (by rw [hxe]; exact h)]; omega
    have hdn : x.op = 10 → d - 1 = depA xs (j + 1) - depA xs i := fun h => by rw [dep_close hv hlt (by rw [hxe]; exact h)]; omega
    have heq : opens x.op = false → ¬ x.op = 10 → d = depA xs (j + 1) - depA xs i := fun h h2 => by rw [dep_same hv hlt (by rw [hxe]; exact h) (by rw [hxe]; exact h2)]; omega
    clear hxe hs hdep hb1 hb2
    have hB := begins_any x.op x.arg
    rcases hop : opens x.op with _ | _
    · rw [hop] at hB
      have KB := Lib.hid hB
      rcases h10 : (x.op == 10) with _ | _
      · have HD := Lib.hid (heq hop (by simpa using h10))
        clear hup hdn heq hop hB
        rcases h0 : (d == 0) with _ | _
        · have h0' : ¬ d = 0 := by simpa using h0
          have HN := Lib.hid (HS.out.next hv HO.out HD.out h0')
          clear h0'
          go_wp2_with (go_at_call 83; refine (KB.out _).mono ?_; rintro e w1 ⟨rfl, hw⟩; have hK1 := hK.keep hw; have y2 := (hw.cell (p := ⟨(ad.add (j * 2)).block, (ad.add (j * 2)).off + 1, none⟩) (by show (ad.add (j * 2)).block < _; rw [block_of_add]; exact hlt2)).trans x2; have y1 := (hw.cell (p := ad.add (j * 2)) (by rw [block_of_add]; exact hlt2)).trans x1)
          go_roundw
          case rel => exact ⟨j + 1, d, by go_num, rfl, HN.out, hK1⟩
          case measure => have := HN.out.lt; simp [intOf]; omega
        · have h0' : d = 0 := by simpa using h0
          have HF := Lib.hid (HS.out.found HD.out h0')
          clear h0'
          go_wp2_with (go_at_call 83; refine (KB.out _).mono ?_; rintro e w1 ⟨rfl, hw⟩; have hK1 := hK.keep hw; have y2 := (hw.cell (p := ⟨(ad.add (j * 2)).block, (ad.add (j * 2)).off + 1, none⟩) (by show (ad.add (j * 2)).block < _; rw [block_of_add]; exact hlt2)).trans x2; have y1 := (hw.cell (p := ad.add (j * 2)) (by rw [block_of_add]; exact hlt2)).trans x1)
          go_ret
          exact ⟨j, rfl, HF.out, hK1.below⟩
      · have HD := Lib.hid (hdn (by simpa using h10))
        clear hup hdn heq hop hB
        rcases h0 : (d - 1 == 0) with _ | _
        · have h0' : ¬ d - 1 = 0 := by simpa using h0
          have HN := Lib.hid (HS.out.next hv HO.out HD.out h0')
          clear h0'
          go_wp2_with (go_at_call 83; refine (KB.out _).mono ?_; rintro e w1 ⟨rfl, hw⟩; have hK1 := hK.keep hw; have y2 := (hw.cell (p := ⟨(ad.add (j * 2)).block, (ad.add (j * 2)).off + 1, none⟩) (by show (ad.add (j * 2)).block < _; rw [block_of_add]; exact hlt2)).trans x2; have y1 := (hw.cell (p := ad.add (j * 2)) (by rw [block_of_add]; exact hlt2)).trans x1)
          go_roundw
          case rel => exact ⟨j + 1, d - 1, by go_num, rfl, HN.out, hK1⟩
          case measure => have := HN.out.lt; simp [intOf]; omega
        · have h0' : d - 1 = 0 := by simpa using h0
          have HF := Lib.hid (HS.out.found HD.out h0')
          clear h0'
          go_wp2_with (go_at_call 83; refine (KB.out _).mono ?_; rintro e w1 ⟨rfl, hw⟩; have hK1 := hK.keep hw; have y2 := (hw.cell (p := ⟨(ad.add (j * 2)).block, (ad.add (j * 2)).off + 1, none⟩) (by show (ad.add (j * 2)).block < _; rw [block_of_add]; exact hlt2)).trans x2; have y1 := (hw.cell (p := ad.add (j * 2)) (by rw [block_of_add]; exact hlt2)).trans x1)
          go_ret
          exact ⟨j, rfl, HF.out, hK1.below⟩
    · rw [hop] at hB
      have KB := Lib.hid hB
      have h10 : (x.op == 10) = false := by unfold opens at hop; simp at hop ⊢; omega
      have HD := Lib.hid (hup hop)
      clear hup hdn heq hop hB
      rcases h0 : (d + 1 == 0) with _ | _
      · have h0' : ¬ d + 1 = 0 := by simpa using h0
        have HN := Lib.hid (HS.out.next hv HO.out HD.out h0')
        clear h0'
        go_wp2_with (go_at_call 83; refine (KB.out _).mono ?_; rintro e w1 ⟨rfl, hw⟩; have hK1 := hK.keep hw; have y2 := (hw.cell (p := ⟨(ad.add (j * 2)).block, (ad.add (j * 2)).off + 1, none⟩) (by show (ad.add (j * 2)).block < _; rw [block_of_add]; exact hlt2)).trans x2; have y1 := (hw.cell (p := ad.add (j * 2)) (by rw [block_of_add]; exact hlt2)).trans x1)
        go_roundw
        case rel => exact ⟨j + 1, d + 1, by go_num, rfl, HN.out, hK1⟩
        case measure => have := HN.out.lt; simp [intOf]; omega
      · have h0' : d + 1 = 0 := by simpa using h0
        have HF := Lib.hid (HS.out.found HD.out h0')
        clear h0'
        go_wp2_with (go_at_call 83; refine (KB.out _).mono ?_; rintro e w1 ⟨rfl, hw⟩; have hK1 := hK.keep hw; have y2 := (hw.cell (p := ⟨(ad.add (j * 2)).block, (ad.add (j * 2)).off + 1, none⟩) (by show (ad.add (j * 2)).block < _; rw [block_of_add]; exact hlt2)).trans x2; have y1 := (hw.cell (p := ad.add (j * 2)) (by rw [block_of_add]; exact hlt2)).trans x1)
        go_ret
        exact ⟨j, rfl, HF.out, hK1.below⟩
set_option maxRecDepth 100000 in
set_option maxHeartbeats 3200000 in
theorem l11Match_any (A : Option Addr) (n c : Nat) (xs : List Ins) (i : Nat) (w : World) (hr : RL InsM 2 w A n xs) (hv : vprog xs = true) (hi : i < xs.length) (ho : opens xs[i].op = true) :
    Calls Try.prog 86 #[.slice A n c, .int .i64 i] w (MatchRet0 xs i w) := by
  have h120 := vprog_len hv
  have HL := Lib.hid hr.1
  have HR := Lib.hid hr
  have HO := Lib.hid ho
  have hn : n ≤ 120 := by have := HL.out; omega
  clear hr ho
  go_enter Try.func86, Try.ntmps86
  go_wp2_with fail
  go_loop [5, 6] (fun dd ii => ∃ (j : Nat) (d : Int), ii = .int .i64 j ∧ dd = .int .i64 d ∧ Seek xs i j d) (fun _ ii => xs.length - (intOf ii).toNat)
  case atStart => exact ⟨i, 0, rfl, rfl, Seek.zero hi⟩
  case round =>
    obtain ⟨j, d, rfl, rfl, hs⟩ := hrel
    have HS := Lib.hid hs
    have hlt := hs.lt
    have hdep := hs.dep
    have hb1 := dep_bd hv j
    have hb2 := dep_bd hv i
    have hd4 : -4 ≤ d ∧ d ≤ 4 := by omega
    obtain ⟨ad, hA, hlt2, hkl, hx⟩ := HR.out.at_ (show j < n by have := HL.out; omega)
    obtain ⟨x1, x2⟩ := hx
    obtain ⟨x, hxe⟩ : ∃ x, xs[j] = x := ⟨_, rfl⟩
    rw [hxe] at x1 x2
    have hj0 : (0 : Int) ≤ (j : Int) := by omega
    have hj1 : (j : Int) < (n : Int) := by have := HL.out; omega
    subst hA
    have hup : opens x.op = true → d + 1 = depA xs (j + 1) - depA xs i := fun h => by rw [dep_open hv hlt (by rw [hxe]; exact h)]; omega
    have hdn : x.op = 10 → d - 1 = depA xs (j + 1) - depA xs i := fun h => by rw [dep_close hv hlt (by rw [hxe]; exact h)]; omega
    have heq : opens x.op = false → ¬ x.op = 10 → d = depA xs (j + 1) - depA xs i := fun h h2 => by rw [dep_same hv hlt (by rw [hxe]; exact h) (by rw [hxe]; exact h2)]; omega
    clear hxe hs hdep hb1 hb2
    have hB := l11Opens_any x.op
    rcases hop : opens x.op with _ | _
    · rw [hop] at hB
      have KB := Lib.hid hB
      rcases h10 : (x.op == 10) with _ | _
      · have HD := Lib.hid (heq hop (by simpa using h10))
        clear hup hdn heq hop hB
        rcases h0 : (d == 0) with _ | _
        · have h0' : ¬ d = 0 := by simpa using h0
          have HN := Lib.hid (HS.out.next hv HO.out HD.out h0')
          clear h0'
          go_wp2_with (go_at_call 80; refine (KB.out _).mono ?_; rintro e w1 ⟨rfl, rfl⟩)
          go_round
          case rel => exact ⟨j + 1, d, by go_num, rfl, HN.out⟩
          case measure => have := HN.out.lt; simp [intOf]; omega
        · have h0' : d = 0 := by simpa using h0
          have HF := Lib.hid (HS.out.found HD.out h0')
          clear h0'
          go_wp2_with (go_at_call 80; refine (KB.out _).mono ?_; rintro e w1 ⟨rfl, rfl⟩)
          go_ret
          exact ⟨j, rfl, HF.out, rfl⟩
      · have HD := Lib.hid (hdn (by simpa using h10))
        clear hup hdn heq hop hB
        rcases h0 : (d - 1 == 0) with _ | _
        · have h0' : ¬ d - 1 = 0 := by simpa using h0
          have HN := Lib.hid (HS.out.next hv HO.out HD.out h0')
          clear h0'
          go_wp2_with (go_at_call 80; refine (KB.out _).mono ?_; rintro e w1 ⟨rfl, rfl⟩)
          go_round
          case rel => exact ⟨j + 1, d - 1, by go_num, rfl, HN.out⟩
          case measure => have := HN.out.lt; simp [intOf]; omega
        · have h0' : d - 1 = 0 := by simpa using h0
          have HF := Lib.hid (HS.out.found HD.out h0')
          clear h0'
          go_wp2_with (go_at_call 80; refine (KB.out _).mono ?_; rintro e w1 ⟨rfl, rfl⟩)
          go_ret
          exact ⟨j, rfl, HF.out, rfl⟩
    · rw [hop] at hB
      have KB := Lib.hid hB
      have h10 : (x.op == 10) = false := by unfold opens at hop; simp at hop ⊢; omega
      have HD := Lib.hid (hup hop)
      clear hup hdn heq hop hB
      rcases h0 : (d + 1 == 0) with _ | _
      · have h0' : ¬ d + 1 = 0 := by simpa using h0
        have HN := Lib.hid (HS.out.next hv HO.out HD.out h0')
        clear h0'
        go_wp2_with (go_at_call 80; refine (KB.out _).mono ?_; rintro e w1 ⟨rfl, rfl⟩)
        go_round
        case rel => exact ⟨j + 1, d + 1, by go_num, rfl, HN.out⟩
        case measure => have := HN.out.lt; simp [intOf]; omega
      · have h0' : d + 1 = 0 := by simpa using h0
        have HF := Lib.hid (HS.out.found HD.out h0')
        clear h0'
        go_wp2_with (go_at_call 80; refine (KB.out _).mono ?_; rintro e w1 ⟨rfl, rfl⟩)
        go_ret
        exact ⟨j, rfl, HF.out, rfl⟩
end Go.Proofs.Ytkfbfainhmkkdaa

namespace Go.Proofs.Ytkfbfainhmkkdaa
open Go.RowKit Go.Sort
/-- the program's runner in block g -/
def RunI (w0 : World) (g : Nat) (LV : Value) (s : RS) (m : List Ent) (w : World) : Prop := ∃ SA sc, MB w0 g [LV, .int .i64 (s.done : Int), .slice SA s.tr.length sc, .int .i64 s.code] 82 s.m (rowI SA sc s.tr :: m) w
/-- the reference's runner in block g -/
def RunS (w0 : World) (g : Nat) (LV : Value) (s : RS) (bell : Bool) (m : List Ent) (w : World) : Prop := ∃ SA sc, MB w0 g [LV, .slice SA s.tr.length sc, .int .i64 (s.done : Int), .bool bell, .int .i64 s.code] 88 s.m (rowI SA sc s.tr :: m) w
theorem counted_full {w0 : World} {g : Nat} {LV : Value} {m : List Ent} (s : RS) (w : World) (hM : RunI w0 g LV s m w) (hc : s.code = 0) (hd : s.done = 3000) :
    Calls Try.prog 154 #[.pointer (some ⟨g, 0, none⟩)] w fun e w' => e = .returned (.bool false) ∧ RunI w0 g LV ⟨s.m, s.tr, s.done + 1, 5⟩ m w' := by
  obtain ⟨SA, sc, A1, c1, A2, c2, A3, c3, hK⟩ := hM
  obtain ⟨a1, a2, a3⟩ := hK.blkAt
  have h1 : ((s.done : Int) == 3000) = true := by simp; omega
  have h2 : (s.code == 0) = true := by simp [hc]
  have hb : (s.done : Int) ≤ 3000 := by omega
  clear hc hd
  go_enter Try.func154, Try.ntmps154
  go_wp2_with fail
  go_ret
  exact ⟨rfl, SA, sc, A1, c1, A2, c2, A3, c3, (hK.st 10 _).st 8 _⟩
theorem counted_ok {w0 : World} {g : Nat} {LV : Value} {m : List Ent} (s : RS) (w : World) (hM : RunI w0 g LV s m w) (hc : s.code = 0) (hd : ¬ s.done = 3000) (hb : s.done ≤ 3000) :
    Calls Try.prog 154 #[.pointer (some ⟨g, 0, none⟩)] w fun e w' => e = .returned (.bool true) ∧ RunI w0 g LV ⟨s.m, s.tr, s.done + 1, 0⟩ m w' := by
  obtain ⟨SA, sc, A1, c1, A2, c2, A3, c3, hK⟩ := hM
  obtain ⟨a1, a2, a3⟩ := hK.blkAt
  have h1 : ((s.done : Int) == 3000) = false := by simp; omega
  have h2 : (s.code == 0) = true := by simp [hc]
  have HC := Lib.hid hc
  clear hc hd
  go_enter Try.func154, Try.ntmps154
  go_wp2_with fail
  go_ret
  refine ⟨rfl, SA, sc, A1, c1, A2, c2, A3, c3, ?_⟩
  have hK2 := hK.st 8 (.int .i64 ((s.done : Int) + 1))
  rw [HC.out] at hK2
  exact hK2
theorem tick_full {w0 : World} {g : Nat} {LV : Value} {m : List Ent} {bell : Bool} (s : RS) (w : World) (hM : RunS w0 g LV s bell m w) (hc : s.code = 0) (hd : s.done = 3000) :
    Calls Try.prog 171 #[.pointer (some ⟨g, 0, none⟩)] w fun e w' => e = .returned (.bool false) ∧ RunS w0 g LV ⟨s.m, s.tr, s.done + 1, 5⟩ bell m w' := by
  obtain ⟨SA, sc, A1, c1, A2, c2, A3, c3, hK⟩ := hM
  obtain ⟨a1, a2, a3⟩ := hK.blkAt
  have hb : (3000 : Int) < (s.done : Int) + 1 := by omega
  have hb2 : (s.done : Int) ≤ 3000 := by omega
  have h2 : (s.code == 0) = true := by simp [hc]
  clear hc hd
  go_enter Try.func171, Try.ntmps171
  go_wp2_with fail
  go_ret
  exact ⟨rfl, SA, sc, A1, c1, A2, c2, A3, c3, (hK.st 9 _).st 11 _⟩
theorem tick_ok {w0 : World} {g : Nat} {LV : Value} {m : List Ent} {bell : Bool} (s : RS) (w : World) (hM : RunS w0 g LV s bell m w) (hc : s.code = 0) (hd : ¬ s.done = 3000) (hb0 : s.done ≤ 3000) :
    Calls Try.prog 171 #[.pointer (some ⟨g, 0, none⟩)] w fun e w' => e = .returned (.bool true) ∧ RunS w0 g LV ⟨s.m, s.tr, s.done + 1, 0⟩ bell m w' := by
  obtain ⟨SA, sc, A1, c1, A2, c2, A3, c3, hK⟩ := hM
  obtain ⟨a1, a2, a3⟩ := hK.blkAt
  have hb : ¬ (3000 : Int) < (s.done : Int) + 1 := by omega
  have hb2 : (s.done : Int) ≤ 3000 := by omega
  have h2 : (s.code == 0) = true := by simp [hc]
  have HC := Lib.hid hc
  clear hc hd hb0
  go_enter Try.func171, Try.ntmps171
  go_wp2_with fail
  go_ret
  refine ⟨rfl, SA, sc, A1, c1, A2, c2, A3, c3, ?_⟩
  have hK2 := hK.st 9 (.int .i64 ((s.done : Int) + 1))
  rw [HC.out] at hK2
  exact hK2
end Go.Proofs.Ytkfbfainhmkkdaa

namespace Go.Proofs.Ytkfbfainhmkkdaa
open Go.RowKit Go.Sort
/-- what SetValue returns for a valid machine -/
def SetRet (t : Tri) (v : Int) (w : World) (e : Ending) (w' : World) : Prop :=
  (v < pw t.a.base t.a.digits.length ∧ ∃ A1 c1 A2 c2 A3 c3, e = .returned (.tuple #[.agg #[.int .i64 t.a.base, .slice A1 (setT t v).a.digits.length c1, .int .i64 t.b.base, .slice A2 t.b.digits.length c2, .int .i64 t.s.base, .slice A3 t.s.digits.length c3, .int .i64 t.carry], .int .i64 0]) ∧
    Kn w [rowI A3 c3 t.s.digits, rowI A2 c2 t.b.digits, rowI A1 c1 (setT t v).a.digits] w') ∨
  (¬ v < pw t.a.base t.a.digits.length ∧ e = .returned (.tuple #[.agg #[.int .i64 0, .slice none 0 0, .int .i64 0, .slice none 0 0, .int .i64 0, .slice none 0 0, .int .i64 0], .int .i64 2]) ∧ Below w.heap.size w w')
set_option maxRecDepth 100000 in
set_option maxHeartbeats 3200000 in
theorem SetValueV_any (t : Tri) (A1 A2 A3 : Option Addr) (c1 c2 c3 : Nat) (v : Int) (w : World) (r1 : RI w A1 t.a.digits.length t.a.digits) (r2 : RI w A2 t.b.digits.length t.b.digits) (r3 : RI w A3 t.s.digits.length t.s.digits) (hv : vmach t = true) (h0 : 0 ≤ v) (h1 : v ≤ 1000000000000) :
    Calls Try.prog 172 #[.agg #[.int .i64 t.a.base, .slice A1 t.a.digits.length c1, .int .i64 t.b.base, .slice A2 t.b.digits.length c2, .int .i64 t.s.base, .slice A3 t.s.digits.length c3, .int .i64 t.carry], .int .i64 v] w (SetRet t v w) := by
  obtain ⟨k1, k2, k3, e1, e2, f1, f2, l1, p0, p1⟩ := vmach_all hv
  obtain ⟨⟨b1, b2⟩, ⟨n1, n2⟩, hd1, -⟩ := vreg_iff.1 k1
  obtain ⟨⟨b3, b4⟩, ⟨n3, n4⟩, hd2, -⟩ := vreg_iff.1 k2
  obtain ⟨⟨b5, b6⟩, ⟨n5, n6⟩, hd3, -⟩ := vreg_iff.1 k3
  have hz : Sized t := ⟨n1, n3, n5, n2, n4, n6⟩
  have hT : ∀ W, Kn w [.blk (w.heap.size + 1) [.int .i64 0, .slice none 0 0, .int .i64 0, .slice none 0 0, .int .i64 0, .slice none 0 0, .int .i64 0] 28, .blk w.heap.size [.int .i64 t.a.base, .slice A1 t.a.digits.length c1, .int .i64 t.b.base, .slice A2 t.b.digits.length c2, .int .i64 t.s.base, .slice A3 t.s.digits.length c3, .int .i64 t.carry] 28] W → TriC W ⟨w.heap.size, 0, none⟩ t A1 c1 A2 c2 A3 c3 := fun W h =>
    ⟨⟨h.drop.blkAt.1 0, h.drop.blkAt.1 1, h.drop.blkAt.1 2, h.drop.blkAt.1 3, h.drop.blkAt.1 4, h.drop.blkAt.1 5, h.drop.blkAt.1 6⟩, r1.below h.below, r2.below h.below, r3.below h.below⟩
  have KO := Lib.hid (fun W h => calls_val (l10Ok_any ⟨w.heap.size, 0, none⟩ t W (hT W h).tri ⟨by unfold SmallReg; omega, by unfold SmallReg; omega, by unfold SmallReg; omega⟩) (congrArg Value.bool hv))
  have KN := (fun W => l10Power_any t.a.base t.a.digits.length W b1 b2 (by omega))
  have hmo := pw_mono t.a.base (by omega) _ _ l1
  rw [← e1] at f1
  have hpc : powS t.a.base t.a.digits.length = pw t.a.base t.a.digits.length := by unfold powS; omega
  rw [hpc] at KN
  have hp1 := pw_pos t.a.base b1 t.a.digits.length
  have KW := Lib.hid (fun W h => l10Own_any w.heap.size t A1 A2 A3 c1 c2 c3 W (hT W h) hz)
  have KD := (fun W => l02NewV_any t.a.base t.a.digits.length v W b1 b2 (by omega) h0 (by omega))
  have hst : (setT t v).a.digits = digD t.a.base t.a.digits.length v := rfl
  obtain ⟨N, hN⟩ : ∃ N, pw t.a.base t.a.digits.length = N := ⟨_, rfl⟩
  have HN := Lib.hid hN
  rw [hN] at KN hp1 hmo
  obtain ⟨ds, hds⟩ : ∃ ds, digD t.a.base t.a.digits.length v = ds := ⟨_, rfl⟩
  rw [hds] at KD hst
  have HST := Lib.hid hst
  have KN := Lib.hid KN
  have KD := Lib.hid KD
  have hwn : IntKind.i64.wrap (N - 1) = N - 1 := wrapI64 (by omega)
  clear hst hds hN hpc hT r1 r2 r3 k1 k2 k3 hd1 hd2 hd3 e1 e2 hv hz
  rcases hbt : betB v 0 (N - 1) with _ | _
  · have KI := Lib.hid (fun W => calls_val (l00In_any v 0 (N - 1) W) (congrArg Value.bool hbt))
    have HV := Lib.hid (show ¬ v < N by have := betB_false.1 hbt; omega)
    clear hbt h0 h1 p0 p1
    go_enter Try.func172, Try.ntmps172
    go_wp2_with fail
    refine Calls.kn (((Kn.nil w).al [.int .i64 t.a.base, .slice A1 t.a.digits.length c1, .int .i64 t.b.base, .slice A2 t.b.digits.length c2, .int .i64 t.s.base, .slice A3 t.s.digits.length c3, .int .i64 t.carry] 28).al [.int .i64 0, .slice none 0 0, .int .i64 0, .slice none 0 0, .int .i64 0, .slice none 0 0, .int .i64 0] 28) ?_; intro w1 hK1
    simp only [World.size_alloc] at hK1
    refine (KO.out _ hK1).mono ?_; rintro e w2 ⟨rfl, q, rfl⟩
    have hK2 := hK1.drewN q
    generalize w1.drewN q = w2 at hK2 ⊢
    clear hK1
    obtain ⟨a1, a2, a3, d1, d2, d3, -⟩ := hK2.cells
    go_wp2_with (first | (go_at_call 158; refine (KN.out _).mono ?_; rintro e w' ⟨rfl, rfl⟩) | (go_at_call 85; refine (KI.out _).mono ?_; rintro e w' ⟨rfl, rfl⟩))
    refine bodyPost.kn (((((((hK2.st 0 (.int .i64 0)).st 1 (.slice none 0 0)).st 2 (.int .i64 0)).st 3 (.slice none 0 0)).st 4 (.int .i64 0)).st 5 (.slice none 0 0)).st 6 (.int .i64 0)) ?_; intro w6 hK6
    clear a1 a2 a3 d1 d2 d3
    obtain ⟨a1, a2, a3, -⟩ := hK6.cells
    exact bodyPost_ret (v := .tuple #[.agg #[.int .i64 0, .slice none 0 0, .int .i64 0, .slice none 0 0, .int .i64 0, .slice none 0 0, .int .i64 0], .int .i64 2]) (by simp [results, Try.results172, go_sem, a1]) rfl (.inr ⟨by rw [HN.out]; have := HV.out; omega, rfl, hK6.below⟩)
  · have KI := Lib.hid (fun W => calls_val (l00In_any v 0 (N - 1) W) (congrArg Value.bool hbt))
    have HV : Hid (v < N) := by have := betB_iff.1 hbt; simp only [Hid]; omega
    clear hbt h0 h1 p0 p1
    go_enter Try.func172, Try.ntmps172
    go_wp2_with fail
    refine Calls.kn (((Kn.nil w).al [.int .i64 t.a.base, .slice A1 t.a.digits.length c1, .int .i64 t.b.base, .slice A2 t.b.digits.length c2, .int .i64 t.s.base, .slice A3 t.s.digits.length c3, .int .i64 t.carry] 28).al [.int .i64 0, .slice none 0 0, .int .i64 0, .slice none 0 0, .int .i64 0, .slice none 0 0, .int .i64 0] 28) ?_; intro w1 hK1
    simp only [World.size_alloc] at hK1
    refine (KO.out _ hK1).mono ?_; rintro e w2 ⟨rfl, q, rfl⟩
    have hK2 := hK1.drewN q
    generalize w1.drewN q = w2 at hK2 ⊢
    clear hK1
    obtain ⟨a1, a2, a3, d1, d2, d3, -⟩ := hK2.cells
    go_wp2_with (first | (go_at_call 158; refine (KN.out _).mono ?_; rintro e w' ⟨rfl, rfl⟩) | (go_at_call 85; refine (KI.out _).mono ?_; rintro e w' ⟨rfl, rfl⟩))
    refine (KW.out _ hK2).mono ?_; rintro e w3 ⟨B1, h1, B2, h2, B3, h3, rfl, hKC⟩
    have hK3 := hK2.join hKC
    clear hK2 hKC a1 a2 a3 d1 d2 d3
    obtain ⟨a1, a2, a3, d1, d2, d3, -⟩ := hK3.cells
    go_wp2_with fail
    refine Calls.kn (hK3.al [.int .i64 t.a.base, .slice B1 t.a.digits.length h1, .int .i64 t.b.base, .slice B2 t.b.digits.length h2, .int .i64 t.s.base, .slice B3 t.s.digits.length h3, .int .i64 t.carry] 28) ?_; intro w4 hK4
    refine (KD.out _).mono ?_; rintro e w5 ⟨E1, g1, rfl, hKD⟩
    have hK5 := hK4.join hKD
    clear hK3 hK4 hKD a1 a2 a3 d1 d2 d3
    obtain ⟨x1, x2, x3, a1, a2, a3, d1, d2, d3, -⟩ := hK5.cells
    have ne1 := hK5.ne 1 5 rfl rfl (by decide)
    have ne2 := ne1.symm
    go_wp2_with fail
    refine bodyPost.kn ((((((((((((hK5.sw1.st 0 (.int .i64 t.a.base)).st 1 (.slice E1 ds.length g1)).front 5 rfl).st 0 (.int .i64 t.a.base)).st 1 (.slice E1 ds.length g1)).st 2 (.int .i64 t.b.base)).st 3 (.slice B2 t.b.digits.length h2)).st 4 (.int .i64 t.s.base)).st 5 (.slice B3 t.s.digits.length h3)).st 6 (.int .i64 t.carry))).al_ _) ?_; intro w6 hK6
    clear x1 x2 x3 a1 a2 a3 d1 d2 d3
    obtain ⟨a1, a2, a3, -⟩ := hK6.cells
    refine bodyPost_ret (v := .tuple #[.agg #[.int .i64 t.a.base, .slice E1 ds.length g1, .int .i64 t.b.base, .slice B2 t.b.digits.length h2, .int .i64 t.s.base, .slice B3 t.s.digits.length h3, .int .i64 t.carry], .int .i64 0]) (by simp [results, Try.results172, go_sem, a1]) rfl (.inl ⟨by rw [HN.out]; exact HV.out, E1, g1, B2, h2, B3, h3, by rw [HST.out], ?_⟩)
    rw [HST.out]
    exact hK6.sel [3, 4, 2] 99 (by decide) (by decide)
end Go.Proofs.Ytkfbfainhmkkdaa

namespace Go.Proofs.Ytkfbfainhmkkdaa
open Go.RowKit Go.Sort
def StrS (L : List Ins) (w0 : World) (g : Nat) (LV : Value) (m : List Ent) (kind : Int) (N : Nat) (s : RS) (b : Bool) (e : Ending) (w' : World) : Prop := ∃ s' b', e = .returned (.tuple #[]) ∧ Ev L (.str kind N) s s' b' ∧ RunS w0 g LV s' (b || b') m w' ∧ s'.Good
set_option maxRecDepth 100000 in
set_option maxHeartbeats 1600000 in
theorem strokesS_any {L : List Ins} {w0 : World} {g : Nat} {LV : Value} {m : List Ent} {b : Bool} (s : RS) (kind : Int) (N : Nat) (w : World) (hM : RunS w0 g LV s b m w) (hg : s.Good) (hc : s.code = 0) (hk : 1 ≤ kind ∧ kind ≤ 6) (hN : N ≤ 1000000) :
    Calls Try.prog 162 #[.pointer (some ⟨g, 0, none⟩), .int .i64 kind, .int .i64 N] w (StrS L w0 g LV m kind N s b) := by
  go_enter Try.func162, Try.ntmps162
  go_wp2_with fail
  go_loopw [6] (fun kk wr => ∃ (j : Nat) (s1 : RS) (b1 : Bool), j ≤ N ∧ kk = .int .i64 j ∧ RunS w0 g LV s1 (b || b1) m wr ∧ s1.Good ∧ s1.code = 0 ∧ ∀ s' b', Ev L (.str kind (N - j)) s1 s' b' → Ev L (.str kind N) s s' (b1 || b')) (fun kk _ => N - (intOf kk).toNat)
  case atStart => exact ⟨0, s, false, Nat.zero_le _, rfl, by simpa using hM, hg, hc, fun s' b' h => by simpa using h⟩
  case round =>
    clear hM
    obtain ⟨j, s1, b1, hj, rfl, hM, hg1, hc1, hev⟩ := hrel
    have HM := Lib.hid hM
    have HG := Lib.hid hg1
    have HC := Lib.hid hc1
    have HE := Lib.hid hev
    have h2 : (s1.code == 0) = true := by simp [hc1]
    have hdn := hg1.done hc1
    have htl := hg1.tr
    obtain ⟨SA, sc, A1, c1, A2, c2, A3, c3, hK⟩ := hM
    obtain ⟨a1, a2, a3⟩ := hK.blkAt
    clear hg1 hc1 hev hg hc hK
    by_cases hjn : j < N
    · have hi1 : (j : Int) < (N : Int) := by omega
      by_cases hd : s1.done = 3000
      · have HD := Lib.hid hd
        clear hd
        go_wp2_with (go_at_call 171; refine (tick_full s1 _ HM.out HC.out HD.out).mono ?_; rintro e w2 ⟨rfl, hM2⟩)
        go_end0
        have hev := Ev.sFull (L := L) (kind := kind) (n := N - j - 1) HD.out
        rw [show N - j - 1 + 1 = N - j by omega] at hev
        exact ⟨_, b1, rfl, by have := HE.out _ _ hev; simpa using this, by rw [RS.tick_full HD.out]; exact hM2, HG.out.tick HC.out⟩
      · have HD := Lib.hid hd
        clear hd
        obtain ⟨tr', htr⟩ : ∃ tr', s1.tr ++ [kind] = tr' := ⟨_, rfl⟩
        have HTR := Lib.hid htr
        obtain ⟨r, hr⟩ : ∃ r, strokeT kind s1.m = r := ⟨_, rfl⟩
        have KT := Lib.hid (fun (rest : List Value) (m' : List Ent) W (h : MB w0 g rest 88 s1.m m' W) => l10DoK s1.m kind W h HG.out.m hk)
        have HR := Lib.hid hr
        have HGN := Lib.hid (show (RS.mk r.1 tr' (s1.done + 1) 0).Good by rw [← hr, ← htr]; exact HG.out.stroke HC.out HD.out kind)
        have HEV := Lib.hid (fun s' b' (h : Ev L (.str kind (N - (j + 1))) ⟨r.1, tr', s1.done + 1, 0⟩ s' b') => HE.out s' (r.2 || b') (by rw [show N - j = (N - (j + 1)) + 1 by omega, ← hr]; exact Ev.sStep HD.out (by rw [hr, htr]; exact h)))
        rcases hrb : r.2 with _ | _
        · have HRB := Lib.hid hrb
          clear htr hr hrb
          go_wp2_with (first
            | (go_at_call 171; refine (tick_ok s1 _ HM.out HC.out HD.out hdn).mono ?_; rintro e w2 ⟨rfl, hM2⟩; obtain ⟨SA', sc', A1', c1', A2', c2', A3', c3', hK2⟩ := hM2; clear a1 a2 a3; obtain ⟨a1, a2, a3⟩ := hK2.blkAt)
            | (at_builtin; refine kn_pushI (m := .blk g _ _ :: _) rfl _ _ rfl _ s1.tr rfl rfl ((hK2.al [.int .i64 kind] 2).sel [0, 5, 1, 2, 3, 4] 6 (by decide) (by decide)) (by omega) ?_; intro v3 w3 hK3; rw [HTR.out] at hK3; obtain ⟨SB, sb, rfl⟩ := row_form hK3.at0; clear a1 a2 a3; obtain ⟨a1, a2, a3⟩ := hK3.drop.blkAt)
            | (go_at_call 166; refine (KT.out _ (rowI SB sb tr' :: m) _ ⟨A1', c1', A2', c2', A3', c3', (hK3.sw1.st 8 (.slice SB tr'.length sb)).sel [0, 2, 3, 4, 1] 5 (by decide) (by decide)⟩).mono ?_; rw [HR.out, HRB.out]; rintro e w4 ⟨rfl, hM4⟩; obtain ⟨B1, d1, B2, d2, B3, d3, hK5⟩ := hM4; clear a1 a2 a3; obtain ⟨a1, a2, a3⟩ := hK5.blkAt))
          go_roundw
          case rel => exact ⟨j + 1, ⟨r.1, tr', s1.done + 1, 0⟩, b1, by omega, by go_num, ⟨SB, sb, B1, d1, B2, d2, B3, d3, hK5⟩, HGN.out, rfl, fun s' b' h => by have := HEV.out s' b' h; rw [HRB.out, Bool.false_or] at this; exact this⟩
          case measure => simp [intOf]; omega
        · have HRB := Lib.hid hrb
          clear htr hr hrb
          go_wp2_with (first
            | (go_at_call 171; refine (tick_ok s1 _ HM.out HC.out HD.out hdn).mono ?_; rintro e w2 ⟨rfl, hM2⟩; obtain ⟨SA', sc', A1', c1', A2', c2', A3', c3', hK2⟩ := hM2; clear a1 a2 a3; obtain ⟨a1, a2, a3⟩ := hK2.blkAt)
            | (at_builtin; refine kn_pushI (m := .blk g _ _ :: _) rfl _ _ rfl _ s1.tr rfl rfl ((hK2.al [.int .i64 kind] 2).sel [0, 5, 1, 2, 3, 4] 6 (by decide) (by decide)) (by omega) ?_; intro v3 w3 hK3; rw [HTR.out] at hK3; obtain ⟨SB, sb, rfl⟩ := row_form hK3.at0; clear a1 a2 a3; obtain ⟨a1, a2, a3⟩ := hK3.drop.blkAt)
            | (go_at_call 166; refine (KT.out _ (rowI SB sb tr' :: m) _ ⟨A1', c1', A2', c2', A3', c3', (hK3.sw1.st 8 (.slice SB tr'.length sb)).sel [0, 2, 3, 4, 1] 5 (by decide) (by decide)⟩).mono ?_; rw [HR.out, HRB.out]; rintro e w4 ⟨rfl, hM4⟩; obtain ⟨B1, d1, B2, d2, B3, d3, hK5⟩ := hM4; clear a1 a2 a3; obtain ⟨a1, a2, a3⟩ := hK5.blkAt))
          go_roundw
          case rel => exact ⟨j + 1, ⟨r.1, tr', s1.done + 1, 0⟩, true, by omega, by go_num, ⟨SB, sb, B1, d1, B2, d2, B3, d3, by rw [Bool.or_true]; exact hK5.st 10 (.bool true)⟩, HGN.out, rfl, fun s' b' h => by have := HEV.out s' b' h; rw [HRB.out, Bool.true_or, Bool.or_true] at this; exact this⟩
          case measure => simp [intOf]; omega
    · have hi1 : ¬ (j : Int) < (N : Int) := by omega
      obtain rfl : j = N := by omega
      go_wp2_with fail
      go_end0
      have hev := HE.out _ _ (by rw [Nat.sub_self]; exact Ev.s0)
      exact ⟨s1, b1, rfl, by simpa using hev, HM.out, HG.out⟩
end Go.Proofs.Ytkfbfainhmkkdaa

namespace Go.Proofs.Ytkfbfainhmkkdaa
open Go.RowKit Go.Sort
/-- the reference's runner sets the setting -/
def SetS (s : RS) (v : Int) (w0 : World) (g : Nat) (LV : Value) (m : List Ent) (b : Bool) (e : Ending) (w' : World) : Prop :=
  e = .returned (.tuple #[]) ∧ ((s.done = 3000 ∧ RunS w0 g LV s.tick b m w') ∨ (¬ s.done = 3000 ∧ setFits s.m v = false ∧ RunS w0 g LV ⟨s.m, s.tr, s.done + 1, 10⟩ b m w') ∨ (¬ s.done = 3000 ∧ setFits s.m v = true ∧ RunS w0 g LV ⟨setT s.m v, s.tr, s.done + 1, 0⟩ b m w'))
set_option maxRecDepth 100000 in
set_option maxHeartbeats 3200000 in
theorem setS_any {w0 : World} {g : Nat} {LV : Value} {m : List Ent} {b : Bool} (s : RS) (v : Int) (w : World) (hM : RunS w0 g LV s b m w) (hg : s.Good) (hc : s.code = 0) (h0 : 0 ≤ v) (h1 : v ≤ 1000000000000) :
    Calls Try.prog 161 #[.pointer (some ⟨g, 0, none⟩), .int .i64 v] w (SetS s v w0 g LV m b) := by
  have HM := Lib.hid hM
  have HG := Lib.hid hg
  have HC := Lib.hid hc
  have hdn := hg.done hc
  obtain ⟨k1, -⟩ := vmach_all hg.m
  obtain ⟨⟨b1, b2⟩, -⟩ := vreg_iff.1 k1
  have hrz := restD_zero s.m.a.base b1 s.m.a.digits.length v h0
  by_cases hd : s.done = 3000
  · have HD := Lib.hid hd
    clear hd hM hg hc h0 h1 k1 b1 b2 hrz
    go_enter Try.func161, Try.ntmps161
    go_wp2_with (go_at_call 171; refine (tick_full s _ HM.out HC.out HD.out).mono ?_; rintro e w2 ⟨rfl, hM2⟩)
    go_end0
    exact ⟨rfl, .inl ⟨HD.out, by rw [RS.tick_full HD.out]; exact hM2⟩⟩
  · have HD := Lib.hid hd
    have KS := Lib.hid (fun (A1 A2 A3 : Option Addr) (c1 c2 c3 : Nat) (m' : List Ent) W cs T (h : Kn w0 (.blk g cs T :: rowI A3 c3 s.m.s.digits :: rowI A2 c2 s.m.b.digits :: rowI A1 c1 s.m.a.digits :: m') W) => SetValueV_any s.m A1 A2 A3 c1 c2 c3 v W h.drop.drop.drop.riv h.drop.drop.riv h.drop.riv HG.out.m h0 h1)
    have HF := Lib.hid (show setFits s.m v = decide (v < pw s.m.a.base s.m.a.digits.length) from hrz)
    clear hd hM hg hc h0 h1 k1 b1 b2 hrz
    go_enter Try.func161, Try.ntmps161
    go_wp2_with (go_at_call 171; refine (tick_ok s _ HM.out HC.out HD.out hdn).mono ?_; rintro e w2 ⟨rfl, hM2⟩; obtain ⟨SA, sc, A1, c1, A2, c2, A3, c3, hK2⟩ := hM2; obtain ⟨a1, a2, a3⟩ := hK2.blkAt)
    refine (KS.out _ _ _ _ _ _ _ _ _ _ hK2).mono ?_; rintro e w3 (⟨hlt, B1, d1, B2, d2, B3, d3, rfl, hK3⟩ | ⟨hlt, rfl, hw⟩)
    · have hfit : setFits s.m v = true := by rw [HF.out, decide_eq_true hlt]
      have HFT := Lib.hid hfit
      have hK4 := hK2.join hK3
      clear a1 a2 a3 hK2 hK3 hlt hfit
      obtain ⟨ds, hds⟩ : ∃ ds, (setT s.m v).a.digits = ds := ⟨_, rfl⟩
      rw [hds] at hK4 ⊢
      have HDS := Lib.hid hds
      clear hds
      obtain ⟨a1, a2, a3⟩ := hK4.drop.drop.drop.blkAt
      go_wp2_with fail
      go_end0
      have hK5 := (((((((hK4.sw3.st 0 (.int .i64 s.m.a.base)).st 1 (.slice B1 ds.length d1)).st 2 (.int .i64 s.m.b.base)).st 3 (.slice B2 s.m.b.digits.length d2)).st 4 (.int .i64 s.m.s.base)).st 5 (.slice B3 s.m.s.digits.length d3)).st 6 (.int .i64 s.m.carry)).al_ (.cells #[.int .i64 s.m.a.base, .slice B1 ds.length d1, .int .i64 s.m.b.base, .slice B2 s.m.b.digits.length d2, .int .i64 s.m.s.base, .slice B3 s.m.s.digits.length d3, .int .i64 s.m.carry] 28)
      refine ⟨rfl, .inr (.inr ⟨HD.out, HFT.out, SA, sc, B1, d1, B2, d2, B3, d3, ?_⟩)⟩
      rw [HDS.out]
      exact hK5.sel [0, 1, 2, 3, 7] 8 (by decide) (by decide)
    · have hfit : setFits s.m v = false := by rw [HF.out, decide_eq_false hlt]
      have HFT := Lib.hid hfit
      have hK4 := hK2.keep hw
      clear a1 a2 a3 hK2 hw hlt hfit
      obtain ⟨a1, a2, a3⟩ := hK4.blkAt
      go_wp2_with fail
      go_end0
      exact ⟨rfl, .inr (.inl ⟨HD.out, HFT.out, SA, sc, A1, c1, A2, c2, A3, c3, (hK4.st 11 (.int .i64 10)).al_ _⟩)⟩
end Go.Proofs.Ytkfbfainhmkkdaa
