/- Part 7: lemmas and contracts of the claim's functions. -/
import Derived.Test.YtmmiahgmdllgdaaGreatDoorZC1
import Derived.Test.YtmmiahgmdllgdaaGreatDoorZC2
import Derived.Test.YtmmiahgmdllgdaaGreatDoorZC3
import Derived.Test.YtmmiahgmdllgdaaGreatDoorZC4
import Derived.Test.YtmmiahgmdllgdaaGreatDoorZC5
import Derived.Test.YtmmiahgmdllgdaaGreatDoorZC6
import Derived.WalkSmall
import Derived.Laws.Bits64b
import Derived.Deep.RegionHeld3
namespace Go.Proofs.YtmmiahgmdllgdaaGreatDoor
open Go.RowKit Go.Sort
instance : Inhabited RS := ⟨⟨default, [], 0, 0⟩⟩
/-- where a run ends -/
noncomputable def endR (L : List Ins) (t : Tri) : RS := Classical.epsilon (fun s' => ∃ b', Ev L (.run 0 L.length) (startR t) s' b')
theorem endR_eq {L : List Ins} {t : Tri} {s' : RS} {b' : Bool} (h : Ev L (.run 0 L.length) (startR t) s' b') : endR L t = s' := by
  obtain ⟨b2, h2⟩ := Classical.epsilon_spec (p := fun s' => ∃ b', Ev L (.run 0 L.length) (startR t) s' b') ⟨s', b', h⟩
  exact (h2.one h).1
noncomputable def rpC (L : List Ins) (t : Tri) : Int := if vmach t && vprog L then (endR L t).code else 1
noncomputable def rpM (L : List Ins) (t : Tri) : Tri := if rpC L t = 0 ∧ vmach (endR L t).m = true then (endR L t).m else zTri
noncomputable def rpT (L : List Ins) (t : Tri) : List Int := if rpC L t = 0 ∧ (endR L t).tr.length ≤ 3001 then (endR L t).tr else []
theorem rp_bad {L : List Ins} {t : Tri} (h : (vmach t && vprog L) = false) : rpC L t = 1 ∧ rpM L t = zTri ∧ rpT L t = [] := by
  have h1 : rpC L t = 1 := by unfold rpC; rw [h]; rfl
  refine ⟨h1, ?_, ?_⟩
  · unfold rpM; rw [h1, if_neg (fun h => absurd h.1 (by decide))]
  · unfold rpT; rw [h1, if_neg (fun h => absurd h.1 (by decide))]
theorem rp_code {L : List Ins} {t : Tri} (h1 : vmach t = true) (h2 : vprog L = true) {s' : RS} {b' : Bool} (h : Ev L (.run 0 L.length) (startR t) s' b') (hc : ¬ s'.code = 0) : rpC L t = s'.code ∧ rpM L t = zTri ∧ rpT L t = [] := by
  have h3 : rpC L t = s'.code := by unfold rpC; rw [h1, h2, endR_eq h]; rfl
  refine ⟨h3, ?_, ?_⟩
  · unfold rpM; rw [h3, if_neg (fun h => hc h.1)]
  · unfold rpT; rw [h3, if_neg (fun h => hc h.1)]
theorem rp_fine {L : List Ins} {t : Tri} (h1 : vmach t = true) (h2 : vprog L = true) {s' : RS} {b' : Bool} (h : Ev L (.run 0 L.length) (startR t) s' b') (hg : s'.Good) (hc : s'.code = 0) : rpC L t = 0 ∧ rpM L t = s'.m ∧ rpT L t = s'.tr := by
  have h3 : rpC L t = 0 := by unfold rpC; rw [h1, h2, endR_eq h]; exact hc
  refine ⟨h3, ?_, ?_⟩
  · unfold rpM; rw [h3, endR_eq h, if_pos ⟨rfl, hg.m⟩]
  · unfold rpT; rw [h3, endR_eq h, if_pos ⟨rfl, by have := hg.tr; have := hg.top; omega⟩]
theorem rpM_len (L : List Ins) (t : Tri) : (rpM L t).a.digits.length ≤ 16 ∧ (rpM L t).b.digits.length ≤ 16 ∧ (rpM L t).s.digits.length ≤ 16 := by
  unfold rpM
  split
  · rename_i h
    have := sized_of h.2
    exact ⟨this.a, this.b, this.s⟩
  · simp [zTri]
theorem rpT_len (L : List Ins) (t : Tri) : (rpT L t).length ≤ 3001 := by
  unfold rpT
  split
  · rename_i h; exact h.2
  · simp
/-- what RunProgram returns -/
def RPRet (L : List Ins) (t : Tri) (w : World) (e : Ending) (w' : World) : Prop := ∃ A1 c1 A2 c2 A3 c3, e = .returned (.tuple #[.agg #[.int .i64 (rpM L t).a.base, .slice A1 (rpM L t).a.digits.length c1, .int .i64 (rpM L t).b.base, .slice A2 (rpM L t).b.digits.length c2, .int .i64 (rpM L t).s.base, .slice A3 (rpM L t).s.digits.length c3, .int .i64 (rpM L t).carry], .int .i64 ((rpT L t).length : Int), .int .i64 (rpC L t)]) ∧
  Kn w [rowI A3 c3 (rpM L t).s.digits, rowI A2 c2 (rpM L t).b.digits, rowI A1 c1 (rpM L t).a.digits] w'
/-- what TraceProgram returns -/
def TPRet (L : List Ins) (t : Tri) (w : World) (e : Ending) (w' : World) : Prop := ∃ A c, e = .returned (.tuple #[.slice A (rpT L t).length c, .int .i64 (rpC L t)]) ∧ Kn w [rowI A c (rpT L t)] w'
end Go.Proofs.YtmmiahgmdllgdaaGreatDoor

namespace Go.Proofs.YtmmiahgmdllgdaaGreatDoor
open Go.RowKit Go.Sort
theorem StrokeName_all (k : Int) (w : World) : Calls Tryz.prog 170 #[.int .i64 k] w fun e w' => e = .returned (.string (sname k)) ∧ Below w.heap.size w w' := by
  by_cases h : 1 ≤ k ∧ k ≤ 6
  · exact StrokeName_any k w h
  · have hs : sname k = ⟨#[]⟩ := by
      unfold sname
      rw [if_neg (by omega), if_neg (by omega), if_neg (by omega), if_neg (by omega), if_neg (by omega), if_neg (by omega)]
    have hb : betB k 1 6 = false := betB_false.2 (by omega)
    have KB := Lib.hid (fun W => calls_val (between_any k 1 6 W) (congrArg Value.bool hb))
    have KI : ∀ W, Calls Tryz.prog 218 #[.int .i64 k] W fun e w' => e = .returned (.bool false) ∧ W = w' := fun W => by
      go_enter Tryz.func218, Tryz.ntmps218
      go_wp2_with (go_at_call 80; refine (KB.out _).mono ?_; rintro e w' ⟨rfl, rfl⟩)
      go_ret
      exact ⟨rfl, rfl⟩
    have KI := Lib.hid KI
    rw [hs]
    clear hb h hs KB
    go_enter Tryz.func170, Tryz.ntmps170
    go_wp2_with (go_at_call 218; refine (KI.out _).mono ?_; rintro e w' ⟨rfl, rfl⟩)
    go_ret
    exact ⟨rfl, Below.refl _ _⟩
theorem specStrokeName_all (k : Int) (w : World) : Calls Tryz.prog 145 #[.int .i64 k] w fun e w' => e = .returned (.string (sname k)) ∧ Below w.heap.size w w' := by
  by_cases h : 1 ≤ k ∧ k ≤ 6
  · exact specStrokeName_any k w h
  · have hs : sname k = ⟨#[]⟩ := by
      unfold sname
      rw [if_neg (by omega), if_neg (by omega), if_neg (by omega), if_neg (by omega), if_neg (by omega), if_neg (by omega)]
    have hb : betB k 1 6 = false := betB_false.2 (by omega)
    have KB := Lib.hid (fun W => calls_val (l00In_any k 1 6 W) (congrArg Value.bool hb))
    have KI : ∀ W, Calls Tryz.prog 188 #[.int .i64 k] W fun e w' => e = .returned (.bool false) ∧ W = w' := fun W => by
      go_enter Tryz.func188, Tryz.ntmps188
      go_wp2_with (go_at_call 81; refine (KB.out _).mono ?_; rintro e w' ⟨rfl, rfl⟩)
      go_ret
      exact ⟨rfl, rfl⟩
    have KI := Lib.hid KI
    rw [hs]
    clear hb h hs KB
    go_enter Tryz.func145, Tryz.ntmps145
    go_wp2_with (go_at_call 188; refine (KI.out _).mono ?_; rintro e w' ⟨rfl, rfl⟩)
    go_ret
    exact ⟨rfl, by first | exact Below.refl _ _ | exact (Below.refl _ _).alloc (Nat.le_refl _) _⟩
/-- a recorded session -/
def startT (t : Tri) : ByteArray := startW ++ mtext t
def recL (t : Tri) (s : RS) : List ByteArray := startT t :: (s.tr.map sname ++ [showT s.m, endW])
def hasSet (L : List Ins) : Bool := L.any (fun x => x.op == 1)
noncomputable def rcC (L : List Ins) (t : Tri) : Int :=
  if (vmach t && vprog L) = false then 1 else if hasSet L then 6 else if (endR L t).code ≠ 0 then (endR L t).code else if (recL t (endR L t)).length > 100 then 5 else 0
noncomputable def rcR (L : List Ins) (t : Tri) : List ByteArray := if rcC L t = 0 then recL t (endR L t) else []
theorem rcR_len (L : List Ins) (t : Tri) : (rcR L t).length ≤ 100 := by
  unfold rcR
  split
  · rename_i h
    unfold rcC at h
    split at h
    · cases h
    · split at h
      · cases h
      · split at h
        · rename_i h1; exact absurd h h1
        · split at h
          · cases h
          · omega
  · simp
theorem rc_bad {L : List Ins} {t : Tri} (h : (vmach t && vprog L) = false) : rcC L t = 1 ∧ rcR L t = [] := by
  have h1 : rcC L t = 1 := by unfold rcC; rw [if_pos h]
  exact ⟨h1, by unfold rcR; rw [h1, if_neg (by decide)]⟩
theorem rc_set {L : List Ins} {t : Tri} (h : (vmach t && vprog L) = true) (hs : hasSet L = true) : rcC L t = 6 ∧ rcR L t = [] := by
  have h1 : rcC L t = 6 := by unfold rcC; rw [if_neg (by rw [h]; decide), if_pos hs]
  exact ⟨h1, by unfold rcR; rw [h1, if_neg (by decide)]⟩
theorem rc_code {L : List Ins} {t : Tri} (h : (vmach t && vprog L) = true) (hs : hasSet L = false) {s' : RS} {b' : Bool} (he : Ev L (.run 0 L.length) (startR t) s' b') (hc : s'.code ≠ 0) : rcC L t = s'.code ∧ rcR L t = [] := by
  have h1 : rcC L t = s'.code := by unfold rcC; rw [if_neg (by rw [h]; decide), hs, if_neg (by decide), endR_eq he, if_pos hc]
  exact ⟨h1, by unfold rcR; rw [h1, if_neg hc]⟩
theorem rc_fine {L : List Ins} {t : Tri} (h : (vmach t && vprog L) = true) (hs : hasSet L = false) {s' : RS} {b' : Bool} (he : Ev L (.run 0 L.length) (startR t) s' b') (hc : s'.code = 0) : rcC L t = (if (recL t s').length > 100 then 5 else 0) ∧ rcR L t = (if (recL t s').length > 100 then [] else recL t s') := by
  have h1 : rcC L t = (if (recL t s').length > 100 then 5 else 0) := by
    unfold rcC; rw [if_neg (by rw [h]; decide), hs, if_neg (by decide), endR_eq he, if_neg (fun h => h hc)]
  refine ⟨h1, ?_⟩
  unfold rcR
  rw [h1, endR_eq he]
  by_cases hl : (recL t s').length > 100
  · rw [if_pos hl, if_neg (by decide), if_pos hl]
  · rw [if_neg hl, if_pos rfl, if_neg hl]
theorem hasSet_take_succ {L : List Ins} {k : Nat} (h : k < L.length) : hasSet (L.take (k + 1)) = (hasSet (L.take k) || (L[k].op == 1)) := by
  unfold hasSet
  rw [List.take_succ_eq_append_getElem h, List.any_append]; simp
theorem hasSet_at {L : List Ins} {k : Nat} (h : k < L.length) (h1 : (L[k].op == 1) = true) : hasSet L = true := by
  unfold hasSet
  rw [List.any_eq_true]
  exact ⟨_, List.getElem_mem h, h1⟩
theorem mtext_size {t : Tri} (hv : vmach t = true) : (mtext t).size ≤ 300 := by
  obtain ⟨o1, o2, o3, y0, y1⟩ := vmach_parts hv
  have l1 := rtext_len t.a
  have l2 := rtext_len t.b
  have l3 := rtext_len t.s
  have l4 := dec_len t.carry (by omega) (by omega)
  unfold mtext
  rw [if_pos hv]
  unfold mtextL
  have e1 : (⟨#[32]⟩ : ByteArray).size = 1 := rfl
  simp only [ByteArray.size_append, size_mk, e1]
  omega
theorem small_of' {t : Tri} (h : vmach t = true) : SmallTri t := by
  have hz := sized_of h
  exact ⟨by have := hz.a; unfold SmallReg; omega, by have := hz.b; unfold SmallReg; omega, by have := hz.s; unfold SmallReg; omega⟩
end Go.Proofs.YtmmiahgmdllgdaaGreatDoor

namespace Go.Proofs.YtmmiahgmdllgdaaGreatDoor
open Go.RowKit Go.Sort
theorem gtrans {w a b : World} {o : Option Nat} (h1 : w.grownBy a o) (h2 : a.grownBy b o) : w.grownBy b o :=
  ⟨h2.os.trans h1.os, h2.tape.trans h1.tape, h2.output.trans h1.output, Nat.le_trans h1.size h2.size, fun k hk hne => (h2.block k (Nat.lt_of_lt_of_le hk h1.size) hne).trans (h1.block k hk hne)⟩
/-- a source of draws at block b, from which at most N draws were taken -/
def Src (w : World) (b N : Nat) : Prop := ∃ (A : Option Addr) (n c k : Nat) (seed : Int) (bs : List UInt8), w.cell? ⟨b, 0, none⟩ = some (.slice A n c) ∧ w.cell? ⟨b, 1, none⟩ = some (.int .i64 (k : Int)) ∧ w.cell? ⟨b, 2, none⟩ = some (.int .u64 seed) ∧
  w.frozen? ⟨b, 1, none⟩ = false ∧ w.frozen? ⟨b, 2, none⟩ = false ∧ RB w A n bs ∧ k ≤ N ∧ n ≤ 9223372036854775807 ∧ (0 < n → ∀ ad, A = some ad → ad.block < b) ∧ b < w.heap.size
theorem low_byte (x : Int) : 0 ≤ wrap64 (bits .and .u64 (IntKind.u64.wrap x / 1099511627776) 255) ∧ wrap64 (bits .and .u64 (IntKind.u64.wrap x / 1099511627776) 255) ≤ 255 := by
  obtain ⟨a, ha, ha2⟩ : ∃ a : Nat, IntKind.u64.wrap x / 1099511627776 = (a : Int) ∧ a < 18446744073709551616 := by
    rw [IntKind.wrap_u64]
    exact ⟨(x % 18446744073709551616 / 1099511627776).toNat, by omega, by omega⟩
  rw [ha]
  have h := bits_and_u64_nat a 255 ha2 (by omega)
  have h2 : a &&& 255 ≤ 255 := Nat.and_le_right
  have h3 : bits .and .u64 (a : Int) 255 = ((a &&& 255 : Nat) : Int) := h
  rw [h3]
  unfold wrap64
  omega
theorem src_step {w : World} {b N k n c : Nat} {A : Option Addr} {seed : Int} {bs : List UInt8} (c0 : w.cell? ⟨b, 0, none⟩ = some (.slice A n c)) (c1 : w.cell? ⟨b, 1, none⟩ = some (.int .i64 (k : Int))) (c2 : w.cell? ⟨b, 2, none⟩ = some (.int .u64 seed))
    (f1 : w.frozen? ⟨b, 1, none⟩ = false) (f2 : w.frozen? ⟨b, 2, none⟩ = false) (hb : RB w A n bs) (hk : k ≤ N) (hn : n ≤ 9223372036854775807) (hne : 0 < n → ∀ ad, A = some ad → ad.block < b) (hlt : b < w.heap.size) (s : Int) :
    Src ((w.setCell ⟨b, 1, none⟩ (.int .i64 ((k : Int) + 1))).setCell ⟨b, 2, none⟩ (.int .u64 s)) b (N + 1) ∧ w.grownBy ((w.setCell ⟨b, 1, none⟩ (.int .i64 ((k : Int) + 1))).setCell ⟨b, 2, none⟩ (.int .u64 s)) (some b) := by
  refine ⟨⟨A, n, c, k + 1, s, bs, by go_simp, by go_simp, by go_simp, by go_simp, by go_simp, ⟨hb.1, fun h0 => ?_⟩, by omega, hn, hne, by simp [World.setCell]; exact hlt⟩, ⟨rfl, rfl, rfl, by simp [World.setCell], fun g _ hg => ?_⟩⟩
  · obtain ⟨ad, e, hl, hc⟩ := hb.2 h0
    refine ⟨ad, e, by simp [World.setCell]; exact hl, fun j u hu => ?_⟩
    have h1 : ad.block ≠ b := Nat.ne_of_lt (hne h0 ad e)
    rw [World.cell?_setCell_far _ _ _ _ (by rw [block_of_add]; exact Ne.symm h1), World.cell?_setCell_far _ _ _ _ (by rw [block_of_add]; exact Ne.symm h1)]
    exact hc j u hu
  · rw [heap_setCell_other _ _ _ _ (fun e => hg (by rw [e])), heap_setCell_other _ _ _ _ (fun e => hg (by rw [e]))]
theorem Src.drewN {w : World} {b N : Nat} (h : Src w b N) (q : Nat) : Src (w.drewN q) b N := h
theorem gDrew {w w' : World} {o : Option Nat} (h : w.grownBy w' o) (q : Nat) : w.grownBy (w'.drewN q) o := ⟨h.os, h.tape, h.output, h.size, h.block⟩
theorem gDrewL {w w' : World} {o : Option Nat} {q : Nat} (h : (w.drewN q).grownBy w' o) : w.grownBy w' o := ⟨h.os, h.tape, h.output, h.size, h.block⟩
set_option maxHeartbeats 1600000 in
theorem srcNext_any (b N : Nat) (w : World) (h : Src w b N) (hN : N ≤ 1000000) :
    Calls Tryz.prog 123 #[.pointer (some ⟨b, 0, none⟩)] w fun e w' => ∃ x : Int, e = .returned (.int .i64 x) ∧ 0 ≤ x ∧ x ≤ 255 ∧ Src w' b (N + 1) ∧ w.grownBy w' (some b) := by
  obtain ⟨A, n, c, k, seed, bs, c0, c1, c2, f1, f2, hb, hk, hn, hne, hlt⟩ := h
  have HB := Lib.hid hb
  by_cases hkn : k < n
  · obtain ⟨ad, hA, hl, hc⟩ := hb.2 (by omega)
    have hbl : k < bs.length := by have := hb.1; omega
    have hcb := hc k _ (List.getElem?_eq_getElem hbl)
    have hi0 : (0 : Int) ≤ (k : Int) := by omega
    have hi1 : (k : Int) < (n : Int) := by omega
    have hi2 : (k : Int) + 1 ≤ (n : Int) := by omega
    unfold byteV at hcb
    obtain ⟨u, hu⟩ : ∃ u : Nat, u = bs[k].toNat := ⟨_, rfl⟩
    have hu2 : u < 256 := by rw [hu]; exact UInt8.toNat_lt _
    rw [← hu] at hcb
    subst hA
    clear hu hb hc
    go_enter Tryz.func123, Tryz.ntmps123
    go_wp2
    go_quiet (fail)
    go_wp2
    go_quiet (fail)
    go_wp2
    go_quiet (fail)
    go_wp2
    go_ret
    refine ⟨_, rfl, by omega, by omega, ?_⟩
    have z := fun q => src_step (w := w.drewN q) c0 c1 c2 f1 f2 HB.out hk hn hne hlt
    exact ⟨(z _ _).1.drewN _, gDrew (gDrewL (z _ _).2) _⟩
  · have hi1 : ¬ (k : Int) < (n : Int) := by omega
    have hi2 : ¬ (k : Int) + 1 ≤ (n : Int) := by omega
    clear hb
    go_enter Tryz.func123, Tryz.ntmps123
    go_wp2
    go_quiet (fail)
    go_wp2
    go_quiet (fail)
    go_wp2
    go_ret
    obtain ⟨q1, q2⟩ := low_byte (IntKind.u64.wrap (IntKind.u64.wrap (seed * 6364136223846793005)) + 1442695040888963407)
    refine ⟨_, rfl, q1, q2, ?_⟩
    have z := fun q => src_step (w := w.drewN q) c0 c1 c2 f1 f2 HB.out hk hn hne hlt
    exact ⟨(z _ _).1.drewN _, gDrew (gDrewL (z _ _).2) _⟩
theorem Src.keep {w w' : World} {b N : Nat} (h : Src w b N) (hs : w.heap.size ≤ w'.heap.size) (hk : ∀ k, k ≤ b → w'.heap[k]? = w.heap[k]?) : Src w' b N := by
  obtain ⟨A, n, c, k, seed, bs, c0, c1, c2, f1, f2, hb, hkN, hn, hne, hlt⟩ := h
  have hcell : ∀ o, w'.cell? ⟨b, o, none⟩ = w.cell? ⟨b, o, none⟩ := fun o => World.cell?_of_block (hk b (Nat.le_refl _))
  have hfz : ∀ o, w'.frozen? ⟨b, o, none⟩ = w.frozen? ⟨b, o, none⟩ := fun o => World.frozen?_of_block (hk b (Nat.le_refl _))
  refine ⟨A, n, c, k, seed, bs, by rw [hcell]; exact c0, by rw [hcell]; exact c1, by rw [hcell]; exact c2, by rw [hfz]; exact f1, by rw [hfz]; exact f2, ⟨hb.1, fun h0 => ?_⟩, hkN, hn, hne, Nat.lt_of_lt_of_le hlt hs⟩
  obtain ⟨ad, e, hl, hc⟩ := hb.2 h0
  refine ⟨ad, e, Nat.lt_of_lt_of_le hl hs, fun j u hu => ?_⟩
  rw [World.cell?_of_block (w := w) (by rw [block_of_add]; exact hk _ (Nat.le_of_lt (hne h0 ad e)))]
  exact hc j u hu
theorem Src.mono {w : World} {b N M : Nat} (h : Src w b N) (hm : N ≤ M) : Src w b M := by
  obtain ⟨A, n, c, k, seed, bs, c0, c1, c2, f1, f2, hb, hkN, hr⟩ := h
  exact ⟨A, n, c, k, seed, bs, c0, c1, c2, f1, f2, hb, by omega, hr⟩
theorem Src.lt {w : World} {b N : Nat} (h : Src w b N) : b < w.heap.size := by
  obtain ⟨A, n, c, k, seed, bs, c0, c1, c2, f1, f2, hb, hkN, hn, hne, hlt⟩ := h
  exact hlt
theorem gRefl (w : World) (o : Option Nat) : w.grownBy w o := ⟨rfl, rfl, rfl, Nat.le_refl _, fun _ _ _ => rfl⟩
theorem gMore {w a c : World} {o o2 : Option Nat} (h1 : w.grownBy a o) (h2 : a.grownBy c o2) (ho : ∀ k, o2 = some k → w.heap.size ≤ k) : w.grownBy c o :=
  ⟨h2.os.trans h1.os, h2.tape.trans h1.tape, h2.output.trans h1.output, Nat.le_trans h1.size h2.size, fun k hk hne => (h2.block k (Nat.lt_of_lt_of_le hk h1.size) (fun e => by have := ho k e.symm; omega)).trans (h1.block k hk hne)⟩
theorem gBelow {w a c : World} {o : Option Nat} (h1 : w.grownBy a o) (h2 : Below a.heap.size a c) : w.grownBy c o :=
  ⟨h2.os.trans h1.os, h2.tape.trans h1.tape, h2.output.trans h1.output, Nat.le_trans h1.size h2.size, fun k hk hne => (h2.block k (Nat.lt_of_lt_of_le hk h1.size)).trans (h1.block k hk hne)⟩
theorem ofBelow {w c : World} (h2 : Below w.heap.size w c) (o : Option Nat) : w.grownBy c o := gBelow (gRefl w o) h2
/-- from a source's own block on, everything is new -/
theorem belowG {B b : Nat} {a w c : World} (h : Below B a w) (h2 : w.grownBy c (some b)) (hb : B ≤ b) (hs : B ≤ w.heap.size) : Below B a c :=
  h.grown h2 hs (fun k hk => by injection hk with hk; omega)
theorem Src.below {w w' : World} {b N : Nat} (h : Src w b N) (hb : Below w.heap.size w w') : Src w' b N := h.keep hb.size (fun k hk => hb.block k (Nat.lt_of_le_of_lt hk h.lt))
theorem OwnI.grown {w w' : World} {base b : Nat} {v : Value} {ds : List Int} (h : OwnI w base v ds) (hg : w.grownBy w' (some b)) (hb : b < base) : OwnI w' base v ds := by
  refine ⟨h.1, ?_⟩
  rcases h.2 with hn | ⟨g, cap, cur, rfl, hbg, hc, rest⟩
  · exact .inl hn
  · exact .inr ⟨g, cap, cur, rfl, hbg, by rw [hg.block g (Array.getElem?_eq_some_iff.1 hc).1 (fun e => by injection e with e; omega)]; exact hc, rest⟩
theorem ownI_lo {w : World} {base : Nat} {v : Value} {ds : List Int} (h : OwnI w base v ds) : ∀ k, v.ownBlock = some k → base ≤ k := by
  intro k hk
  rcases h.2 with ⟨rfl, -⟩ | ⟨g, cap, cur, rfl, hb, -⟩
  · simp [Value.ownBlock] at hk
  · simp only [Value.ownBlock, Option.some.injEq] at hk; omega
set_option maxHeartbeats 1600000 in
theorem pick_any (b N : Nat) (n : Int) (w : World) (h : Src w b N) (hN : N ≤ 999999) :
    Calls Tryz.prog 62 #[.pointer (some ⟨b, 0, none⟩), .int .i64 n] w fun e w' => ∃ x : Int, e = .returned (.int .i64 x) ∧ 0 ≤ x ∧ (x < n ∨ (n ≤ 1 ∧ x = 0)) ∧ Src w' b (N + 2) ∧ w.grownBy w' (some b) := by
  have H := Lib.hid h; clear h
  by_cases h1 : n ≤ 1
  · go_enter Tryz.func62, Tryz.ntmps62
    go_wp2
    go_ret
    exact ⟨0, rfl, by omega, .inr ⟨h1, rfl⟩, H.out.mono (by omega), gRefl _ _⟩
  · by_cases h2 : 200 < n
    · go_enter Tryz.func62, Tryz.ntmps62
      go_wp2_with fail
      refine (srcNext_any b N w H.out (by omega)).mono ?_; rintro e w1 ⟨x, rfl, x0, x1, hs1, hg1⟩
      have HS1 := Lib.hid hs1; clear hs1
      have HG1 := Lib.hid hg1; clear hg1
      go_wp2_with fail
      refine (srcNext_any b (N + 1) w1 HS1.out (by omega)).mono ?_; rintro e w2 ⟨y, rfl, y0, y1, hs2, hg2⟩
      have HS2 := Lib.hid hs2; clear hs2
      have HG2 := Lib.hid (gtrans HG1.out hg2); clear hg2
      go_wp2
      go_ret
      exact ⟨_, rfl, Int.emod_nonneg _ (by omega), .inl (Int.emod_lt_of_pos _ (by omega)), HS2.out, HG2.out⟩
    · go_enter Tryz.func62, Tryz.ntmps62
      go_wp2_with fail
      refine (srcNext_any b N w H.out (by omega)).mono ?_; rintro e w1 ⟨x, rfl, x0, x1, hs1, hg1⟩
      have HS1 := Lib.hid hs1; clear hs1
      have HG1 := Lib.hid hg1; clear hg1
      go_wp2
      go_ret
      exact ⟨_, rfl, Int.emod_nonneg _ (by omega), .inl (Int.emod_lt_of_pos _ (by omega)), HS1.out.mono (by omega), HG1.out⟩
set_option maxHeartbeats 800000 in
theorem one_any (b N : Nat) (n : Int) (w : World) (h : Src w b N) (hN : N ≤ 999999) :
    Calls Tryz.prog 61 #[.pointer (some ⟨b, 0, none⟩), .int .i64 n] w fun e w' => ∃ x : Bool, e = .returned (.bool x) ∧ Src w' b (N + 2) ∧ w.grownBy w' (some b) := by
  have H := Lib.hid h; clear h
  go_enter Tryz.func61, Tryz.ntmps61
  go_wp2_with fail
  refine (pick_any b N n w H.out hN).mono ?_; rintro e w1 ⟨x, rfl, x0, -, hs1, hg1⟩
  have HS1 := Lib.hid hs1; clear hs1
  have HG1 := Lib.hid hg1; clear hg1
  go_wp2
  go_ret
  exact ⟨_, rfl, HS1.out, HG1.out⟩
set_option maxHeartbeats 800000 in
theorem among_any (b N : Nat) (A : Option Addr) (n c : Nat) (ds : List Int) (w : World) (h : Src w b N) (hN : N ≤ 999999) (hr : RI w A n ds) (hA : ∀ ad, A = some ad → ad.block ≠ b) (hn0 : 0 < n) (hn : n ≤ 1000000) :
    Calls Tryz.prog 141 #[.pointer (some ⟨b, 0, none⟩), .slice A n c] w fun e w' => ∃ x : Int, e = .returned (.int .i64 x) ∧ x ∈ ds ∧ Src w' b (N + 2) ∧ w.grownBy w' (some b) := by
  have H := Lib.hid h; clear h
  go_enter Tryz.func141, Tryz.ntmps141
  go_wp2_with fail
  refine (pick_any b N n w H.out hN).mono ?_; rintro e w1 ⟨x, rfl, x0, xn, hs1, hg1⟩
  have HS1 := Lib.hid hs1; clear hs1
  have HG1 := Lib.hid hg1; clear hg1
  obtain ⟨j, rfl⟩ : ∃ j : Nat, x = j := ⟨x.toNat, by omega⟩
  have hjn : j < n := by omega
  obtain ⟨ad, hAd, hlt, hjl, hc⟩ := hr.at_ hjn
  have hc2 : w1.cell? (ad.add j) = some (.int .i64 ds[j]) := by
    rw [World.cell?_of_block (w := w) (by rw [block_of_add]; exact HG1.out.block _ hlt (fun e => by injection e with e; exact hA ad hAd e))]; exact hc
  have hi1 : (j : Int) < (n : Int) := by omega
  have HM := Lib.hid (List.getElem_mem hjl)
  subst hAd
  clear hc xn
  go_wp2
  go_ret
  exact ⟨_, rfl, HM.out, HS1.out, HG1.out⟩
set_option maxHeartbeats 800000 in
theorem l00From_any (A : Option Addr) (n c : Nat) (bs : List UInt8) (w : World) (hb : RB w A n bs) (hn : n ≤ 9223372036854775807) :
    Calls Tryz.prog 60 #[.slice A n c] w fun e w' => e = .returned (.pointer (some ⟨w.heap.size, 0, none⟩)) ∧ Src w' w.heap.size 0 ∧ Below w.heap.size w w' := by
  have HB := Lib.hid hb; clear hb
  go_enter Tryz.func60, Tryz.ntmps60
  go_wp2
  go_ret
  have hba : Below w.heap.size w (w.alloc (.cells #[.slice A n c, .int .i64 0, .int .u64 0] 149)) := (Below.refl _ _).alloc (Nat.le_refl _) _
  exact ⟨rfl, ⟨A, n, c, 0, 0, bs, by go_simp, by go_simp, by go_simp, by go_simp, by go_simp, HB.out.below hba, Nat.le_refl _, hn, (fun h0 ad e => by obtain ⟨ad', e', hl, -⟩ := HB.out.2 h0; rw [e] at e'; injection e' with e'; rw [e']; exact hl), by simp⟩, hba⟩
set_option maxRecDepth 100000 in
set_option maxHeartbeats 1600000 in
theorem l02DrawDigits_any (b N : Nat) (base : Int) (width : Nat) (w : World) (h : Src w b N) (hN : N + width * 4 ≤ 900000) (hb2 : 2 ≤ base) (hb16 : base ≤ 1000) (hw : width ≤ 1000) :
    Calls Tryz.prog 181 #[.pointer (some ⟨b, 0, none⟩), .int .i64 base, .int .i64 width] w fun e w' => ∃ A c ds, e = .returned (.slice A width c) ∧ OwnI w' w.heap.size (.slice A width c) ds ∧ ds.length = width ∧ (∀ d ∈ ds, 0 ≤ d ∧ d < base) ∧ Src w' b (N + width * 4) ∧ w.grownBy w' (some b) := by
  have H := Lib.hid h
  have hlt := h.lt
  clear h
  go_enter Tryz.func181, Tryz.ntmps181
  go_wp2_with fail
  go_loopw [8, 7] (fun kk out wr => ∃ (k : Nat) (ds : List Int), k ≤ width ∧ kk = .int .i64 k ∧ OwnI wr w.heap.size out ds ∧ ds.length = k ∧ (∀ d ∈ ds, 0 ≤ d ∧ d < base) ∧ Src wr b (N + k * 4) ∧ w.grownBy wr (some b)) (fun kk _ _ => width - (intOf kk).toNat)
  case atStart =>
    have hba : Below w.heap.size w (w.alloc (.cells #[] 2)) := (Below.refl _ _).alloc (Nat.le_refl _) _
    exact ⟨0, [], Nat.zero_le _, rfl, ⟨rfl, .inr ⟨w.heap.size, 0, #[], rfl, Nat.le_refl _, heap_alloc_new _ _, Nat.le_refl _, by decide, rfl, rfl⟩⟩, rfl, (fun d hd => by cases hd), by simpa using H.out.below hba, ofBelow hba _⟩
  case round =>
    obtain ⟨k, ds, hk, rfl, hown, hlen, hds, hsr, hg⟩ := hrel
    have HO := Lib.hid hown
    have HD := Lib.hid hds
    have HS := Lib.hid hsr
    have HG := Lib.hid hg
    have HL := Lib.hid hlen
    have hwz := hg.size
    clear hown hds hsr hg hlen
    by_cases hkn : k < width
    · have hi1 : (k : Int) < (width : Int) := by omega
      go_wp2_with fail
      refine (pick_any b _ base wr HS.out (by omega)).mono ?_; rintro e w1 ⟨x, rfl, x0, xn, hs1, hg1⟩
      have HS1 := Lib.hid hs1
      have HG1 := Lib.hid (gtrans HG.out hg1)
      have HO1 := Lib.hid (HO.out.grown hg1 hlt)
      have hz1 := hg1.size
      have hxb : x < base := by omega
      clear hs1 hg1 xn
      go_wp2_with fail
      refine (one_any b _ 3 w1 HS1.out (by omega)).mono ?_; rintro e w2 ⟨y, rfl, hs2, hg2⟩
      have HS2 := Lib.hid hs2
      have HG2 := Lib.hid (gtrans HG1.out hg2)
      have HO2 := Lib.hid (HO1.out.grown hg2 hlt)
      have hz2 := hg2.size
      have hlen := HL.out
      clear hs2 hg2
      cases y
      · have HOB := Lib.hid (HO2.out.below ((Below.refl _ _).alloc (Nat.le_refl _) (.cells #[.int .i64 x] 2)))
        have hgb := gBelow HG2.out ((Below.refl _ _).alloc (Nat.le_refl _) (.cells #[.int .i64 x] 2))
        have hsb := HS2.out.below ((Below.refl _ _).alloc (Nat.le_refl _) (.cells #[.int .i64 x] 2))
        have HGB := Lib.hid hgb; clear hgb
        have HSB := Lib.hid hsb; clear hsb
        go_wp2_with (at_builtin; refine app1I rfl _ _ rfl w.heap.size _ ds rfl HOB.out w2.heap.size x rfl (heap_alloc_new _ _) (by omega) (by simp; omega) ?_; intro v5 w6 hown5 hg5 hv5)
        have hlo := ownI_lo HOB.out
        have HGF := Lib.hid (gMore HGB.out hg5 hlo)
        have HSF := Lib.hid ((HSB.out.keep hg5.size (fun k hk => hg5.block k (by simp; omega) (fun e => by have := hlo k e.symm; omega))).mono (show N + k * 4 + 2 + 2 ≤ N + (k + 1) * 4 by omega))
        have HOF := Lib.hid hown5; clear hown5
        go_roundw
        case rel => exact ⟨k + 1, ds ++ [x], by omega, by go_num, HOF.out, by rw [List.length_append, HL.out]; rfl, fun d hd => by
          rcases List.mem_append.1 hd with hd | hd
          · exact HD.out d hd
          · rw [List.mem_singleton.1 hd]; omega, HSF.out, HGF.out⟩
        case measure => simp [intOf]; omega
      · have HOB := Lib.hid (HO2.out.below ((Below.refl _ _).alloc (Nat.le_refl _) (.cells #[.int .i64 (base - 1)] 2)))
        have hgb := gBelow HG2.out ((Below.refl _ _).alloc (Nat.le_refl _) (.cells #[.int .i64 (base - 1)] 2))
        have hsb := HS2.out.below ((Below.refl _ _).alloc (Nat.le_refl _) (.cells #[.int .i64 (base - 1)] 2))
        have HGB := Lib.hid hgb; clear hgb
        have HSB := Lib.hid hsb; clear hsb
        go_wp2_with (at_builtin; refine app1I rfl _ _ rfl w.heap.size _ ds rfl HOB.out w2.heap.size (base - 1) rfl (heap_alloc_new _ _) (by omega) (by simp; omega) ?_; intro v5 w6 hown5 hg5 hv5)
        have hlo := ownI_lo HOB.out
        have HGF := Lib.hid (gMore HGB.out hg5 hlo)
        have HSF := Lib.hid ((HSB.out.keep hg5.size (fun k hk => hg5.block k (by simp; omega) (fun e => by have := hlo k e.symm; omega))).mono (show N + k * 4 + 2 + 2 ≤ N + (k + 1) * 4 by omega))
        have HOF := Lib.hid hown5; clear hown5
        go_roundw
        case rel => exact ⟨k + 1, ds ++ [(base - 1)], by omega, by go_num, HOF.out, by rw [List.length_append, HL.out]; rfl, fun d hd => by
          rcases List.mem_append.1 hd with hd | hd
          · exact HD.out d hd
          · rw [List.mem_singleton.1 hd]; omega, HSF.out, HGF.out⟩
        case measure => simp [intOf]; omega
    · have HK : Hid (k = width) := by simp only [Hid]; omega
      obtain ⟨AO, cO, rfl, -⟩ := HO.out.reads
      have HE : Hid (ds.length = width) := by simp only [Hid]; have := HL.out; have := HK.out; omega
      have HOW : Hid (OwnI wr w.heap.size (.slice AO width cO) ds) := by have h := HO.out; rw [HE.out] at h; exact h
      have HSF : Hid (Src wr b (N + width * 4)) := HS.out.mono (by have := HK.out; omega)
      rw [HE.out]
      go_wp2
      go_ret
      exact ⟨AO, cO, ds, rfl, HOW.out, HE.out, HD.out, HSF.out, HG.out⟩
end Go.Proofs.YtmmiahgmdllgdaaGreatDoor

namespace Go.Proofs.YtmmiahgmdllgdaaGreatDoor
open Go.RowKit Go.Sort
theorem sameR_refl (r : Reg) : sameR r r = true := by simp [sameR]
theorem sameM_refl (t : Tri) : sameM t t = true := by simp [sameM, sameR_refl]
theorem StrokeBack_any (k : Int) (w : World) (hk : 1 ≤ k ∧ k ≤ 6) :
    Calls Tryz.prog 137 #[.int .i64 k] w fun e w' => e = .returned (.tuple #[.int .i64 (if k ≤ 4 then backK k else 0), .int .i64 (if k ≤ 4 then 0 else 3)]) ∧ w = w' := by
  have hk' : k = 1 ∨ k = 2 ∨ k = 3 ∨ k = 4 ∨ k = 5 ∨ k = 6 := by omega
  clear hk
  rcases hk' with rfl | rfl | rfl | rfl | rfl | rfl <;>
  · go_enter Tryz.func137, Tryz.ntmps137
    go_wp2_with fail
    go_ret2
    exact ⟨rfl, rfl⟩
theorem specSameMachine_any (t u : Tri) (A1 A2 A3 B1 B2 B3 : Option Addr) (c1 c2 c3 d1 d2 d3 : Nat) (w : World) (r1 : RI w A1 t.a.digits.length t.a.digits) (r2 : RI w A2 t.b.digits.length t.b.digits) (r3 : RI w A3 t.s.digits.length t.s.digits)
    (q1 : RI w B1 u.a.digits.length u.a.digits) (q2 : RI w B2 u.b.digits.length u.b.digits) (q3 : RI w B3 u.s.digits.length u.s.digits) (hs : SmallTri t) (hu : SmallTri u) :
    Calls Tryz.prog 22 #[.agg #[.int .i64 t.a.base, .slice A1 t.a.digits.length c1, .int .i64 t.b.base, .slice A2 t.b.digits.length c2, .int .i64 t.s.base, .slice A3 t.s.digits.length c3, .int .i64 t.carry], .agg #[.int .i64 u.a.base, .slice B1 u.a.digits.length d1, .int .i64 u.b.base, .slice B2 u.b.digits.length d2, .int .i64 u.s.base, .slice B3 u.s.digits.length d3, .int .i64 u.carry]] w fun e w' => e = .returned (.bool (sameM t u)) ∧ Below w.heap.size w w' := by
  have KV := Lib.hid (fun W (hW : Kn w ([.blk (w.heap.size + 1) [.int .i64 u.a.base, .slice B1 u.a.digits.length d1, .int .i64 u.b.base, .slice B2 u.b.digits.length d2, .int .i64 u.s.base, .slice B3 u.s.digits.length d3, .int .i64 u.carry] 32, .blk w.heap.size [.int .i64 t.a.base, .slice A1 t.a.digits.length c1, .int .i64 t.b.base, .slice A2 t.b.digits.length c2, .int .i64 t.s.base, .slice A3 t.s.digits.length c3, .int .i64 t.carry] 32]) W) => l10Same_any ⟨w.heap.size, 0, none⟩ ⟨w.heap.size + 1, 0, none⟩ t u W
    (TriC.tri (A1 := A1) (c1 := c1) (A2 := A2) (c2 := c2) (A3 := A3) (c3 := c3) ⟨⟨hW.drop.blkAt.1 0, hW.drop.blkAt.1 1, hW.drop.blkAt.1 2, hW.drop.blkAt.1 3, hW.drop.blkAt.1 4, hW.drop.blkAt.1 5, hW.drop.blkAt.1 6⟩, r1.below hW.below, r2.below hW.below, r3.below hW.below⟩)
    (TriC.tri (A1 := B1) (c1 := d1) (A2 := B2) (c2 := d2) (A3 := B3) (c3 := d3) ⟨⟨hW.blkAt.1 0, hW.blkAt.1 1, hW.blkAt.1 2, hW.blkAt.1 3, hW.blkAt.1 4, hW.blkAt.1 5, hW.blkAt.1 6⟩, q1.below hW.below, q2.below hW.below, q3.below hW.below⟩) hs hu)
  clear r1 r2 r3 q1 q2 q3
  go_enter Tryz.func22, Tryz.ntmps22
  go_wp2_with fail
  refine Calls.kn (((Kn.nil w).al [.int .i64 t.a.base, .slice A1 t.a.digits.length c1, .int .i64 t.b.base, .slice A2 t.b.digits.length c2, .int .i64 t.s.base, .slice A3 t.s.digits.length c3, .int .i64 t.carry] 32).al [.int .i64 u.a.base, .slice B1 u.a.digits.length d1, .int .i64 u.b.base, .slice B2 u.b.digits.length d2, .int .i64 u.s.base, .slice B3 u.s.digits.length d3, .int .i64 u.carry] 32) ?_; intro w1 hK0
  simp only [World.size_alloc] at hK0
  refine (KV.out _ hK0).mono ?_; rintro e w2 ⟨rfl, m, rfl⟩
  go_wp2_with fail
  go_ret
  exact ⟨rfl, (hK0.drewN m).below⟩
/-- a machine, a bell and a code -/
def DSRet (r : Tri × Bool) (w : World) (e : Ending) (w' : World) : Prop := ∃ E1 f1 E2 f2 E3 f3, e = .returned (.tuple #[.agg #[.int .i64 r.1.a.base, .slice E1 r.1.a.digits.length f1, .int .i64 r.1.b.base, .slice E2 r.1.b.digits.length f2, .int .i64 r.1.s.base, .slice E3 r.1.s.digits.length f3, .int .i64 r.1.carry], .bool r.2, .int .i64 0]) ∧ Kn w [rowI E3 f3 r.1.s.digits, rowI E2 f2 r.1.b.digits, rowI E1 f1 r.1.a.digits] w'
end Go.Proofs.YtmmiahgmdllgdaaGreatDoor

namespace Go.Proofs.YtmmiahgmdllgdaaGreatDoor
open Go.RowKit Go.Sort
/-! shortened sessions, plainly -/
def undoB (a b : List UInt8) : Bool := decide (1 ≤ kindOf a ∧ kindOf a ≤ 4) && (backK (kindOf a) == kindOf b)
structure Kept where
  at_ : Nat
  text : ByteArray
/-- is the last kept line undone? -/
def lastUndo (bel : List Int) (K : List Kept) (i : Nat) (L : ByteArray) : Bool :=
  match K.getLast? with
  | none => false
  | some k => undoB (strB k.text) (strB L) && !(decide ((k.at_ : Int) ∈ bel)) && !(decide ((i : Int) ∈ bel))
def stepKp (bel : List Int) (K : List Kept) (i : Nat) (L : ByteArray) : List Kept := if lastUndo bel K i L then K.dropLast else K ++ [⟨i, L⟩]
def keptU (bel : List Int) (ss : List ByteArray) : Nat → List Kept
  | 0 => []
  | k + 1 => stepKp bel (keptU bel ss k) k (ss.getD k ByteArray.empty)
theorem stepKp_len (bel : List Int) (K : List Kept) (i : Nat) (L : ByteArray) : (stepKp bel K i L).length ≤ K.length + 1 := by
  unfold stepKp
  split
  · rw [List.length_dropLast]; omega
  · simp
theorem keptU_len (bel : List Int) (ss : List ByteArray) (k : Nat) : (keptU bel ss k).length ≤ k := by
  induction k with
  | zero => exact Nat.le_refl _
  | succ k ih => have := stepKp_len bel (keptU bel ss k) k (ss.getD k ByteArray.empty); show (stepKp bel (keptU bel ss k) k _).length ≤ _; omega
theorem stepKp_at (bel : List Int) (K : List Kept) (i : Nat) (L : ByteArray) (h : ∀ x ∈ K, x.at_ < i) : ∀ x ∈ stepKp bel K i L, x.at_ < i + 1 := by
  intro x hx
  unfold stepKp at hx
  split at hx
  · have := h x (List.dropLast_subset _ hx); omega
  · rcases List.mem_append.1 hx with hx | hx
    · have := h x hx; omega
    · rw [List.mem_singleton.1 hx]; show i < i + 1; omega
theorem keptU_at (bel : List Int) (ss : List ByteArray) (k : Nat) : ∀ x ∈ keptU bel ss k, x.at_ < k := by
  induction k with
  | zero => intro x hx; cases hx
  | succ k ih => exact stepKp_at bel _ k _ ih
def shoL (ss : List ByteArray) : List ByteArray := if wholeC (ss.map strB) = 0 then (keptU (runS (ss.map strB)).1.bel ss ss.length).map Kept.text else []
theorem lineS_bel (s : SS) (i : Int) (b : List UInt8) : (lineS s i b).1.bel = s.bel ∨ (lineS s i b).1.bel = s.bel ++ [i] := by
  unfold lineS
  split
  · exact .inl rfl
  split
  · show (if _ then _ else _ : List Int) = _ ∨ _
    split
    · exact .inr rfl
    · exact .inl rfl
  split
  · exact .inl rfl
  split
  · split <;> exact .inl rfl
  split
  · split <;> exact .inl rfl
  · exact .inl rfl
theorem goS_bel : ∀ (l : List (List UInt8)) (s : SS) (i : Int), 0 ≤ i → (∀ j ∈ s.bel, 0 ≤ j ∧ j < i) → ∀ j ∈ (goS s i l).1.bel, 0 ≤ j ∧ j < i + l.length
  | [], s, i, h0, h, j, hj => by
    unfold goS at hj
    split at hj
    · have := h j hj; simp; omega
    · have := h j hj; simp; omega
  | b :: t, s, i, h0, h, j, hj => by
    have hn : ∀ j ∈ (lineS s i b).1.bel, 0 ≤ j ∧ j < i + 1 := by
      intro j hj
      rcases lineS_bel s i b with e | e <;> rw [e] at hj
      · have := h j hj; omega
      · rcases List.mem_append.1 hj with hj | hj
        · have := h j hj; omega
        · rw [List.mem_singleton.1 hj]; omega
    unfold goS at hj
    simp only [List.length_cons]
    split at hj
    · have := hn j hj; omega
    · have := goS_bel t (lineS s i b).1 (i + 1) (by omega) hn j hj
      omega
theorem runS_bel (l : List (List UInt8)) : ∀ j ∈ (runS l).1.bel, 0 ≤ j ∧ j < l.length + 1 := by
  intro j hj
  cases l with
  | nil => have hj : j ∈ ([] : List Int) := hj; cases hj
  | cons b t =>
    by_cases h : (begins startB b && (rdM (b.drop 6)).isSome) = true
    · have e : runS (b :: t) = goS ⟨rdMach (b.drop 6), rdMach (b.drop 6), [], [], false⟩ 1 t := if_pos h
      rw [e] at hj
      have := goS_bel t ⟨rdMach (b.drop 6), rdMach (b.drop 6), [], [], false⟩ 1 (by omega) (fun j h => by have h : j ∈ ([] : List Int) := h; cases h) j hj
      simp only [List.length_cons]; omega
    · have e : runS (b :: t) = (zSS, 0, 1) := if_neg h
      rw [e] at hj
      have hj : j ∈ ([] : List Int) := hj
      cases hj
theorem backK_bd' {k : Int} (h : 1 ≤ k ∧ k ≤ 4) : 1 ≤ backK k ∧ backK k ≤ 4 := by
  have h' : k = 1 ∨ k = 2 ∨ k = 3 ∨ k = 4 := by omega
  rcases h' with rfl | rfl | rfl | rfl <;> decide
def sbCode (k : Int) : Int := if 1 ≤ k ∧ k ≤ 4 then 0 else if k = 5 ∨ k = 6 then 3 else 2
def sbBack (k : Int) : Int := if 1 ≤ k ∧ k ≤ 4 then backK k else 0
theorem StrokeBack_all (k : Int) (w : World) (hk : 0 ≤ k ∧ k ≤ 6) :
    Calls Tryz.prog 137 #[.int .i64 k] w fun e w' => e = .returned (.tuple #[.int .i64 (sbBack k), .int .i64 (sbCode k)]) ∧ w = w' := by
  have hk' : k = 0 ∨ k = 1 ∨ k = 2 ∨ k = 3 ∨ k = 4 ∨ k = 5 ∨ k = 6 := by omega
  clear hk
  rcases hk' with rfl | rfl | rfl | rfl | rfl | rfl | rfl <;>
  · go_enter Tryz.func137, Tryz.ntmps137
    go_wp2_with fail
    go_ret2
    exact ⟨rfl, rfl⟩
theorem specStrokeBack_all (k : Int) (w : World) (hk : 0 ≤ k ∧ k ≤ 6) :
    Calls Tryz.prog 139 #[.int .i64 k] w fun e w' => e = .returned (.tuple #[.int .i64 (sbBack k), .int .i64 (sbCode k)]) ∧ w = w' := by
  have hk' : k = 0 ∨ k = 1 ∨ k = 2 ∨ k = 3 ∨ k = 4 ∨ k = 5 ∨ k = 6 := by omega
  clear hk
  rcases hk' with rfl | rfl | rfl | rfl | rfl | rfl | rfl <;>
  · go_enter Tryz.func139, Tryz.ntmps139
    go_wp2_with fail
    go_ret2
    exact ⟨rfl, rfl⟩
set_option maxHeartbeats 800000 in
theorem undoes_any (s t : ByteArray) (w : World) : Calls Tryz.prog 74 #[.string s, .string t] w fun e w' => e = .returned (.bool (undoB (strB s) (strB t))) ∧ Below w.heap.size w w' := by
  have K1 := (fun W => strokeNamed_any s W)
  have K2 := (fun W => strokeNamed_any t W)
  obtain ⟨R, hR⟩ : ∃ r, undoB (strB s) (strB t) = r := ⟨_, rfl⟩
  rw [hR]
  unfold undoB at hR
  have ha := kindOf_bd (strB s)
  have hb := kindOf_bd (strB t)
  obtain ⟨a, haa⟩ : ∃ a, kindOf (strB s) = a := ⟨_, rfl⟩
  obtain ⟨b, hbb⟩ : ∃ a, kindOf (strB t) = a := ⟨_, rfl⟩
  rw [haa] at K1 hR ha
  rw [hbb] at K2 hR hb
  have KB := (fun W => StrokeBack_all a W ha)
  have hfit : R = (decide (a ≠ 0) && decide (b ≠ 0) && (sbCode a == 0) && (sbBack a == b)) := by
    rw [← hR]
    unfold sbCode sbBack
    by_cases h : 1 ≤ a ∧ a ≤ 4
    · have h1 : a ≠ 0 := by omega
      have h2 := backK_bd' h
      rw [if_pos h, if_pos h, decide_eq_true h, decide_eq_true h1]
      by_cases h3 : backK a = b
      · have h4 : b ≠ 0 := by omega
        rw [decide_eq_true h4, beq_iff_eq.2 h3]; rfl
      · rw [beq_eq_false_iff_ne.2 h3]; simp
    · rw [if_neg h, decide_eq_false h, Bool.false_and]
      split <;> simp
  obtain ⟨c, hc⟩ : ∃ c, sbCode a = c := ⟨_, rfl⟩
  obtain ⟨d, hd⟩ : ∃ c, sbBack a = c := ⟨_, rfl⟩
  rw [hc, hd] at hfit
  simp only [hc, hd] at KB
  obtain ⟨p, hp⟩ : ∃ p, decide (a ≠ 0) = p := ⟨_, rfl⟩
  obtain ⟨q, hq⟩ : ∃ p, decide (b ≠ 0) = p := ⟨_, rfl⟩
  rw [hp] at K1 hfit
  rw [hq] at K2 hfit
  have HF := Lib.hid hfit
  replace K1 := Lib.hid K1
  replace K2 := Lib.hid K2
  replace KB := Lib.hid KB
  clear hR hp hq hc hd haa hbb ha hb hfit
  have fin : ∀ x y, (c == 0) = x → (d == b) = y → Calls Tryz.prog 74 #[.string s, .string t] w fun e w' => e = .returned (.bool R) ∧ Below w.heap.size w w' := by
    intro x y hx hy
    have HR := Lib.hid (show R = (p && q && x && y) by rw [HF.out, hx, hy])
    cases p <;> cases q <;> cases x <;> cases y <;>
    · go_enter Tryz.func74, Tryz.ntmps74
      go_wp2_with (first
        | (go_at_call 130; with_reducible refine (K1.out _).mono ?_; rintro e w1 ⟨rfl, h1⟩)
        | (go_at_call 130; with_reducible refine (K2.out _).mono ?_; rintro e w2 ⟨rfl, h2⟩)
        | (go_at_call 137; refine (KB.out _).mono ?_; rintro e w' ⟨rfl, rfl⟩))
      go_ret
      exact ⟨by rw [HR.out]; rfl, h1.trans (h2.mono h1.size)⟩
  exact fin _ _ rfl rfl
end Go.Proofs.YtmmiahgmdllgdaaGreatDoor

namespace Go.Proofs.YtmmiahgmdllgdaaGreatDoor
open Go.RowKit Go.Sort
def sfC (bs : List (List UInt8)) : Int := if bs.length > 100 then 5 else 0
def sfA (bs : List (List UInt8)) : Int := if bs.length > 100 then 0 else (runS bs).2.1
def sfF (bs : List (List UInt8)) : Int := if bs.length > 100 then 0 else (runS bs).2.2
def SFRet (bs : List (List UInt8)) (w : World) (e : Ending) (w' : World) : Prop := e = .returned (.tuple #[.int .i64 (sfA bs), .int .i64 (sfF bs), .int .i64 (sfC bs)]) ∧ Below w.heap.size w w'
theorem sf_full {ss : List ByteArray} (h : ss.length > 100) : sfA (ss.map strB) = 0 ∧ sfF (ss.map strB) = 0 ∧ sfC (ss.map strB) = 5 := by
  have h' : (ss.map strB).length > 100 := by rw [List.length_map]; exact h
  exact ⟨if_pos h', if_pos h', if_pos h'⟩
theorem sf_run {ss : List ByteArray} (h : ¬ ss.length > 100) : sfA (ss.map strB) = (runS (ss.map strB)).2.1 ∧ sfF (ss.map strB) = (runS (ss.map strB)).2.2 ∧ sfC (ss.map strB) = 0 := by
  have h' : ¬ (ss.map strB).length > 100 := by rw [List.length_map]; exact h
  exact ⟨if_neg h', if_neg h', if_neg h'⟩
theorem SessionFault_any (A : Option Addr) (n c : Nat) (ss : List ByteArray) (w : World) (hr : RL StrM 1 w A n ss) (hsz : ∀ s ∈ ss, s.size ≤ 1048576) (ht : TB w) :
    Calls Tryz.prog 8 #[.slice A n c] w (SFRet (ss.map strB) w) := by
  have hl := hr.1
  unfold SFRet
  by_cases hn : n ≤ 100
  · have hi : ¬ (100 : Int) < (n : Int) := by omega
    obtain ⟨e1, e2, e3⟩ := sf_run (ss := ss) (by omega)
    rw [e1, e2, e3]
    have KR := Lib.hid (runSession_any A n c ss w hr hn hsz ht)
    clear e1 e2 e3 hr hsz ht
    go_enter Tryz.func8, Tryz.ntmps8
    go_wp2_with fail
    refine KR.out.mono ?_; rintro e w1 ⟨g, rfl, hS⟩
    go_wp2_with fail
    go_ret3
    exact ⟨rfl, hS.below⟩
  · have hi : (100 : Int) < (n : Int) := by omega
    obtain ⟨e1, e2, e3⟩ := sf_full (ss := ss) (by omega)
    rw [e1, e2, e3]
    clear e1 e2 e3 hr hsz ht
    go_enter Tryz.func8, Tryz.ntmps8
    go_wp2_with fail
    go_ret3
    exact ⟨rfl, Below.refl _ _⟩
theorem specSessionFault_any (A : Option Addr) (n c : Nat) (ss : List ByteArray) (w : World) (hr : RL StrM 1 w A n ss) (hsz : ∀ s ∈ ss, s.size ≤ 1048576) :
    Calls Tryz.prog 9 #[.slice A n c] w (SFRet (ss.map strB) w) := by
  have hl := hr.1
  unfold SFRet
  by_cases hn : n ≤ 100
  · have hi : ¬ (100 : Int) < (n : Int) := by omega
    obtain ⟨e1, e2, e3⟩ := sf_run (ss := ss) (by omega)
    rw [e1, e2, e3]
    have KR := Lib.hid (l24Run_any A n c ss w hr hn hsz)
    clear e1 e2 e3 hr hsz
    go_enter Tryz.func9, Tryz.ntmps9
    go_wp2_with fail
    refine KR.out.mono ?_; rintro e w1 ⟨g, rfl, hS⟩
    go_wp2_with fail
    go_ret3
    exact ⟨rfl, hS.below⟩
  · have hi : (100 : Int) < (n : Int) := by omega
    obtain ⟨e1, e2, e3⟩ := sf_full (ss := ss) (by omega)
    rw [e1, e2, e3]
    clear e1 e2 e3 hr hsz
    go_enter Tryz.func9, Tryz.ntmps9
    go_wp2_with fail
    go_ret3
    exact ⟨rfl, Below.refl _ _⟩
def ssL (bs : List (List UInt8)) : List Int := if wholeC bs = 0 then (runS bs).1.str else []
theorem ssL_len (bs : List (List UInt8)) : (ssL bs).length ≤ 100 := by
  unfold ssL
  split
  · rename_i h
    obtain ⟨h1, h2⟩ := wholeC_ok h
    exact Nat.le_trans (runS_good h2).str h1
  · simp
def ssRet (bs : List (List UInt8)) (w : World) (e : Ending) (w' : World) : Prop := ∃ X x, e = .returned (.tuple #[.slice X (ssL bs).length x, .int .i64 (wholeC bs)]) ∧ Kn w [rowI X x (ssL bs)] w'
theorem SessionStrokes_any (A : Option Addr) (n c : Nat) (ss : List ByteArray) (w : World) (hr : RL StrM 1 w A n ss) (hsz : ∀ s ∈ ss, s.size ≤ 1048576) (ht : TB w) :
    Calls Tryz.prog 12 #[.slice A n c] w (ssRet (ss.map strB) w) := by
  have KW := (wholeSession_any A n c ss w hr hsz ht)
  unfold ssRet ssL
  unfold WholeI at KW
  obtain ⟨C, hC⟩ : ∃ C, wholeC (ss.map strB) = C := ⟨_, rfl⟩
  rw [hC] at KW ⊢
  obtain ⟨s, hs⟩ : ∃ s, (runS (ss.map strB)).1 = s := ⟨_, rfl⟩
  rw [hs] at KW ⊢
  have KW := Lib.hid KW
  clear hC hs hr hsz ht
  obtain ⟨l, hl⟩ : ∃ l : List Int, (if C = 0 then s.str else []) = l := ⟨_, rfl⟩
  rw [hl]
  have HL := Lib.hid hl
  clear hl
  rcases hc : (C == 0) with _ | _
  · have HC := Lib.hid (show C ≠ 0 by simpa using hc)
    go_enter Tryz.func12, Tryz.ntmps12
    go_wp2_with fail
    refine KW.out.mono ?_; rintro e w1 (⟨h0, -⟩ | ⟨-, rfl, hw⟩)
    · exact absurd h0 HC.out
    go_wp2_with fail
    go_ret2
    have hl := HL.out
    rw [if_neg HC.out] at hl
    subst hl
    exact ⟨none, 0, rfl, ((Kn.nil _).keep hw).nilRow _ _⟩
  · obtain rfl : C = 0 := by simpa using hc
    go_enter Tryz.func12, Tryz.ntmps12
    go_wp2_with fail
    refine KW.out.mono ?_; rintro e w1 (⟨-, g, rfl, hS⟩ | ⟨h0, -⟩)
    · obtain ⟨U1, u1, U2, u2, U3, u3, A1, c1, A2, c2, A3, c3, SA, sc, BA, bc, m, hK, -, -⟩ := hS
      obtain ⟨a1, a2, a3⟩ := hK.blkAt
      go_wp2_with fail
      go_ret2
      have hl := HL.out
      simp only [if_true] at hl
      subst hl
      exact ⟨_, _, rfl, (hK.front 1 rfl).only (by simp)⟩
    · exact absurd rfl h0
theorem specSessionStrokes_any (A : Option Addr) (n c : Nat) (ss : List ByteArray) (w : World) (hr : RL StrM 1 w A n ss) (hsz : ∀ s ∈ ss, s.size ≤ 1048576) :
    Calls Tryz.prog 13 #[.slice A n c] w (ssRet (ss.map strB) w) := by
  have KW := (l24Ask_any A n c ss w hr hsz)
  unfold ssRet ssL
  unfold WholeS at KW
  obtain ⟨C, hC⟩ : ∃ C, wholeC (ss.map strB) = C := ⟨_, rfl⟩
  rw [hC] at KW ⊢
  obtain ⟨s, hs⟩ : ∃ s, (runS (ss.map strB)).1 = s := ⟨_, rfl⟩
  rw [hs] at KW ⊢
  have KW := Lib.hid KW
  clear hC hs hr hsz
  obtain ⟨l, hl⟩ : ∃ l : List Int, (if C = 0 then s.str else []) = l := ⟨_, rfl⟩
  rw [hl]
  have HL := Lib.hid hl
  clear hl
  rcases hc : (C == 0) with _ | _
  · have HC := Lib.hid (show C ≠ 0 by simpa using hc)
    go_enter Tryz.func13, Tryz.ntmps13
    go_wp2_with fail
    refine KW.out.mono ?_; rintro e w1 (⟨h0, -⟩ | ⟨-, g, rfl, hw⟩)
    · exact absurd h0 HC.out
    go_wp2_with fail
    go_ret2
    have hl := HL.out
    rw [if_neg HC.out] at hl
    subst hl
    exact ⟨none, 0, rfl, ((Kn.nil _).keep hw).nilRow _ _⟩
  · obtain rfl : C = 0 := by simpa using hc
    go_enter Tryz.func13, Tryz.ntmps13
    go_wp2_with fail
    refine KW.out.mono ?_; rintro e w1 (⟨-, g, rfl, hS⟩ | ⟨h0, -⟩)
    · obtain ⟨U1, u1, U2, u2, U3, u3, A1, c1, A2, c2, A3, c3, SA, sc, BA, bc, m, hK, -⟩ := hS
      obtain ⟨a1, a2, a3⟩ := hK.blkAt
      go_wp2_with fail
      go_ret2
      have hl := HL.out
      simp only [if_true] at hl
      subst hl
      exact ⟨_, _, rfl, (hK.front 4 rfl).only (by simp)⟩
    · exact absurd rfl h0
def blL (bs : List (List UInt8)) : List Int := if wholeC bs = 0 then (runS bs).1.bel else []
theorem blL_len (bs : List (List UInt8)) : (blL bs).length ≤ 100 := by
  unfold blL
  split
  · rename_i h
    obtain ⟨h1, h2⟩ := wholeC_ok h
    exact Nat.le_trans (runS_good h2).bel h1
  · simp
def blRet (bs : List (List UInt8)) (w : World) (e : Ending) (w' : World) : Prop := ∃ X x, e = .returned (.tuple #[.slice X (blL bs).length x, .int .i64 (wholeC bs)]) ∧ Kn w [rowI X x (blL bs)] w'
theorem BellLines_any (A : Option Addr) (n c : Nat) (ss : List ByteArray) (w : World) (hr : RL StrM 1 w A n ss) (hsz : ∀ s ∈ ss, s.size ≤ 1048576) (ht : TB w) :
    Calls Tryz.prog 14 #[.slice A n c] w (blRet (ss.map strB) w) := by
  have KW := (wholeSession_any A n c ss w hr hsz ht)
  unfold blRet blL
  unfold WholeI at KW
  obtain ⟨C, hC⟩ : ∃ C, wholeC (ss.map strB) = C := ⟨_, rfl⟩
  rw [hC] at KW ⊢
  obtain ⟨s, hs⟩ : ∃ s, (runS (ss.map strB)).1 = s := ⟨_, rfl⟩
  rw [hs] at KW ⊢
  have KW := Lib.hid KW
  clear hC hs hr hsz ht
  obtain ⟨l, hl⟩ : ∃ l : List Int, (if C = 0 then s.bel else []) = l := ⟨_, rfl⟩
  rw [hl]
  have HL := Lib.hid hl
  clear hl
  rcases hc : (C == 0) with _ | _
  · have HC := Lib.hid (show C ≠ 0 by simpa using hc)
    go_enter Tryz.func14, Tryz.ntmps14
    go_wp2_with fail
    refine KW.out.mono ?_; rintro e w1 (⟨h0, -⟩ | ⟨-, rfl, hw⟩)
    · exact absurd h0 HC.out
    go_wp2_with fail
    go_ret2
    have hl := HL.out
    rw [if_neg HC.out] at hl
    subst hl
    exact ⟨none, 0, rfl, ((Kn.nil _).keep hw).nilRow _ _⟩
  · obtain rfl : C = 0 := by simpa using hc
    go_enter Tryz.func14, Tryz.ntmps14
    go_wp2_with fail
    refine KW.out.mono ?_; rintro e w1 (⟨-, g, rfl, hS⟩ | ⟨h0, -⟩)
    · obtain ⟨U1, u1, U2, u2, U3, u3, A1, c1, A2, c2, A3, c3, SA, sc, BA, bc, m, hK, -, -⟩ := hS
      obtain ⟨a1, a2, a3⟩ := hK.blkAt
      go_wp2_with fail
      go_ret2
      have hl := HL.out
      simp only [if_true] at hl
      subst hl
      exact ⟨_, _, rfl, (hK.front 2 rfl).only (by simp)⟩
    · exact absurd rfl h0
theorem specBellLines_any (A : Option Addr) (n c : Nat) (ss : List ByteArray) (w : World) (hr : RL StrM 1 w A n ss) (hsz : ∀ s ∈ ss, s.size ≤ 1048576) :
    Calls Tryz.prog 15 #[.slice A n c] w (blRet (ss.map strB) w) := by
  have KW := (l24Ask_any A n c ss w hr hsz)
  unfold blRet blL
  unfold WholeS at KW
  obtain ⟨C, hC⟩ : ∃ C, wholeC (ss.map strB) = C := ⟨_, rfl⟩
  rw [hC] at KW ⊢
  obtain ⟨s, hs⟩ : ∃ s, (runS (ss.map strB)).1 = s := ⟨_, rfl⟩
  rw [hs] at KW ⊢
  have KW := Lib.hid KW
  clear hC hs hr hsz
  obtain ⟨l, hl⟩ : ∃ l : List Int, (if C = 0 then s.bel else []) = l := ⟨_, rfl⟩
  rw [hl]
  have HL := Lib.hid hl
  clear hl
  rcases hc : (C == 0) with _ | _
  · have HC := Lib.hid (show C ≠ 0 by simpa using hc)
    go_enter Tryz.func15, Tryz.ntmps15
    go_wp2_with fail
    refine KW.out.mono ?_; rintro e w1 (⟨h0, -⟩ | ⟨-, g, rfl, hw⟩)
    · exact absurd h0 HC.out
    go_wp2_with fail
    go_ret2
    have hl := HL.out
    rw [if_neg HC.out] at hl
    subst hl
    exact ⟨none, 0, rfl, ((Kn.nil _).keep hw).nilRow _ _⟩
  · obtain rfl : C = 0 := by simpa using hc
    go_enter Tryz.func15, Tryz.ntmps15
    go_wp2_with fail
    refine KW.out.mono ?_; rintro e w1 (⟨-, g, rfl, hS⟩ | ⟨h0, -⟩)
    · obtain ⟨U1, u1, U2, u2, U3, u3, A1, c1, A2, c2, A3, c3, SA, sc, BA, bc, m, hK, -⟩ := hS
      obtain ⟨a1, a2, a3⟩ := hK.blkAt
      go_wp2_with fail
      go_ret2
      have hl := HL.out
      simp only [if_true] at hl
      subst hl
      exact ⟨_, _, rfl, (hK.front 5 rfl).only (by simp)⟩
    · exact absurd rfl h0
end Go.Proofs.YtmmiahgmdllgdaaGreatDoor

namespace Go.Proofs.YtmmiahgmdllgdaaGreatDoor
open Go.RowKit Go.Sort
def saB (a b : List (List UInt8)) : Bool := decide (wholeC a = 0) && decide (wholeC b = 0) && sameM (runS a).1.start (runS b).1.start && sameM (runS a).1.m (runS b).1.m
theorem small_of {t : Tri} (h : vmach t = true) : SmallTri t := by
  have hz := sized_of h
  exact ⟨by have := hz.a; unfold SmallReg; omega, by have := hz.b; unfold SmallReg; omega, by have := hz.s; unfold SmallReg; omega⟩
/-- the cells of two sessions -/
theorem two_cells {w0 w : World} {m1 m2 : List Ent} {x y : SS} {g h : Nat} {T1 T2 : TypeId} {U1 U2 U3 V1 V2 V3 A1 A2 A3 B1 B2 B3 SA BA SB BB : Option Addr} {u1 u2 u3 v1 v2 v3 c1 c2 c3 d1 d2 d3 sc bc sd bd : Nat}
    (h1 : Kn w0 (.blk g [.int .i64 x.start.a.base, .slice U1 x.start.a.digits.length u1, .int .i64 x.start.b.base, .slice U2 x.start.b.digits.length u2, .int .i64 x.start.s.base, .slice U3 x.start.s.digits.length u3, .int .i64 x.start.carry, .int .i64 x.m.a.base, .slice A1 x.m.a.digits.length c1, .int .i64 x.m.b.base, .slice A2 x.m.b.digits.length c2, .int .i64 x.m.s.base, .slice A3 x.m.s.digits.length c3, .int .i64 x.m.carry, .slice SA x.str.length sc, .slice BA x.bel.length bc, .bool x.ended] T1 :: m1) w) (h2 : Kn w0 (.blk h [.int .i64 y.start.a.base, .slice V1 y.start.a.digits.length v1, .int .i64 y.start.b.base, .slice V2 y.start.b.digits.length v2, .int .i64 y.start.s.base, .slice V3 y.start.s.digits.length v3, .int .i64 y.start.carry, .int .i64 y.m.a.base, .slice B1 y.m.a.digits.length d1, .int .i64 y.m.b.base, .slice B2 y.m.b.digits.length d2, .int .i64 y.m.s.base, .slice B3 y.m.s.digits.length d3, .int .i64 y.m.carry, .slice SB y.str.length sd, .slice BB y.bel.length bd, .bool y.ended] T2 :: m2) w) : (fun W => (W.cell? ⟨g, 0, none⟩ = some (.int .i64 x.start.a.base) ∧ W.cell? ⟨g, 1, none⟩ = some (.slice U1 x.start.a.digits.length u1) ∧ W.cell? ⟨g, 2, none⟩ = some (.int .i64 x.start.b.base) ∧ W.cell? ⟨g, 3, none⟩ = some (.slice U2 x.start.b.digits.length u2) ∧ W.cell? ⟨g, 4, none⟩ = some (.int .i64 x.start.s.base) ∧ W.cell? ⟨g, 5, none⟩ = some (.slice U3 x.start.s.digits.length u3) ∧ W.cell? ⟨g, 6, none⟩ = some (.int .i64 x.start.carry)) ∧ (W.cell? ⟨h, 0, none⟩ = some (.int .i64 y.start.a.base) ∧ W.cell? ⟨h, 1, none⟩ = some (.slice V1 y.start.a.digits.length v1) ∧ W.cell? ⟨h, 2, none⟩ = some (.int .i64 y.start.b.base) ∧ W.cell? ⟨h, 3, none⟩ = some (.slice V2 y.start.b.digits.length v2) ∧ W.cell? ⟨h, 4, none⟩ = some (.int .i64 y.start.s.base) ∧ W.cell? ⟨h, 5, none⟩ = some (.slice V3 y.start.s.digits.length v3) ∧ W.cell? ⟨h, 6, none⟩ = some (.int .i64 y.start.carry)) ∧ (W.cell? ⟨g, 7, none⟩ = some (.int .i64 x.m.a.base) ∧ W.cell? ⟨g, 8, none⟩ = some (.slice A1 x.m.a.digits.length c1) ∧ W.cell? ⟨g, 9, none⟩ = some (.int .i64 x.m.b.base) ∧ W.cell? ⟨g, 10, none⟩ = some (.slice A2 x.m.b.digits.length c2) ∧ W.cell? ⟨g, 11, none⟩ = some (.int .i64 x.m.s.base) ∧ W.cell? ⟨g, 12, none⟩ = some (.slice A3 x.m.s.digits.length c3) ∧ W.cell? ⟨g, 13, none⟩ = some (.int .i64 x.m.carry)) ∧ (W.cell? ⟨h, 7, none⟩ = some (.int .i64 y.m.a.base) ∧ W.cell? ⟨h, 8, none⟩ = some (.slice B1 y.m.a.digits.length d1) ∧ W.cell? ⟨h, 9, none⟩ = some (.int .i64 y.m.b.base) ∧ W.cell? ⟨h, 10, none⟩ = some (.slice B2 y.m.b.digits.length d2) ∧ W.cell? ⟨h, 11, none⟩ = some (.int .i64 y.m.s.base) ∧ W.cell? ⟨h, 12, none⟩ = some (.slice B3 y.m.s.digits.length d3) ∧ W.cell? ⟨h, 13, none⟩ = some (.int .i64 y.m.carry))) w :=
  ⟨⟨h1.blkAt.1 0, h1.blkAt.1 1, h1.blkAt.1 2, h1.blkAt.1 3, h1.blkAt.1 4, h1.blkAt.1 5, h1.blkAt.1 6⟩, ⟨h2.blkAt.1 0, h2.blkAt.1 1, h2.blkAt.1 2, h2.blkAt.1 3, h2.blkAt.1 4, h2.blkAt.1 5, h2.blkAt.1 6⟩, ⟨h1.blkAt.1 7, h1.blkAt.1 8, h1.blkAt.1 9, h1.blkAt.1 10, h1.blkAt.1 11, h1.blkAt.1 12, h1.blkAt.1 13⟩, ⟨h2.blkAt.1 7, h2.blkAt.1 8, h2.blkAt.1 9, h2.blkAt.1 10, h2.blkAt.1 11, h2.blkAt.1 12, h2.blkAt.1 13⟩⟩
set_option maxRecDepth 100000 in
set_option maxHeartbeats 6400000 in
theorem SessionsAgree_any (AA : Option Addr) (an ac : Nat) (xs : List ByteArray) (AB : Option Addr) (bn bc' : Nat) (ys : List ByteArray) (w : World) (hr : RL StrM 1 w AA an xs) (hsz : ∀ s ∈ xs, s.size ≤ 1048576) (hr2 : RL StrM 1 w AB bn ys) (hsz2 : ∀ s ∈ ys, s.size ≤ 1048576) (ht : TB w) :
    Calls Tryz.prog 25 #[.slice AA an ac, .slice AB bn bc'] w fun e w' => e = .returned (.bool (saB (xs.map strB) (ys.map strB))) ∧ Below w.heap.size w w' := by
  have KA := (wholeSession_any AA an ac xs w hr hsz ht)
  have KB := (fun W (hW : Below w.heap.size w W) => wholeSession_any AB bn bc' ys W (hr2.below steady_StrM hW) hsz2 (TB.below ht hW))
  unfold WholeI at KA KB
  have HS := (show saB (xs.map strB) (ys.map strB) = (decide (wholeC (xs.map strB) = 0) && decide (wholeC (ys.map strB) = 0) && sameM (runS (xs.map strB)).1.start (runS (ys.map strB)).1.start && sameM (runS (xs.map strB)).1.m (runS (ys.map strB)).1.m) from rfl)
  have GA := (fun (h : wholeC (xs.map strB) = 0) => runS_good (wholeC_ok h).2)
  have GB := (fun (h : wholeC (ys.map strB) = 0) => runS_good (wholeC_ok h).2)
  obtain ⟨R, hR⟩ : ∃ R, saB (xs.map strB) (ys.map strB) = R := ⟨_, rfl⟩
  rw [hR] at HS ⊢
  obtain ⟨C, hC⟩ : ∃ C, wholeC (xs.map strB) = C := ⟨_, rfl⟩
  obtain ⟨D, hD⟩ : ∃ C, wholeC (ys.map strB) = C := ⟨_, rfl⟩
  obtain ⟨x, hx⟩ : ∃ s, (runS (xs.map strB)).1 = s := ⟨_, rfl⟩
  obtain ⟨y, hy⟩ : ∃ s, (runS (ys.map strB)).1 = s := ⟨_, rfl⟩
  rw [hC, hx] at KA HS
  rw [hC, hx] at GA
  rw [hD, hy] at KB HS
  rw [hD, hy] at GB
  replace KA := Lib.hid KA
  replace KB := Lib.hid KB
  replace HS := Lib.hid HS
  clear hR hC hD hx hy hr hsz hr2 hsz2 ht
  rcases hc : (C == 0) with _ | _
  · have HC := Lib.hid (show C ≠ 0 by simpa using hc)
    have HQ : Hid (R = false) := by simp only [Hid]; rw [HS.out, decide_eq_false HC.out]; rfl
    have hc2 : decide (C = 0) = false := decide_eq_false HC.out
    go_enter Tryz.func25, Tryz.ntmps25
    go_wp2_with fail
    refine KA.out.mono ?_; rintro e w1 (⟨h0, -⟩ | ⟨-, rfl, hw⟩)
    · exact absurd h0 HC.out
    go_wp2_with fail
    refine (KB.out _ hw).mono ?_; rintro e w2 (⟨h0, g, rfl, hS⟩ | ⟨h0, rfl, hw2⟩)
    · have hb := hw.trans (hS.below.mono hw.size)
      go_wp2_with fail
      go_quiet (fail)
      go_wp2_with fail
      go_ret
      exact ⟨ret_bool HQ.out.symm, below_drewN hb _⟩
    · have hb := hw.trans (hw2.mono hw.size)
      go_wp2_with fail
      go_quiet (fail)
      go_wp2_with fail
      go_ret
      exact ⟨ret_bool HQ.out.symm, below_drewN hb _⟩
  · obtain rfl : C = 0 := by simpa using hc
    rcases hd : (D == 0) with _ | _
    · have HD := Lib.hid (show D ≠ 0 by simpa using hd)
      have HQ : Hid (R = false) := by simp only [Hid]; rw [HS.out, decide_eq_false HD.out]; simp
      have hd2 : decide (D = 0) = false := decide_eq_false HD.out
      go_enter Tryz.func25, Tryz.ntmps25
      go_wp2_with fail
      refine KA.out.mono ?_; rintro e w1 (⟨-, g, rfl, hS⟩ | ⟨h0, -⟩)
      rotate_left
      · exact absurd rfl h0
      have hw := hS.below
      go_wp2_with fail
      refine (KB.out _ hw).mono ?_; rintro e w2 (⟨h0, -⟩ | ⟨-, rfl, hw2⟩)
      · exact absurd h0 HD.out
      have hb := hw.trans (hw2.mono hw.size)
      go_wp2_with fail
      go_quiet (fail)
      go_wp2_with fail
      go_ret
      exact ⟨ret_bool HQ.out.symm, below_drewN hb _⟩
    · obtain rfl : D = 0 := by simpa using hd
      have ga := GA rfl
      have gb := GB rfl
      go_enter Tryz.func25, Tryz.ntmps25
      go_wp2_with fail
      refine KA.out.mono ?_; rintro e w1 (⟨-, g, rfl, hS⟩ | ⟨h0, -⟩)
      rotate_left
      · exact absurd rfl h0
      have hw := hS.below
      go_wp2_with fail
      refine (KB.out _ hw).mono ?_; rintro e w2 (⟨-, h, rfl, hS2⟩ | ⟨h0, -⟩)
      rotate_left
      · exact absurd rfl h0
      obtain ⟨U1, u1, U2, u2, U3, u3, A1, c1, A2, c2, A3, c3, SA, sc, BA, bc, m, hK, hu, hm⟩ := hS
      obtain ⟨V1, v1, V2, v2, V3, v3, B1, d1, B2, d2, B3, d3, SB, sd, BB, bd, m2, hK2, hu2, hm2⟩ := hS2
      have hK1 := (hK.keep hK2.below).drew
      have hL := (Kn.mono hK2 hw).drew
      obtain ⟨p1, p2, p3⟩ := hu.1.ri hK1 (fun e h => by simp [h])
      obtain ⟨p4, p5, p6⟩ := hm.ri hK1 (fun e h => by simp [h])
      obtain ⟨q1, q2, q3⟩ := hu2.1.ri hL (fun e h => by simp [h])
      obtain ⟨q4, q5, q6⟩ := hm2.ri hL (fun e h => by simp [h])
      have K1 := (fun W (hW : Below w2.drew.heap.size w2.drew W) => SameMachine_any x.start y.start U1 U2 U3 V1 V2 V3 u1 u2 u3 v1 v2 v3 W (p1.below hW) (p2.below hW) (p3.below hW) (q1.below hW) (q2.below hW) (q3.below hW) (small_of ga.start) (small_of gb.start))
      have K2 := (fun W (hW : Below w2.drew.heap.size w2.drew W) => SameMachine_any x.m y.m A1 A2 A3 B1 B2 B3 c1 c2 c3 d1 d2 d3 W (p4.below hW) (p5.below hW) (p6.below hW) (q4.below hW) (q5.below hW) (q6.below hW) (small_of ga.m) (small_of gb.m))
      obtain ⟨e1, h1⟩ : ∃ b, sameM x.start y.start = b := ⟨_, rfl⟩
      obtain ⟨e2, h2⟩ : ∃ b, sameM x.m y.m = b := ⟨_, rfl⟩
      rw [h1] at K1
      rw [h2] at K2
      have HR := Lib.hid (show R = (e1 && e2) by rw [HS.out, h1, h2]; simp)
      replace K1 := Lib.hid K1
      replace K2 := Lib.hid K2
      have HG := Lib.hid (two_cells hK1 hL)
      have hb0 := hL.below
      have HC := Lib.hid (fun W (hW : Below w2.drew.heap.size w2.drew W) => two_cells (hK1.keep hW) (hL.keep hW))
      clear h1 h2 p1 p2 p3 p4 p5 p6 q1 q2 q3 q4 q5 q6 ga gb hK1 hL hK hK2 hu hm hu2 hm2 hw
      rcases e1 with _ | _
      · have HQ : Hid (R = false) := by simp only [Hid]; rw [HR.out]; rfl
        go_wp2_with fail
        refine wp_region_held_drew (S := (fun W => (W.cell? ⟨g, 0, none⟩ = some (.int .i64 x.start.a.base) ∧ W.cell? ⟨g, 1, none⟩ = some (.slice U1 x.start.a.digits.length u1) ∧ W.cell? ⟨g, 2, none⟩ = some (.int .i64 x.start.b.base) ∧ W.cell? ⟨g, 3, none⟩ = some (.slice U2 x.start.b.digits.length u2) ∧ W.cell? ⟨g, 4, none⟩ = some (.int .i64 x.start.s.base) ∧ W.cell? ⟨g, 5, none⟩ = some (.slice U3 x.start.s.digits.length u3) ∧ W.cell? ⟨g, 6, none⟩ = some (.int .i64 x.start.carry)) ∧ (W.cell? ⟨h, 0, none⟩ = some (.int .i64 y.start.a.base) ∧ W.cell? ⟨h, 1, none⟩ = some (.slice V1 y.start.a.digits.length v1) ∧ W.cell? ⟨h, 2, none⟩ = some (.int .i64 y.start.b.base) ∧ W.cell? ⟨h, 3, none⟩ = some (.slice V2 y.start.b.digits.length v2) ∧ W.cell? ⟨h, 4, none⟩ = some (.int .i64 y.start.s.base) ∧ W.cell? ⟨h, 5, none⟩ = some (.slice V3 y.start.s.digits.length v3) ∧ W.cell? ⟨h, 6, none⟩ = some (.int .i64 y.start.carry)) ∧ (W.cell? ⟨g, 7, none⟩ = some (.int .i64 x.m.a.base) ∧ W.cell? ⟨g, 8, none⟩ = some (.slice A1 x.m.a.digits.length c1) ∧ W.cell? ⟨g, 9, none⟩ = some (.int .i64 x.m.b.base) ∧ W.cell? ⟨g, 10, none⟩ = some (.slice A2 x.m.b.digits.length c2) ∧ W.cell? ⟨g, 11, none⟩ = some (.int .i64 x.m.s.base) ∧ W.cell? ⟨g, 12, none⟩ = some (.slice A3 x.m.s.digits.length c3) ∧ W.cell? ⟨g, 13, none⟩ = some (.int .i64 x.m.carry)) ∧ (W.cell? ⟨h, 7, none⟩ = some (.int .i64 y.m.a.base) ∧ W.cell? ⟨h, 8, none⟩ = some (.slice B1 y.m.a.digits.length d1) ∧ W.cell? ⟨h, 9, none⟩ = some (.int .i64 y.m.b.base) ∧ W.cell? ⟨h, 10, none⟩ = some (.slice B2 y.m.b.digits.length d2) ∧ W.cell? ⟨h, 11, none⟩ = some (.int .i64 y.m.s.base) ∧ W.cell? ⟨h, 12, none⟩ = some (.slice B3 y.m.s.digits.length d3) ∧ W.cell? ⟨h, 13, none⟩ = some (.int .i64 y.m.carry)))) (by kernel_rfl) ?_ (fun hHeld => ?_)
        · exact HG.out
        try dsimp only
        refine wpAnyH_take (i := 0) (v := ?_) rfl (by kernel_rfl) (by kernel_rfl) (by kernel_rfl) (fun _ _ _ h => h) (Or.inl ⟨by rfl, ?_⟩) hHeld ?_
        rotate_left
        · (intro w hSw; (try dsimp only at hSw); go_simp; try with_reducible rfl)
        try simp only [Act.put, List.setIfInBounds_toArray, List.set_cons_zero, List.set_cons_succ, List.getElem_toArray, List.getElem_cons_succ, List.getElem_cons_zero]
        refine wpAnyH_take (i := 1) (v := ?_) rfl (by kernel_rfl) (by kernel_rfl) (by kernel_rfl) (fun _ _ _ h => h) (Or.inl ⟨by rfl, ?_⟩) hHeld ?_
        rotate_left
        · (intro w hSw; (try dsimp only at hSw); go_simp; try with_reducible rfl)
        try simp only [Act.put, List.setIfInBounds_toArray, List.set_cons_zero, List.set_cons_succ, List.getElem_toArray, List.getElem_cons_succ, List.getElem_cons_zero]
        refine wpAnyH_take (i := 2) (v := ?_) rfl (by kernel_rfl) (by kernel_rfl) (by kernel_rfl) (fun _ _ _ h => h) (Or.inl ⟨by rfl, ?_⟩) hHeld ?_
        rotate_left
        · (intro w hSw; (try dsimp only at hSw); go_simp; try with_reducible rfl)
        try simp only [Act.put, List.setIfInBounds_toArray, List.set_cons_zero, List.set_cons_succ, List.getElem_toArray, List.getElem_cons_succ, List.getElem_cons_zero]
        refine wpAnyH_take (i := 3) (v := ?_) rfl (by kernel_rfl) (by kernel_rfl) (by kernel_rfl) (fun _ _ _ h => h) (Or.inl ⟨by rfl, ?_⟩) hHeld ?_
        rotate_left
        · (intro w hSw; (try dsimp only at hSw); go_simp; try with_reducible rfl)
        try simp only [Act.put, List.setIfInBounds_toArray, List.set_cons_zero, List.set_cons_succ, List.getElem_toArray, List.getElem_cons_succ, List.getElem_cons_zero]
        refine wpAnyH_take (i := 4) (v := ?_) rfl (by kernel_rfl) (by kernel_rfl) (by kernel_rfl) (fun _ _ _ h => h) (Or.inl ⟨by rfl, ?_⟩) hHeld ?_
        rotate_left
        · (intro w hSw; (try dsimp only at hSw); go_simp; try with_reducible rfl)
        try simp only [Act.put, List.setIfInBounds_toArray, List.set_cons_zero, List.set_cons_succ, List.getElem_toArray, List.getElem_cons_succ, List.getElem_cons_zero]
        refine wpAnyH_take (i := 5) (v := ?_) rfl (by kernel_rfl) (by kernel_rfl) (by kernel_rfl) (fun _ _ _ h => h) (Or.inl ⟨by rfl, ?_⟩) hHeld ?_
        rotate_left
        · (intro w hSw; (try dsimp only at hSw); go_simp; try with_reducible rfl)
        try simp only [Act.put, List.setIfInBounds_toArray, List.set_cons_zero, List.set_cons_succ, List.getElem_toArray, List.getElem_cons_succ, List.getElem_cons_zero]
        refine wpAnyH_take (i := 6) (v := ?_) rfl (by kernel_rfl) (by kernel_rfl) (by kernel_rfl) (fun _ _ _ h => h) (Or.inl ⟨by rfl, ?_⟩) hHeld ?_
        rotate_left
        · (intro w hSw; (try dsimp only at hSw); go_simp; try with_reducible rfl)
        try simp only [Act.put, List.setIfInBounds_toArray, List.set_cons_zero, List.set_cons_succ, List.getElem_toArray, List.getElem_cons_succ, List.getElem_cons_zero]
        refine wpAnyH_take (i := 7) (v := ?_) rfl (by kernel_rfl) (by kernel_rfl) (by kernel_rfl) (fun _ _ _ h => h) (Or.inl ⟨by rfl, ?_⟩) hHeld ?_
        rotate_left
        · (intro w hSw; (try dsimp only at hSw); go_simp; try with_reducible rfl)
        try simp only [Act.put, List.setIfInBounds_toArray, List.set_cons_zero, List.set_cons_succ, List.getElem_toArray, List.getElem_cons_succ, List.getElem_cons_zero]
        refine wpAnyH_take (i := 8) (v := ?_) rfl (by kernel_rfl) (by kernel_rfl) (by kernel_rfl) (fun _ _ _ h => h) (Or.inl ⟨by rfl, ?_⟩) hHeld ?_
        rotate_left
        · (intro w hSw; (try dsimp only at hSw); go_simp; try with_reducible rfl)
        try simp only [Act.put, List.setIfInBounds_toArray, List.set_cons_zero, List.set_cons_succ, List.getElem_toArray, List.getElem_cons_succ, List.getElem_cons_zero]
        refine wpAnyH_take (i := 9) (v := ?_) rfl (by kernel_rfl) (by kernel_rfl) (by kernel_rfl) (fun _ _ _ h => h) (Or.inl ⟨by rfl, ?_⟩) hHeld ?_
        rotate_left
        · (intro w hSw; (try dsimp only at hSw); go_simp; try with_reducible rfl)
        try simp only [Act.put, List.setIfInBounds_toArray, List.set_cons_zero, List.set_cons_succ, List.getElem_toArray, List.getElem_cons_succ, List.getElem_cons_zero]
        refine wpAnyH_take (i := 10) (v := ?_) rfl (by kernel_rfl) (by kernel_rfl) (by kernel_rfl) (fun _ _ _ h => h) (Or.inl ⟨by rfl, ?_⟩) hHeld ?_
        rotate_left
        · (intro w hSw; (try dsimp only at hSw); go_simp; try with_reducible rfl)
        try simp only [Act.put, List.setIfInBounds_toArray, List.set_cons_zero, List.set_cons_succ, List.getElem_toArray, List.getElem_cons_succ, List.getElem_cons_zero]
        refine wpAnyH_take (i := 11) (v := ?_) rfl (by kernel_rfl) (by kernel_rfl) (by kernel_rfl) (fun _ _ _ h => h) (Or.inl ⟨by rfl, ?_⟩) hHeld ?_
        rotate_left
        · (intro w hSw; (try dsimp only at hSw); go_simp; try with_reducible rfl)
        try simp only [Act.put, List.setIfInBounds_toArray, List.set_cons_zero, List.set_cons_succ, List.getElem_toArray, List.getElem_cons_succ, List.getElem_cons_zero]
        refine wpAnyH_take (i := 12) (v := ?_) rfl (by kernel_rfl) (by kernel_rfl) (by kernel_rfl) (fun _ _ _ h => h) (Or.inl ⟨by rfl, ?_⟩) hHeld ?_
        rotate_left
        · (intro w hSw; (try dsimp only at hSw); go_simp; try with_reducible rfl)
        try simp only [Act.put, List.setIfInBounds_toArray, List.set_cons_zero, List.set_cons_succ, List.getElem_toArray, List.getElem_cons_succ, List.getElem_cons_zero]
        refine wpAnyH_take (i := 13) (v := ?_) rfl (by kernel_rfl) (by kernel_rfl) (by kernel_rfl) (fun _ _ _ h => h) (Or.inl ⟨by rfl, ?_⟩) hHeld ?_
        rotate_left
        · (intro w hSw; (try dsimp only at hSw); go_simp; try with_reducible rfl)
        try simp only [Act.put, List.setIfInBounds_toArray, List.set_cons_zero, List.set_cons_succ, List.getElem_toArray, List.getElem_cons_succ, List.getElem_cons_zero]
        refine wpAnyH_take (i := 14) (v := ?_) rfl (by kernel_rfl) (by kernel_rfl) (by kernel_rfl) (fun _ _ _ h => h) (Or.inl ⟨by rfl, ?_⟩) hHeld ?_
        rotate_left
        · (intro w hSw; (try dsimp only at hSw); go_simp; try with_reducible rfl)
        try simp only [Act.put, List.setIfInBounds_toArray, List.set_cons_zero, List.set_cons_succ, List.getElem_toArray, List.getElem_cons_succ, List.getElem_cons_zero]
        refine wpAnyH_ready (rs := [15]) (by kernel_rfl) (by decide) (AllReadyH.cons (o := _) rfl (fun K hK => ?_) AllReadyH.nil)
        go_simp
        go_at_call 79
        (with_reducible refine (K1.out _ (Below.refl _ _)).mono ?_); rintro e w8 ⟨rfl, hw8⟩
        refine hK.out _ _ (HC.out _ hw8) (fun hHeld2 => ?_)
        clear hK K hHeld
        have hHeld := hHeld2
        clear hHeld2
        try simp only [Act.put, List.setIfInBounds_toArray]
        refine wpAnyH_take (i := 16) (v := ?_) rfl (by kernel_rfl) (by kernel_rfl) (by kernel_rfl) (fun _ _ _ h => h) (Or.inl ⟨by rfl, ?_⟩) hHeld ?_
        rotate_left
        · (intro w hSw; (try dsimp only at hSw); go_simp; try with_reducible rfl)
        try simp only [Act.put, List.setIfInBounds_toArray, List.set_cons_zero, List.set_cons_succ, List.getElem_toArray, List.getElem_cons_succ, List.getElem_cons_zero]
        refine wpAnyH_take (i := 17) (v := ?_) rfl (by kernel_rfl) (by kernel_rfl) (by kernel_rfl) (fun _ _ _ h => h) (Or.inl ⟨by rfl, ?_⟩) hHeld ?_
        rotate_left
        · (intro w hSw; (try dsimp only at hSw); go_simp; try with_reducible rfl)
        try simp only [Act.put, List.setIfInBounds_toArray, List.set_cons_zero, List.set_cons_succ, List.getElem_toArray, List.getElem_cons_succ, List.getElem_cons_zero]
        refine wpAnyH_take (i := 18) (v := undef) rfl (by kernel_rfl) (by kernel_rfl) (by kernel_rfl) (fun _ _ _ h => h) (Or.inr ⟨by rfl, rfl⟩) hHeld ?_
        try simp only [Act.put, List.setIfInBounds_toArray, List.set_cons_zero, List.set_cons_succ, List.getElem_toArray, List.getElem_cons_succ, List.getElem_cons_zero]
        refine wpAnyH_take (i := 19) (v := undef) rfl (by kernel_rfl) (by kernel_rfl) (by kernel_rfl) (fun _ _ _ h => h) (Or.inr ⟨by rfl, rfl⟩) hHeld ?_
        try simp only [Act.put, List.setIfInBounds_toArray, List.set_cons_zero, List.set_cons_succ, List.getElem_toArray, List.getElem_cons_succ, List.getElem_cons_zero]
        refine wpAnyH_take (i := 20) (v := undef) rfl (by kernel_rfl) (by kernel_rfl) (by kernel_rfl) (fun _ _ _ h => h) (Or.inr ⟨by rfl, rfl⟩) hHeld ?_
        try simp only [Act.put, List.setIfInBounds_toArray, List.set_cons_zero, List.set_cons_succ, List.getElem_toArray, List.getElem_cons_succ, List.getElem_cons_zero]
        refine wpAnyH_take (i := 21) (v := undef) rfl (by kernel_rfl) (by kernel_rfl) (by kernel_rfl) (fun _ _ _ h => h) (Or.inr ⟨by rfl, rfl⟩) hHeld ?_
        try simp only [Act.put, List.setIfInBounds_toArray, List.set_cons_zero, List.set_cons_succ, List.getElem_toArray, List.getElem_cons_succ, List.getElem_cons_zero]
        refine wpAnyH_take (i := 22) (v := undef) rfl (by kernel_rfl) (by kernel_rfl) (by kernel_rfl) (fun _ _ _ h => h) (Or.inr ⟨by rfl, rfl⟩) hHeld ?_
        try simp only [Act.put, List.setIfInBounds_toArray, List.set_cons_zero, List.set_cons_succ, List.getElem_toArray, List.getElem_cons_succ, List.getElem_cons_zero]
        refine wpAnyH_take (i := 23) (v := undef) rfl (by kernel_rfl) (by kernel_rfl) (by kernel_rfl) (fun _ _ _ h => h) (Or.inr ⟨by rfl, rfl⟩) hHeld ?_
        try simp only [Act.put, List.setIfInBounds_toArray, List.set_cons_zero, List.set_cons_succ, List.getElem_toArray, List.getElem_cons_succ, List.getElem_cons_zero]
        refine wpAnyH_take (i := 24) (v := undef) rfl (by kernel_rfl) (by kernel_rfl) (by kernel_rfl) (fun _ _ _ h => h) (Or.inr ⟨by rfl, rfl⟩) hHeld ?_
        try simp only [Act.put, List.setIfInBounds_toArray, List.set_cons_zero, List.set_cons_succ, List.getElem_toArray, List.getElem_cons_succ, List.getElem_cons_zero]
        refine wpAnyH_take (i := 25) (v := undef) rfl (by kernel_rfl) (by kernel_rfl) (by kernel_rfl) (fun _ _ _ h => h) (Or.inr ⟨by rfl, rfl⟩) hHeld ?_
        try simp only [Act.put, List.setIfInBounds_toArray, List.set_cons_zero, List.set_cons_succ, List.getElem_toArray, List.getElem_cons_succ, List.getElem_cons_zero]
        refine wpAnyH_take (i := 26) (v := undef) rfl (by kernel_rfl) (by kernel_rfl) (by kernel_rfl) (fun _ _ _ h => h) (Or.inr ⟨by rfl, rfl⟩) hHeld ?_
        try simp only [Act.put, List.setIfInBounds_toArray, List.set_cons_zero, List.set_cons_succ, List.getElem_toArray, List.getElem_cons_succ, List.getElem_cons_zero]
        refine wpAnyH_take (i := 27) (v := ?_) rfl (by kernel_rfl) (by kernel_rfl) (by kernel_rfl) (fun _ _ _ h => h) (Or.inl ⟨by rfl, ?_⟩) hHeld ?_
        rotate_left
        · (intro w hSw; (try dsimp only at hSw); go_simp; try with_reducible rfl)
        try simp only [Act.put, List.setIfInBounds_toArray, List.set_cons_zero, List.set_cons_succ, List.getElem_toArray, List.getElem_cons_succ, List.getElem_cons_zero]
        refine wpAnyH_take (i := 28) (v := ?_) rfl (by kernel_rfl) (by kernel_rfl) (by kernel_rfl) (fun _ _ _ h => h) (Or.inl ⟨by rfl, ?_⟩) hHeld ?_
        rotate_left
        · (intro w hSw; (try dsimp only at hSw); go_simp; try with_reducible rfl)
        try simp only [Act.put, List.setIfInBounds_toArray, List.set_cons_zero, List.set_cons_succ, List.getElem_toArray, List.getElem_cons_succ, List.getElem_cons_zero]
        refine wpAnyH_done (by kernel_rfl) ?_ _
        go_wp2_with fail
        go_ret
        exact ⟨ret_bool HQ.out.symm, hb0.trans (hw8.mono hb0.size)⟩
      · have HQ : Hid (R = e2) := by simp only [Hid]; rw [HR.out]; simp
        go_wp2_with fail
        go_region_held3 (fun W => (W.cell? ⟨g, 0, none⟩ = some (.int .i64 x.start.a.base) ∧ W.cell? ⟨g, 1, none⟩ = some (.slice U1 x.start.a.digits.length u1) ∧ W.cell? ⟨g, 2, none⟩ = some (.int .i64 x.start.b.base) ∧ W.cell? ⟨g, 3, none⟩ = some (.slice U2 x.start.b.digits.length u2) ∧ W.cell? ⟨g, 4, none⟩ = some (.int .i64 x.start.s.base) ∧ W.cell? ⟨g, 5, none⟩ = some (.slice U3 x.start.s.digits.length u3) ∧ W.cell? ⟨g, 6, none⟩ = some (.int .i64 x.start.carry)) ∧ (W.cell? ⟨h, 0, none⟩ = some (.int .i64 y.start.a.base) ∧ W.cell? ⟨h, 1, none⟩ = some (.slice V1 y.start.a.digits.length v1) ∧ W.cell? ⟨h, 2, none⟩ = some (.int .i64 y.start.b.base) ∧ W.cell? ⟨h, 3, none⟩ = some (.slice V2 y.start.b.digits.length v2) ∧ W.cell? ⟨h, 4, none⟩ = some (.int .i64 y.start.s.base) ∧ W.cell? ⟨h, 5, none⟩ = some (.slice V3 y.start.s.digits.length v3) ∧ W.cell? ⟨h, 6, none⟩ = some (.int .i64 y.start.carry)) ∧ (W.cell? ⟨g, 7, none⟩ = some (.int .i64 x.m.a.base) ∧ W.cell? ⟨g, 8, none⟩ = some (.slice A1 x.m.a.digits.length c1) ∧ W.cell? ⟨g, 9, none⟩ = some (.int .i64 x.m.b.base) ∧ W.cell? ⟨g, 10, none⟩ = some (.slice A2 x.m.b.digits.length c2) ∧ W.cell? ⟨g, 11, none⟩ = some (.int .i64 x.m.s.base) ∧ W.cell? ⟨g, 12, none⟩ = some (.slice A3 x.m.s.digits.length c3) ∧ W.cell? ⟨g, 13, none⟩ = some (.int .i64 x.m.carry)) ∧ (W.cell? ⟨h, 7, none⟩ = some (.int .i64 y.m.a.base) ∧ W.cell? ⟨h, 8, none⟩ = some (.slice B1 y.m.a.digits.length d1) ∧ W.cell? ⟨h, 9, none⟩ = some (.int .i64 y.m.b.base) ∧ W.cell? ⟨h, 10, none⟩ = some (.slice B2 y.m.b.digits.length d2) ∧ W.cell? ⟨h, 11, none⟩ = some (.int .i64 y.m.s.base) ∧ W.cell? ⟨h, 12, none⟩ = some (.slice B3 y.m.s.digits.length d3) ∧ W.cell? ⟨h, 13, none⟩ = some (.int .i64 y.m.carry))) (first | with_reducible exact HG.out | exact HC.out _ hw8 | exact HC.out _ hw9) (first
          | (go_at_call 79; (with_reducible refine (K1.out _ (Below.refl _ _)).mono ?_); rintro e w8 ⟨rfl, hw8⟩; clear HG; have HG := Lib.hid (HC.out _ hw8))
          | (go_at_call 79; (with_reducible refine (K2.out _ hw8).mono ?_); rintro e w9 ⟨rfl, hw9⟩; have hw10 := hw8.trans (hw9.mono hw8.size); clear HG; have HG := Lib.hid (HC.out _ hw10)))
        all_goals
          go_wp2_with fail
          go_ret
          exact ⟨ret_bool HQ.out.symm, hb0.trans (hw10.mono hb0.size)⟩
set_option maxRecDepth 100000 in
set_option maxHeartbeats 6400000 in
theorem specSessionsAgree_any (AA : Option Addr) (an ac : Nat) (xs : List ByteArray) (AB : Option Addr) (bn bc' : Nat) (ys : List ByteArray) (w : World) (hr : RL StrM 1 w AA an xs) (hsz : ∀ s ∈ xs, s.size ≤ 1048576) (hr2 : RL StrM 1 w AB bn ys) (hsz2 : ∀ s ∈ ys, s.size ≤ 1048576) :
    Calls Tryz.prog 26 #[.slice AA an ac, .slice AB bn bc'] w fun e w' => e = .returned (.bool (saB (xs.map strB) (ys.map strB))) ∧ Below w.heap.size w w' := by
  have KA := (l24Ask_any AA an ac xs w hr hsz)
  have KB := (fun W (hW : Below w.heap.size w W) => l24Ask_any AB bn bc' ys W (hr2.below steady_StrM hW) hsz2)
  unfold WholeS at KA KB
  have HS := (show saB (xs.map strB) (ys.map strB) = (decide (wholeC (xs.map strB) = 0) && decide (wholeC (ys.map strB) = 0) && sameM (runS (xs.map strB)).1.start (runS (ys.map strB)).1.start && sameM (runS (xs.map strB)).1.m (runS (ys.map strB)).1.m) from rfl)
  have GA := (fun (h : wholeC (xs.map strB) = 0) => runS_good (wholeC_ok h).2)
  have GB := (fun (h : wholeC (ys.map strB) = 0) => runS_good (wholeC_ok h).2)
  obtain ⟨R, hR⟩ : ∃ R, saB (xs.map strB) (ys.map strB) = R := ⟨_, rfl⟩
  rw [hR] at HS ⊢
  obtain ⟨C, hC⟩ : ∃ C, wholeC (xs.map strB) = C := ⟨_, rfl⟩
  obtain ⟨D, hD⟩ : ∃ C, wholeC (ys.map strB) = C := ⟨_, rfl⟩
  obtain ⟨x, hx⟩ : ∃ s, (runS (xs.map strB)).1 = s := ⟨_, rfl⟩
  obtain ⟨y, hy⟩ : ∃ s, (runS (ys.map strB)).1 = s := ⟨_, rfl⟩
  rw [hC, hx] at KA HS
  rw [hC, hx] at GA
  rw [hD, hy] at KB HS
  rw [hD, hy] at GB
  replace KA := Lib.hid KA
  replace KB := Lib.hid KB
  replace HS := Lib.hid HS
  clear hR hC hD hx hy hr hsz hr2 hsz2
  rcases hc : (C == 0) with _ | _
  · have HC := Lib.hid (show C ≠ 0 by simpa using hc)
    have HQ : Hid (R = false) := by simp only [Hid]; rw [HS.out, decide_eq_false HC.out]; rfl
    have hc2 : decide (C = 0) = false := decide_eq_false HC.out
    go_enter Tryz.func26, Tryz.ntmps26
    go_wp2_with fail
    refine KA.out.mono ?_; rintro e w1 (⟨h0, -⟩ | ⟨-, g, rfl, hw⟩)
    · exact absurd h0 HC.out
    go_wp2_with fail
    refine (KB.out _ hw).mono ?_; rintro e w2 (⟨h0, g, rfl, hS⟩ | ⟨h0, g, rfl, hw2⟩)
    · have hb := hw.trans (hS.below.mono hw.size)
      go_wp2_with fail
      go_quiet (fail)
      go_wp2_with fail
      go_ret
      exact ⟨ret_bool HQ.out.symm, below_drewN hb _⟩
    · have hb := hw.trans (hw2.mono hw.size)
      go_wp2_with fail
      go_quiet (fail)
      go_wp2_with fail
      go_ret
      exact ⟨ret_bool HQ.out.symm, below_drewN hb _⟩
  · obtain rfl : C = 0 := by simpa using hc
    rcases hd : (D == 0) with _ | _
    · have HD := Lib.hid (show D ≠ 0 by simpa using hd)
      have HQ : Hid (R = false) := by simp only [Hid]; rw [HS.out, decide_eq_false HD.out]; simp
      have hd2 : decide (D = 0) = false := decide_eq_false HD.out
      go_enter Tryz.func26, Tryz.ntmps26
      go_wp2_with fail
      refine KA.out.mono ?_; rintro e w1 (⟨-, g, rfl, hS⟩ | ⟨h0, -⟩)
      rotate_left
      · exact absurd rfl h0
      have hw := hS.below
      go_wp2_with fail
      refine (KB.out _ hw).mono ?_; rintro e w2 (⟨h0, -⟩ | ⟨-, g2, rfl, hw2⟩)
      · exact absurd h0 HD.out
      have hb := hw.trans (hw2.mono hw.size)
      go_wp2_with fail
      go_quiet (fail)
      go_wp2_with fail
      go_ret
      exact ⟨ret_bool HQ.out.symm, below_drewN hb _⟩
    · obtain rfl : D = 0 := by simpa using hd
      have ga := GA rfl
      have gb := GB rfl
      go_enter Tryz.func26, Tryz.ntmps26
      go_wp2_with fail
      refine KA.out.mono ?_; rintro e w1 (⟨-, g, rfl, hS⟩ | ⟨h0, -⟩)
      rotate_left
      · exact absurd rfl h0
      have hw := hS.below
      go_wp2_with fail
      refine (KB.out _ hw).mono ?_; rintro e w2 (⟨-, h, rfl, hS2⟩ | ⟨h0, -⟩)
      rotate_left
      · exact absurd rfl h0
      obtain ⟨U1, u1, U2, u2, U3, u3, A1, c1, A2, c2, A3, c3, SA, sc, BA, bc, m, hK, hu⟩ := hS
      obtain ⟨V1, v1, V2, v2, V3, v3, B1, d1, B2, d2, B3, d3, SB, sd, BB, bd, m2, hK2, hu2⟩ := hS2
      have hK1 := (hK.keep hK2.below)
      have hL := (Kn.mono hK2 hw)
      have T1 := Lib.hid (fun (q : Nat) => TriC.tri (w := w2.drewN q) (b := g) (o := 0) (t := x.start) ⟨(two_cells (hK1.drewN q) (hL.drewN q)).1, hu.ri (hK1.drewN q) (fun e h => by simp [h])⟩)
      have T2 := Lib.hid (fun (q : Nat) => TriC.tri (w := w2.drewN q) (b := h) (o := 0) (t := y.start) ⟨(two_cells (hK1.drewN q) (hL.drewN q)).2.1, hu2.ri (hL.drewN q) (fun e h => by simp [h])⟩)
      have T3 := Lib.hid (fun (q : Nat) => TriC.tri (w := w2.drewN q) (b := g) (o := 7) (t := x.m) ⟨(two_cells (hK1.drewN q) (hL.drewN q)).2.2.1, ((hK1.drewN q).front 3 rfl).riv, ((hK1.drewN q).front 2 rfl).riv, ((hK1.drewN q).front 1 rfl).riv⟩)
      have T4 := Lib.hid (fun (q : Nat) => TriC.tri (w := w2.drewN q) (b := h) (o := 7) (t := y.m) ⟨(two_cells (hK1.drewN q) (hL.drewN q)).2.2.2, ((hL.drewN q).front 3 rfl).riv, ((hL.drewN q).front 2 rfl).riv, ((hL.drewN q).front 1 rfl).riv⟩)
      have K1 := (fun (q : Nat) => l10Same_any ⟨g, 0, none⟩ ⟨h, 0, none⟩ x.start y.start (w2.drewN q) (T1.out q) (T2.out q) (small_of ga.start) (small_of gb.start))
      have K2 := (fun (q : Nat) => l10Same_any ⟨g, 7, none⟩ ⟨h, 7, none⟩ x.m y.m (w2.drewN q) (T3.out q) (T4.out q) (small_of ga.m) (small_of gb.m))
      obtain ⟨e1, h1⟩ : ∃ b, sameM x.start y.start = b := ⟨_, rfl⟩
      obtain ⟨e2, h2⟩ : ∃ b, sameM x.m y.m = b := ⟨_, rfl⟩
      rw [h1] at K1
      rw [h2] at K2
      have HR := Lib.hid (show R = (e1 && e2) by rw [HS.out, h1, h2]; simp)
      replace K1 := Lib.hid K1
      replace K2 := Lib.hid K2
      have hb0 := hL.below
      clear h1 h2 ga gb hK1 hL hK hK2 hu hu2 hw
      rcases e1 with _ | _
      · have HQ : Hid (R = false) := by simp only [Hid]; rw [HR.out]; rfl
        go_wp2_with fail
        go_quiet ((go_at_call 78; first | (with_reducible exact quiet_of_ex (K1.out _)) | (with_reducible exact quiet_add_ex (K1.out _))))
        go_wp2_with fail
        go_ret
        exact ⟨ret_bool HQ.out.symm, below_drewN hb0 _⟩
      · have HQ : Hid (R = e2) := by simp only [Hid]; rw [HR.out]; simp
        go_wp2_with fail
        go_quiet ((go_at_call 78; first | (with_reducible exact quiet_of_ex (K1.out _)) | (with_reducible exact quiet_add_ex (K1.out _)) | (with_reducible exact quiet_of_ex (K2.out _)) | (with_reducible exact quiet_add_ex (K2.out _))))
        go_wp2_with fail
        go_ret
        exact ⟨ret_bool HQ.out.symm, below_drewN hb0 _⟩
end Go.Proofs.YtmmiahgmdllgdaaGreatDoor

namespace Go.Proofs.YtmmiahgmdllgdaaGreatDoor
open Go.RowKit Go.Sort
/-! shown and shortened sessions lead to the same machine, plainly -/
/-- does the bell ring at a line? -/
def rings (t : Tri) (b : List UInt8) : Bool := decide (kindOf b ≠ 0) && (strokeT (kindOf b) t).2
theorem lineS_belE {s : SS} {i : Int} {b : List UInt8} (h : s.ended = false) : (lineS s i b).1.bel = s.bel ++ (if rings s.m b then [i] else []) := by
  unfold lineS rings
  rw [if_neg (by rw [h]; decide)]
  by_cases hk : kindOf b = 0
  · rw [if_neg (show ¬ (kindOf b ≠ 0) from fun h => h hk), decide_eq_false (show ¬ (kindOf b ≠ 0) from fun h => h hk)]
    simp only [Bool.false_and, Bool.false_eq_true, if_false, List.append_nil]
    repeat' split
    all_goals rfl
  · rw [if_pos hk, decide_eq_true hk, Bool.true_and]
    show (if _ then _ else _ : List Int) = _
    split <;> simp
theorem rings_end (t : Tri) : rings t endB = false := by
  unfold rings
  rw [kind_end]; rfl
/-- the lines at which the bell rings -/
def belL (t : Tri) (i : Int) : List (List UInt8) → List Int
  | [] => []
  | b :: l => (if rings t b then [i] else []) ++ belL (stepM t b).1 (i + 1) l
def ringAt : Tri → List (List UInt8) → Nat → Bool
  | _, [], _ => false
  | t, b :: _, 0 => rings t b
  | t, b :: l, p + 1 => ringAt (stepM t b).1 l p
theorem belL_ge : ∀ (l : List (List UInt8)) (t : Tri) (i j : Int), j ∈ belL t i l → i ≤ j
  | [], _, _, _, h => by cases h
  | b :: l, t, i, j, h => by
    rcases List.mem_append.1 h with h | h
    · split at h
      · rw [List.mem_singleton.1 h]; exact Int.le_refl _
      · cases h
    · have := belL_ge l _ _ _ h; omega
theorem mem_belL : ∀ (l : List (List UInt8)) (t : Tri) (i : Int) (p : Nat), (i + (p : Int)) ∈ belL t i l ↔ ringAt t l p = true
  | [], t, i, p => by simp [belL, ringAt]
  | b :: l, t, i, 0 => by
    show _ ∈ (if rings t b then [i] else []) ++ belL (stepM t b).1 (i + 1) l ↔ rings t b = true
    rw [List.mem_append]
    constructor
    · rintro (h | h)
      · split at h
        · assumption
        · cases h
      · have := belL_ge l _ _ _ h; omega
    · intro h
      rw [if_pos h]
      left
      simp
  | b :: l, t, i, p + 1 => by
    show _ ∈ (if rings t b then [i] else []) ++ belL (stepM t b).1 (i + 1) l ↔ ringAt (stepM t b).1 l p = true
    rw [← mem_belL l (stepM t b).1 (i + 1) p, List.mem_append, show i + ((p + 1 : Nat) : Int) = i + 1 + (p : Int) by omega]
    constructor
    · rintro (h | h)
      · split at h
        · have := List.mem_singleton.1 h; omega
        · cases h
      · exact h
    · exact .inr
theorem foldT_append (t : Tri) (l m : List (List UInt8)) : foldT t (l ++ m) = foldT (foldT t l) m := by unfold foldT; rw [List.foldl_append]
theorem AllOk.append : ∀ {l m : List (List UInt8)} {t : Tri}, AllOk t (l ++ m) ↔ AllOk t l ∧ AllOk (foldT t l) m
  | [], m, t => by
    show AllOk t m ↔ True ∧ AllOk t m
    simp
  | b :: l, m, t => by
    show ((stepM t b).2 = 0 ∧ b ≠ endB ∧ AllOk (stepM t b).1 (l ++ m)) ↔ ((stepM t b).2 = 0 ∧ b ≠ endB ∧ AllOk (stepM t b).1 l) ∧ AllOk (foldT (stepM t b).1 l) m
    rw [AllOk.append]
    constructor
    · rintro ⟨h1, h2, h3, h4⟩; exact ⟨⟨h1, h2, h3⟩, h4⟩
    · rintro ⟨⟨h1, h2, h3⟩, h4⟩; exact ⟨h1, h2, h3, h4⟩
theorem ringAt_lt : ∀ {l m : List (List UInt8)} {t : Tri} {q : Nat}, q < l.length → ringAt t (l ++ m) q = ringAt t l q
  | [], _, _, _, h => by simp at h
  | b :: l, m, t, 0, _ => rfl
  | b :: l, m, t, q + 1, h => ringAt_lt (l := l) (by simpa using h)
theorem ringAt_at : ∀ {l m : List (List UInt8)} {b : List UInt8} {t : Tri}, ringAt t (l ++ b :: m) l.length = rings (foldT t l) b
  | [], _, _, _ => rfl
  | c :: l, m, b, t => ringAt_at (l := l) (t := (stepM t c).1)
/-- fine lines and the end behind them -/
theorem goS_make : ∀ {body : List (List UInt8)} {s : SS} {i : Int}, s.ended = false → AllOk s.m body → (goS s i (body ++ [endB])).2.2 = 0 ∧ (goS s i (body ++ [endB])).1.m = foldT s.m body ∧ (goS s i (body ++ [endB])).1.start = s.start ∧ (goS s i (body ++ [endB])).1.bel = s.bel ++ belL s.m i body
  | [], s, i, h, _ => by
    obtain ⟨e1, e2, e3, e4⟩ := lineS_step (i := i) (b := endB) h
    have e5 := lineS_belE (i := i) (b := endB) h
    have hs : stepM s.m endB = (s.m, 0) := by unfold stepM; rw [if_neg (fun h => h kind_end), if_pos rfl]
    rw [hs] at e1 e2
    rw [rings_end] at e5
    rw [List.nil_append, goS_cons, if_neg (fun h => h e2), goS_nil, e3, decide_eq_true rfl, if_pos rfl]
    exact ⟨rfl, e1, e4, by rw [e5]; rfl⟩
  | b :: body, s, i, h, hok => by
    obtain ⟨e1, e2, e3, e4⟩ := lineS_step (i := i) (b := b) h
    have e5 := lineS_belE (i := i) (b := b) h
    obtain ⟨h1, h2, h3⟩ := hok
    rw [List.cons_append, goS_cons, if_neg (fun h => h (e2.trans h1))]
    obtain ⟨f1, f2, f3, f4⟩ := goS_make (body := body) (s := (lineS s i b).1) (i := i + 1) (by rw [e3, decide_eq_false h2]) (by rw [e1]; exact h3)
    refine ⟨f1, by rw [f2, e1]; rfl, by rw [f3, e4], ?_⟩
    rw [f4, e5, e1, List.append_assoc]; rfl
theorem runS_make {b0 : List UInt8} {body : List (List UInt8)} (hs : startOk b0 = true) (hok : AllOk (rdMach (b0.drop 6)) body) :
    (runS (b0 :: (body ++ [endB]))).2.2 = 0 ∧ (runS (b0 :: (body ++ [endB]))).1.m = foldT (rdMach (b0.drop 6)) body ∧ (runS (b0 :: (body ++ [endB]))).1.start = rdMach (b0.drop 6) ∧ (runS (b0 :: (body ++ [endB]))).1.bel = belL (rdMach (b0.drop 6)) 1 body := by
  rw [runS_cons, if_pos hs]
  exact goS_make (s := ⟨rdMach (b0.drop 6), rdMach (b0.drop 6), [], [], false⟩) rfl hok
theorem whole_make {b0 : List UInt8} {body : List (List UInt8)} (hs : startOk b0 = true) (hok : AllOk (rdMach (b0.drop 6)) body) (hl : body.length + 2 ≤ 100) : wholeC (b0 :: (body ++ [endB])) = 0 := by
  unfold wholeC
  rw [if_neg (by simp; omega), if_pos (runS_make hs hok).1]
/-- two sessions of one start and one end -/
theorem saB_make {b0 : List UInt8} {l1 l2 : List (List UInt8)} (hs : startOk b0 = true) (h1 : AllOk (rdMach (b0.drop 6)) l1) (h2 : AllOk (rdMach (b0.drop 6)) l2) (n1 : l1.length + 2 ≤ 100) (n2 : l2.length + 2 ≤ 100) (hf : foldT (rdMach (b0.drop 6)) l1 = foldT (rdMach (b0.drop 6)) l2) :
    saB (b0 :: (l1 ++ [endB])) (b0 :: (l2 ++ [endB])) = true := by
  unfold saB
  obtain ⟨-, a2, a3, -⟩ := runS_make hs h1
  obtain ⟨-, c2, c3, -⟩ := runS_make hs h2
  rw [whole_make hs h1 n1, whole_make hs h2 n2, a2, a3, c2, c3, hf, sameM_refl, sameM_refl]
  rfl
theorem strB_endW : strB endW = endB := by decide
theorem map_endW (l : List ByteArray) : (l ++ [endW]).map strB = l.map strB ++ [endB] := by rw [List.map_append]; rfl
/-- what a valid session is made of -/
theorem whole_body {ss : List ByteArray} (h : wholeC (ss.map strB) = 0) : ∃ L body, ss = L :: (body ++ [endW]) ∧ body.length + 2 ≤ 100 ∧ startOk (strB L) = true ∧ vmach (rdMach ((strB L).drop 6)) = true ∧ AllOk (rdMach ((strB L).drop 6)) (body.map strB) := by
  obtain ⟨h1, L, tl, rfl, h3, h4, ⟨body, rfl, h5⟩, -⟩ := whole_lines h
  exact ⟨L, body, rfl, by simpa using h1, h3, h4, h5⟩
end Go.Proofs.YtmmiahgmdllgdaaGreatDoor

namespace Go.Proofs.YtmmiahgmdllgdaaGreatDoor
open Go.RowKit Go.Sort
/-! the shown session -/
theorem mtextL_pos {t : Tri} (h : vmach t = true) : 0 < (strB (mtextL t)).length := by
  rw [strB_mtextL h]
  simp only [List.length_append, List.length_cons]
  omega
theorem showT_eq {t : Tri} (h : vmach t = true) : strB (showT t) = showB ++ strB (mtextL t) := by
  have e : strB (showW ++ mtextL t) = strB showW ++ strB (mtextL t) := by unfold strB; simp
  unfold showT mtext
  rw [if_pos h, e]
  rfl
theorem showT_step {t : Tri} (h : vmach t = true) : stepM t (strB (showT t)) = (t, 0) ∧ strB (showT t) ≠ endB := by
  have hp := mtextL_pos h
  have hb : begins showB (strB (showT t)) = true := begins_iff.2 ⟨by rw [showT_eq h, List.length_append]; omega, by rw [showT_eq h, List.take_left]⟩
  have hk : kindOf (strB (showT t)) = 0 := by
    by_cases hk : kindOf (strB (showT t)) = 0
    · exact hk
    · have h1 := kindOf_name hk
      have h2 : (strB (showT t)).length ≤ 5 := by rw [← h1, strB_len]; exact sname_len _
      rw [showT_eq h, List.length_append] at h2
      change 5 + _ ≤ 5 at h2
      omega
  have hd : (strB (showT t)).drop 5 = strB (mtextL t) := by
    rw [showT_eq h]
    exact List.drop_left' rfl
  refine ⟨?_, begins_ne hb (by decide)⟩
  unfold stepM
  rw [if_neg (fun h => h hk), if_neg (begins_ne hb (by decide)), show_not_set hb, if_neg (by decide), if_pos hb, if_pos hd]
theorem stepM_ok {t : Tri} {b : List UInt8} (h : vmach t = true) : vmach (stepM t b).1 = true := foldT_ok (l := [b]) h
/-- what is shown is fine, and leads to the same machine -/
theorem rest_ok : ∀ {l : List ByteArray} {t : Tri}, vmach t = true → OkEnd t l → ∃ body, restL t l = body ++ [endW] ∧ AllOk t (body.map strB) ∧ foldT t (body.map strB) = foldT t (l.dropLast.map strB)
  | [], t, _, h => absurd rfl h.ne
  | [b], t, _, h => by
    have hb := h.last
    subst hb
    exact ⟨[], by unfold restL; rw [if_pos rfl]; rfl, trivial, rfl⟩
  | b :: c :: r, t, hv, h => by
    obtain ⟨h1, h2, h3⟩ := h.cons (by simp)
    obtain ⟨body, e1, e2, e3⟩ := rest_ok (stepM_ok hv) h3
    have e4 : (b :: c :: r).dropLast = b :: (c :: r).dropLast := rfl
    rcases hb : begins showB (strB b) with _ | _
    · refine ⟨b :: showT (stepM t (strB b)).1 :: body, ?_, ?_, ?_⟩
      · conv => lhs; unfold restL
        rw [if_neg (by simp), hb, if_neg (by decide), e1]; rfl
      · obtain ⟨s1, s2⟩ := showT_step (t := (stepM t (strB b)).1) (stepM_ok hv)
        refine ⟨h1, h2, by rw [s1], s2, ?_⟩
        rw [s1]; exact e2
      · obtain ⟨s1, s2⟩ := showT_step (t := (stepM t (strB b)).1) (stepM_ok hv)
        rw [e4]
        show foldT (stepM (stepM t (strB b)).1 (strB (showT (stepM t (strB b)).1))).1 (body.map strB) = foldT (stepM t (strB b)).1 ((c :: r).dropLast.map strB)
        rw [s1]
        exact e3
    · have ht := show_step hb h1
      rw [ht] at e1 e2 e3
      refine ⟨body, ?_, e2, ?_⟩
      · conv => lhs; unfold restL
        rw [if_neg (by simp), hb, if_pos rfl, e1]
      · rw [e4]
        show _ = foldT (stepM t (strB b)).1 ((c :: r).dropLast.map strB)
        rw [ht]
        exact e3
theorem shown_agree {ss : List ByteArray} (h : shC ss = 0) : saB (ss.map strB) ((shR ss).map strB) = true := by
  have hw : wholeC (ss.map strB) = 0 := by
    unfold shC at h
    split at h
    · assumption
    · exact h
  have hR : shR ss = shL ss := if_pos h
  have hl : ¬ (shL ss).length > 100 := by
    unfold shC at h
    rw [if_pos hw] at h
    split at h
    · cases h
    · assumption
  obtain ⟨L, body, rfl, n1, hs, hv, hok⟩ := whole_body hw
  obtain ⟨body', e1, e2, e3⟩ := rest_ok (l := body ++ [endW]) hv ⟨body, rfl, hok⟩
  rw [List.dropLast_concat] at e3
  have hS : shL (L :: (body ++ [endW])) = L :: (body' ++ [endW]) := by
    show L :: restL _ (body ++ [endW]) = _
    rw [e1]
  rw [hR, hS]
  rw [hS] at hl
  simp only [List.length_cons, List.length_append, List.length_nil] at hl
  rw [List.map_cons, List.map_cons, map_endW, map_endW]
  exact saB_make hs hok e2 (by rw [List.length_map]; exact n1) (by rw [List.length_map]; omega) e3.symm
/-! the short session -/
theorem start_kind {b : List UInt8} (h : startOk b = true) : kindOf b = 0 := by
  by_cases hk : kindOf b = 0
  · exact hk
  · have h1 := kindOf_name hk
    have h2 : b.length ≤ 5 := by rw [← h1, strB_len]; exact sname_len _
    unfold startOk at h
    rw [Bool.and_eq_true] at h
    have h3 := (begins_iff.1 h.1).1
    change 6 < b.length at h3
    omega
theorem undoB_start {a b : List UInt8} (h : kindOf a = 0) : undoB a b = false := by
  unfold undoB
  rw [h]
  rfl
theorem undoB_end (a : List UInt8) : undoB a endB = false := by
  unfold undoB
  rw [kind_end]
  by_cases h : 1 ≤ kindOf a ∧ kindOf a ≤ 4
  · have := backK_bd' h
    rw [beq_eq_false_iff_ne.2 (by omega), Bool.and_false]
  · rw [decide_eq_false h, Bool.false_and]
/-- does a kept line undo the one before it? -/
def pairU (bel : List Int) (x y : Kept) : Bool := undoB (strB x.text) (strB y.text) && !(decide ((x.at_ : Int) ∈ bel)) && !(decide ((y.at_ : Int) ∈ bel))
theorem lastUndo_nil2 (bel : List Int) (i : Nat) (L : ByteArray) : lastUndo bel [] i L = false := rfl
theorem lastUndo_app (bel : List Int) (K : List Kept) (x : Kept) (i : Nat) (L : ByteArray) : lastUndo bel (K ++ [x]) i L = pairU bel x ⟨i, L⟩ := by
  unfold lastUndo
  rw [List.getLast?_append, List.getLast?_singleton]
  rfl
def txt (K : List Kept) : List (List UInt8) := K.map fun x => strB x.text
theorem txt_app (K M : List Kept) : txt (K ++ M) = txt K ++ txt M := by unfold txt; rw [List.map_append]
theorem txt_len (K : List Kept) : (txt K).length = K.length := by unfold txt; rw [List.length_map]
/-- what has been kept of a session -/
structure KInv (t0 : Tri) (bel : List Int) (T : Tri) (K : List Kept) : Prop where
  ok : AllOk t0 (txt K)
  fold : foldT t0 (txt K) = T
  bell : ∀ q (h : q < K.length), ringAt t0 (txt K) q = decide ((K[q].at_ : Int) ∈ bel)
  red : ∀ q (h : q + 1 < K.length), pairU bel (K[q]'(by omega)) K[q + 1] = false
theorem KInv.pop {t0 : Tri} {bel : List Int} {T : Tri} {K : List Kept} {x : Kept} (h : KInv t0 bel T (K ++ [x])) : KInv t0 bel (foldT t0 (txt K)) K ∧ rings (foldT t0 (txt K)) (strB x.text) = decide ((x.at_ : Int) ∈ bel) ∧ T = (stepM (foldT t0 (txt K)) (strB x.text)).1 := by
  have h1 := h.ok
  have h2 := h.fold
  rw [txt_app] at h1 h2
  refine ⟨⟨(AllOk.append.1 h1).1, rfl, fun q hq => ?_, fun q hq => ?_⟩, ?_, ?_⟩
  · have := h.bell q (by rw [List.length_append]; omega)
    rw [txt_app, ringAt_lt (by rw [txt_len]; exact hq), List.getElem_append_left hq] at this
    exact this
  · have := h.red q (by rw [List.length_append]; omega)
    rw [List.getElem_append_left (by omega), List.getElem_append_left hq] at this
    exact this
  · have := h.bell K.length (by rw [List.length_append]; simp)
    rw [List.getElem_concat_length rfl, txt_app, ← txt_len K] at this
    exact (ringAt_at (m := [])).symm.trans this
  · rw [← h2, foldT_append]; rfl
theorem KInv.push {t0 : Tri} {bel : List Int} {T : Tri} {K : List Kept} {x : Kept} (h : KInv t0 bel T K) (h1 : (stepM T (strB x.text)).2 = 0) (h2 : strB x.text ≠ endB) (h3 : rings T (strB x.text) = decide ((x.at_ : Int) ∈ bel)) (h4 : ∀ K0 y, K = K0 ++ [y] → pairU bel y x = false) : KInv t0 bel (stepM T (strB x.text)).1 (K ++ [x]) := by
  have e : txt (K ++ [x]) = txt K ++ [strB x.text] := txt_app ..
  refine ⟨?_, ?_, fun q hq => ?_, fun q hq => ?_⟩
  · rw [e, AllOk.append, h.fold]
    exact ⟨h.ok, h1, h2, trivial⟩
  · rw [e, foldT_append, h.fold]; rfl
  · rw [e]
    rw [List.length_append] at hq
    simp only [List.length_cons, List.length_nil] at hq
    by_cases hl : q < K.length
    · rw [ringAt_lt (by rw [txt_len]; exact hl), List.getElem_append_left hl]
      exact h.bell q hl
    · obtain rfl : q = K.length := by omega
      rw [List.getElem_concat_length rfl, ← h3, ← h.fold]
      have := ringAt_at (l := txt K) (m := []) (b := strB x.text) (t := t0)
      rw [txt_len] at this
      exact this
  · rw [List.length_append] at hq
    simp only [List.length_cons, List.length_nil] at hq
    by_cases hl : q + 1 < K.length
    · rw [List.getElem_append_left (by omega), List.getElem_append_left hl]
      exact h.red q hl
    · have hq1 : q + 1 = K.length := by omega
      have hx : (K ++ [x])[q + 1]'(by simp; omega) = x := by
        rw [List.getElem_append_right (by omega)]; simp [hq1]
      rw [hx, List.getElem_append_left (by omega)]
      refine h4 (K.take q) K[q] ?_
      rw [List.take_append_getElem]
      rw [List.take_of_length_le (by omega)]
end Go.Proofs.YtmmiahgmdllgdaaGreatDoor
