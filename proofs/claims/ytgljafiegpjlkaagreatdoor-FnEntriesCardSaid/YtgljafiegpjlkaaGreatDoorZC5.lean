/- Part 5: lemmas and contracts of the claim's functions. -/
import Derived.Test.YtgljafiegpjlkaaGreatDoorZC1
import Derived.Test.YtgljafiegpjlkaaGreatDoorZC2
import Derived.Test.YtgljafiegpjlkaaGreatDoorZC3
import Derived.Test.YtgljafiegpjlkaaGreatDoorZC4
import Derived.Laws.AppendOwnNone
import Derived.Test.YtgljafiegpjlkaaGreatDoorShelf
import Derived.Shelf.SlSortFuncK.WholeK
import Derived.Shelf.GgSortFunc.Tiny
import Derived.Deep.RegionHeld3
import Derived.Deep.DeepCutAuto
namespace Go.Proofs.YtgljafiegpjlkaaGreatDoor
open Go.RowKit Go.Sort
/-- w with its first n blocks alone -/
def trunc (w : World) (n : Nat) : World := { w with heap := w.heap.extract 0 n }
theorem trunc_size {w : World} {n : Nat} (h : n ≤ w.heap.size) : (trunc w n).heap.size = n := by
  simp only [trunc, Array.size_extract]; omega
theorem trunc_get {w : World} {n k : Nat} (h : n ≤ w.heap.size) (hk : k < n) : (trunc w n).heap[k]? = w.heap[k]? := by
  simp only [trunc, Array.getElem?_extract, Nat.sub_zero, Nat.zero_add]
  rw [if_pos (by omega)]
theorem trunc_below {w : World} {n : Nat} (h : n ≤ w.heap.size) : Below (trunc w n).heap.size (trunc w n) w := by
  rw [trunc_size h]
  exact ⟨rfl, rfl, rfl, by rw [trunc_size h]; exact h, fun k hk => (trunc_get h hk).symm⟩
/-- v is w with block b turned -/
def Tw (b : Nat) (w v : World) : Prop := w.grownBy v (some b) ∧ v.heap.size = w.heap.size
theorem Tw.refl (b : Nat) (w : World) : Tw b w w := ⟨gRefl w _, rfl⟩
theorem Tw.of {b : Nat} {w w' : World} (h : w.grownBy w' (some b)) : Tw b w (trunc w' w.heap.size) :=
  ⟨⟨h.os, h.tape, h.output, by rw [trunc_size h.size]; exact Nat.le_refl _, fun k hk hne => (trunc_get h.size hk).trans (h.block k hk hne)⟩, trunc_size h.size⟩
theorem Src.trunc {b N : Nat} {w : World} {n : Nat} (h : Src w b N) (hb : b < n) (hn : n ≤ w.heap.size) : Src (trunc w n) b N := by
  obtain ⟨A, m, c, k, seed, bs, c0, c1, c2, f1, f2, hB, hkN, hm, hne, hlt⟩ := h
  have hbl : ∀ k, k ≤ b → (Go.Proofs.YtgljafiegpjlkaaGreatDoor.trunc w n).heap[k]? = w.heap[k]? := fun k hk => trunc_get hn (by omega)
  have hcell : ∀ o, (Go.Proofs.YtgljafiegpjlkaaGreatDoor.trunc w n).cell? ⟨b, o, none⟩ = w.cell? ⟨b, o, none⟩ := fun o => World.cell?_of_block (hbl b (Nat.le_refl _))
  have hfz : ∀ o, (Go.Proofs.YtgljafiegpjlkaaGreatDoor.trunc w n).frozen? ⟨b, o, none⟩ = w.frozen? ⟨b, o, none⟩ := fun o => World.frozen?_of_block (hbl b (Nat.le_refl _))
  refine ⟨A, m, c, k, seed, bs, by rw [hcell]; exact c0, by rw [hcell]; exact c1, by rw [hcell]; exact c2, by rw [hfz]; exact f1, by rw [hfz]; exact f2, ⟨hB.1, fun h0 => ?_⟩, hkN, hm, hne, by rw [trunc_size hn]; exact hb⟩
  obtain ⟨ad, e, hl, hc⟩ := hB.2 h0
  have hab := hne h0 ad e
  refine ⟨ad, e, by rw [trunc_size hn]; omega, fun j u hu => ?_⟩
  rw [World.cell?_of_block (w := w) (by rw [block_of_add]; exact hbl _ (by omega))]
  exact hc j u hu
/-- what a draw leaves: the source's block is turned, and the call owns the things of m -/
def DR (b N : Nat) (w : World) (m : List Ent) (w' : World) : Prop := ∃ v, Tw b w v ∧ Src v b N ∧ Kn v m w'
theorem DR.src {b N : Nat} {w : World} {m : List Ent} {w' : World} (h : DR b N w m w') : Src w' b N := by
  obtain ⟨v, -, hS, hK⟩ := h
  exact hS.below hK.below
theorem DR.of {b N : Nat} {w w' : World} (hs : Src w' b N) (hg : w.grownBy w' (some b)) (hb : b < w.heap.size) : DR b N w [] w' :=
  ⟨_, Tw.of hg, hs.trunc hb hg.size, (Kn.nil _).keep (trunc_below hg.size)⟩
theorem DR.nil {b N : Nat} {w : World} (hs : Src w b N) : DR b N w [] w := ⟨w, Tw.refl b w, hs, Kn.nil w⟩
theorem DR.mono {b N M : Nat} {w w' : World} {m : List Ent} (h : DR b N w m w') (hm : N ≤ M) : DR b M w m w' := by
  obtain ⟨v, hT, hS, hK⟩ := h
  exact ⟨v, hT, hS.mono hm, hK⟩
theorem DR.kn {b N : Nat} {w w' : World} {m m' : List Ent} (h : DR b N w m w') {w2 : World} (f : ∀ v, Kn v m w' → Kn v m' w2) : DR b N w m' w2 := by
  obtain ⟨v, hT, hS, hK⟩ := h
  exact ⟨v, hT, hS, f v hK⟩
theorem Kn.tw {b : Nat} {w v : World} {m : List Ent} {wi wi' : World} (hT : Tw b w v) (hK : Kn v m wi) (hb : b < w.heap.size) (hg : wi.grownBy wi' (some b)) : Tw b w (trunc wi' w.heap.size) ∧ Kn (trunc wi' w.heap.size) m wi' := by
  have hs : w.heap.size ≤ wi.heap.size := by have := hK.size; rw [hT.2] at this; exact this
  have hs' : w.heap.size ≤ wi'.heap.size := Nat.le_trans hs hg.size
  have hbw := hK.below
  refine ⟨⟨⟨hg.os.trans (hbw.os.trans hT.1.os), hg.tape.trans (hbw.tape.trans hT.1.tape), hg.output.trans (hbw.output.trans hT.1.output), by rw [trunc_size hs']; exact Nat.le_refl _, fun k hk hne => ?_⟩, trunc_size hs'⟩, trunc_below hs', fun e he => ?_, fun e he k hk => ?_, hK.apart⟩
  · rw [trunc_get hs' hk, hg.block k (by omega) hne, hbw.block k (by rw [hT.2]; exact hk)]
    exact hT.1.block k hk hne
  · refine Ent.stable (hK.ents e he) hg.size (fun k hk => hg.block k (Ent.lt (hK.ents e he) hk) (fun h2 => ?_))
    have h3 := hK.own e he k hk
    rw [hT.2] at h3
    injection h2 with h2
    omega
  · rw [trunc_size hs']
    have h3 := hK.own e he k hk
    rw [hT.2] at h3
    exact h3
theorem Tw.grown {b : Nat} {w v : World} (h : Tw b w v) : w.grownBy v (some b) := h.1
/-- one draw behind another -/
theorem DR.join {b N M : Nat} {w wi w' : World} {m m' : List Ent} (h : DR b N w m wi) (h1 : DR b M wi m' w') (hb : b < w.heap.size) : DR b M w (m' ++ m) w' := by
  obtain ⟨v, hT, hS, hK⟩ := h
  obtain ⟨v1, hT1, hS1, hK1⟩ := h1
  have hs : w.heap.size ≤ wi.heap.size := by have := hK.size; rw [hT.2] at this; exact this
  have hs1 : w.heap.size ≤ v1.heap.size := by rw [hT1.2]; exact hs
  obtain ⟨h2, h3⟩ := hK.tw hT hb hT1.1
  exact ⟨_, h2, hS1.trunc hb hs1, h3.join hK1⟩
/-- a source of the call's own -/
theorem Kn.ofDR {w w1 w2 : World} {b N : Nat} {m : List Ent} (hb : Below w.heap.size w w1) (hlo : w.heap.size ≤ b) (h : DR b N w1 m w2) : Kn w m w2 := by
  obtain ⟨v, hT, -, hK⟩ := h
  exact hK.mono (belowG hb hT.1 hlo hb.size)
theorem pick_dr (b N : Nat) (n : Int) (w : World) (h : Src w b N) (hN : N ≤ 999999) :
    Calls Tryz.prog 85 #[.pointer (some ⟨b, 0, none⟩), .int .i64 n] w fun e w' => ∃ x : Int, e = .returned (.int .i64 x) ∧ (0 ≤ x ∧ (x < n ∨ (n ≤ 1 ∧ x = 0))) ∧ DR b (N + 2) w [] w' := by
  refine (pick_any b N n w h hN).mono ?_
  rintro e w' ⟨x, rfl, h0, h1, hs, hg⟩
  exact ⟨x, rfl, ⟨h0, h1⟩, .of hs hg h.lt⟩
theorem one_dr (b N : Nat) (n : Int) (w : World) (h : Src w b N) (hN : N ≤ 999999) :
    Calls Tryz.prog 81 #[.pointer (some ⟨b, 0, none⟩), .int .i64 n] w fun e w' => ∃ x : Bool, e = .returned (.bool x) ∧ DR b (N + 2) w [] w' := by
  refine (one_any b N n w h hN).mono ?_
  rintro e w' ⟨x, rfl, hs, hg⟩
  exact ⟨x, rfl, .of hs hg h.lt⟩
theorem among_dr (b N : Nat) (A : Option Addr) (n c : Nat) (ds : List Int) (w : World) (h : Src w b N) (hN : N ≤ 999999) (hr : RI w A n ds) (hA : ∀ ad, A = some ad → ad.block ≠ b) (hn0 : 0 < n) (hn : n ≤ 1000000) :
    Calls Tryz.prog 129 #[.pointer (some ⟨b, 0, none⟩), .slice A n c] w fun e w' => ∃ x : Int, e = .returned (.int .i64 x) ∧ x ∈ ds ∧ DR b (N + 2) w [] w' := by
  refine (among_any b N A n c ds w h hN hr hA hn0 hn).mono ?_
  rintro e w' ⟨x, rfl, hx, hs, hg⟩
  exact ⟨x, rfl, hx, .of hs hg h.lt⟩
end Go.Proofs.YtgljafiegpjlkaaGreatDoor

namespace Go.Proofs.YtgljafiegpjlkaaGreatDoor
open Go.RowKit Go.Sort
section
variable {b N : Nat} {w wi : World} {m : List Ent}
theorem DR.al (h : DR b N w m wi) (l : List Value) (T : TypeId) : DR b N w (.blk wi.heap.size l T :: m) (wi.alloc (.cells l.toArray T)) := h.kn (fun _ hK => hK.al l T)
theorem DR.al_ (h : DR b N w m wi) (o : Obj) : DR b N w m (wi.alloc o) := h.kn (fun _ hK => hK.al_ o)
theorem DR.st {g : Nat} {l : List Value} {T : TypeId} (h : DR b N w (.blk g l T :: m) wi) (j : Nat) (v : Value) : DR b N w (.blk g (l.set j v) T :: m) (wi.setCell ⟨g, j, none⟩ v) := h.kn (fun _ hK => hK.st j v)
theorem DR.drew (h : DR b N w m wi) : DR b N w m wi.drew := h.kn (fun _ hK => hK.drew)
theorem DR.front (h : DR b N w m wi) (i : Nat) {e : Ent} (hi : m[i]? = some e) : DR b N w (e :: m.eraseIdx i) wi := h.kn (fun _ hK => hK.front i hi)
theorem DR.sel (h : DR b N w m wi) (is : List Nat) (n : Nat) (h1 : is.Nodup) (h2 : ∀ i ∈ is, i < n) : DR b N w (is.filterMap (fun i => m[i]?) ++ m.drop n) wi := h.kn (fun _ hK => hK.sel is n h1 h2)
theorem DR.cells (h : DR b N w m wi) : Cells m wi := by
  obtain ⟨v, -, -, hK⟩ := h
  exact hK.cells
theorem DR.lt (h : DR b N w m wi) : b < w.heap.size := by
  obtain ⟨v, hT, hS, -⟩ := h
  have := hS.lt
  rw [hT.2] at this
  exact this
theorem DR.add (h : DR b N w m wi) {M : Nat} {w' : World} {m' : List Ent} (h1 : DR b M wi m' w') : DR b M w (m' ++ m) w' := h.join h1 h.lt
theorem DR.keep (h : DR b N w m wi) {w' : World} (hb : Below wi.heap.size wi w') : DR b N w m w' := h.kn (fun _ hK => hK.keep hb)
theorem DR.box2 {g : Nat} {v0 v1 : Value} {T : TypeId} (h : DR b N w (.blk g [v0, v1] T :: m) wi) : wi.cell? ⟨g, 0, none⟩ = some v0 ∧ wi.cell? ⟨g, 1, none⟩ = some v1 := by
  obtain ⟨v, -, -, hK⟩ := h
  exact Go.Proofs.YtgljafiegpjlkaaGreatDoor.box2 hK
theorem Calls.dr {P : Program} {f : FuncId} {args : Array Value} {R : Ending → World → Prop} (h : DR b N w m wi) (k : ∀ W, DR b N w m W → Calls P f args W R) : Calls P f args wi R := k wi h
theorem Code.wp.dr {P : Program} {c : Code} {Q : Exit → Act → World → Prop} {a : Act} (h : DR b N w m wi) (k : ∀ W, DR b N w m W → c.wp P Q a W) : c.wp P Q a wi := k wi h
theorem bodyPost.dr {P : Program} {f : Func} {R : Ending → World → Prop} {x : Exit} {a : Act} (h : DR b N w m wi) (k : ∀ W, DR b N w m W → bodyPost P f R x a W) : bodyPost P f R x a wi := k wi h
end
theorem DR.lit {b N : Nat} {w wi : World} {m : List Ent} {g : Nat} {ds : List Int} (h : DR b N w (.blk g (ds.map (Value.int .i64)) 2 :: m) wi) (hd : ds.length ≤ 1000) :
    RI wi (some ⟨g, 0, none⟩) ds.length ds ∧ (∀ ad, some (⟨g, 0, none⟩ : Addr) = some ad → ad.block ≠ b) := by
  obtain ⟨v, -, hS, hK⟩ := h
  have hb := hS.lt
  have ho := hK.own _ (List.mem_cons_self ..) g rfl
  have hr : Kn v (rowI (some ⟨g, 0, none⟩) ds.length ds :: m) wi := hK.litRow (size := 1) (n := ds.length) (by simp) (by unfold maxLen; omega)
  refine ⟨Kn.riv hr, fun ad he => ?_⟩
  injection he with he
  subst he
  show g ≠ b
  omega
end Go.Proofs.YtgljafiegpjlkaaGreatDoor

namespace Go.Proofs.YtgljafiegpjlkaaGreatDoor
open Go.RowKit Go.Sort
theorem DR.bare {b N : Nat} {w wi : World} {m : List Ent} (h : DR b N w m wi) : DR b N w [] wi := h.kn (fun _ hK => hK.bare)
end Go.Proofs.YtgljafiegpjlkaaGreatDoor

namespace Go.Proofs.YtgljafiegpjlkaaGreatDoor
open Go.RowKit Go.Sort
/-- what the drawing of a string returns -/
def DStr (b M L : Nat) (w : World) (e : Ending) (w' : World) : Prop := ∃ s : ByteArray, e = .returned (.string s) ∧ s.size ≤ L ∧ DR b M w [] w'
set_option maxRecDepth 100000 in
set_option maxHeartbeats 800000 in
theorem text_dr {b N : Nat} {w0 w : World} {m : List Ent} {g : Nat} {T : TypeId} (ss : List ByteArray) (n : Nat) (hl : ss.length = n) (h : DR b N w0 (.blk g (ss.map Value.string) T :: m) w) (hN : N ≤ 900000) (h0 : 0 < n) :
    Calls Tryz.prog 89 #[.pointer (some ⟨b, 0, none⟩), .slice (some ⟨g, 0, none⟩) n n] w fun e w' => ∃ s : ByteArray, e = .returned (.string s) ∧ s ∈ ss ∧ DR b (N + 2) w0 (.blk g (ss.map Value.string) T :: m) w' := by
  have HL := Lib.hid hl
  clear hl
  go_enter Tryz.func89, Tryz.ntmps89
  go_wp2_with (go_at_call 85; refine (pick_dr b _ _ _ h.src (by omega)).mono ?_; rintro e w3 ⟨y, rfl, hy, hD⟩; have D3 : DR b _ w0 (.blk g (ss.map Value.string) T :: m) w3 := h.add hD; clear hD; obtain ⟨j, rfl⟩ : ∃ q : Nat, y = q := ⟨y.toNat, by omega⟩; have hj : j < n := (by omega); have hi0 : (0 : Int) ≤ (j : Int) := (by omega); have hi1 : (j : Int) < (n : Int) := (by omega); have hjl : j < ss.length := (by rw [HL.out]; exact hj); have hc : w3.cell? ⟨g, j, none⟩ = some (.string ss[j]) := (by obtain ⟨u, -, -, hK⟩ := D3; rw [hK.blkAt.1 j, List.getElem?_map, List.getElem?_eq_getElem hjl]; rfl))
  go_ret
  exact ⟨_, rfl, List.getElem_mem hjl, D3⟩
theorem ext_le (s : ByteArray) (i j : Nat) : (s.extract i j).size ≤ s.size := by rw [ByteArray.size_extract]; omega
set_option maxRecDepth 100000 in
set_option maxHeartbeats 1600000 in
theorem l01Spoil_dr (b N : Nat) (s : ByteArray) (w : World) (h : Src w b N) (hN : N ≤ 800000) (hs : s.size ≤ 20000) : Calls Tryz.prog 82 #[.pointer (some ⟨b, 0, none⟩), .string s] w (DStr b (N + 10) 20001 w) := by
  unfold DStr
  have D0 := DR.nil h
  clear h
  go_enter Tryz.func82, Tryz.ntmps82
  go_upto_region 2 with (go_at_call 85; refine (pick_dr b _ _ _ D0.src (by omega)).mono ?_; rintro e w1 ⟨x, rfl, hx, hD⟩; have D1 := D0.add hD; clear hD)
  by_cases x0 : x = 0
  · subst x0
    clear hx
    have w1' : IntKind.i64.wrap ((s.size : Int) + 1) = (s.size : Int) + 1 := wrapI (by omega)
    go_wp2_with (go_at_call 85; refine (pick_dr b _ _ _ D1.src (by omega)).mono ?_; rintro e w2 ⟨y, rfl, hy, hD⟩; have D2 := D1.add hD; clear hD; obtain ⟨j, rfl⟩ : ∃ q : Nat, y = q := ⟨y.toNat, by omega⟩; have hj : j ≤ s.size := (by omega); have hi0 : (0 : Int) ≤ (j : Int) := (by omega); have hi1 : (j : Int) ≤ (s.size : Int) := (by omega))
    have D3 := (D2.al [.string ⟨#[32]⟩, .string ⟨#[48]⟩, .string ⟨#[45]⟩, .string ⟨#[120]⟩, .string ⟨#[49]⟩, .string ⟨#[57]⟩, .string ⟨#[46]⟩] 9).drew
    go_region_held3 (fun _ => True) (first | trivial) (first
      | (go_at_call 89; go_loud (refine (text_dr [⟨#[32]⟩, ⟨#[48]⟩, ⟨#[45]⟩, ⟨#[120]⟩, ⟨#[49]⟩, ⟨#[57]⟩, ⟨#[46]⟩] 7 rfl D3 (by omega) (by omega)).mono ?_; rintro e w4 ⟨q, rfl, hq, D4⟩; have hqs : q.size = 1 := (by simp at hq; rcases hq with rfl | rfl | rfl | rfl | rfl | rfl | rfl <;> rfl); clear hq; have hc1 : ¬ 9223372036854775807 < min j s.size + 1 := (by omega); have hc2 : ¬ 9223372036854775807 < min j s.size + 1 + (s.size - j) := (by omega); have hc3 : ¬ 9223372036854775807 < j + 1 := (by omega); have hc4 : ¬ 9223372036854775807 < j + 1 + (s.size - j) := (by omega))))
    all_goals
      go_wp2_with fail
      go_ret
      exact ⟨_, rfl, by simp [ByteArray.size_append]; omega, D4.bare.mono (by omega)⟩
  by_cases x1 : x = 1
  · subst x1
    clear hx
    rcases he : s.toList.isEmpty with _ | _
    · have hpos : 0 < s.size := by
        rw [strB_toList] at he
        rw [← strB_len]
        rcases hl : strB s with _ | ⟨q, r⟩
        · rw [hl] at he; cases he
        · simp
      go_wp2_with (go_at_call 85; refine (pick_dr b _ _ _ D1.src (by omega)).mono ?_; rintro e w2 ⟨y, rfl, hy, hD⟩; have D2 := D1.add hD; clear hD; obtain ⟨j, rfl⟩ : ∃ q : Nat, y = q := ⟨y.toNat, by omega⟩; have hj : j < s.size := (by omega); have hi0 : (0 : Int) ≤ (j : Int) := (by omega); have hi1 : (j : Int) ≤ (s.size : Int) := (by omega); have hi2 : (j : Int) + 1 ≤ (s.size : Int) := (by omega); have hw : IntKind.i64.wrap ((j : Int) + 1) = (j : Int) + 1 := wrapI (by omega); have hi3 : (0 : Int) ≤ (j : Int) + 1 := (by omega); have hi4 : j + 1 ≤ s.size := (by omega); have hc1 : ¬ 9223372036854775807 < min j s.size + (s.size - (j + 1)) := (by omega); have hc2 : ¬ 9223372036854775807 < j + (s.size - (j + 1)) := (by omega))
      go_region_held3 (fun _ => True) (first | trivial) (first | fail)
      all_goals
        go_wp2_with fail
        go_ret
        exact ⟨_, rfl, by simp [ByteArray.size_append]; omega, D2.bare.drew.mono (by omega)⟩
    · go_wp2_with fail
      go_ret
      exact ⟨_, rfl, by omega, D1.bare.mono (by omega)⟩
  have z0 : (x == 0) = false := beq_eq_false_iff_ne.2 x0
  have z1 : (x == 1) = false := beq_eq_false_iff_ne.2 x1
  go_wp2_with fail
  go_ret
  exact ⟨_, rfl, by omega, D1.bare.mono (by omega)⟩
end Go.Proofs.YtgljafiegpjlkaaGreatDoor

namespace Go.Proofs.YtgljafiegpjlkaaGreatDoor
open Go.RowKit Go.Sort
/-- append of one string to a row that the call owns, in a region that draws -/
theorem kn_stepS {ops : Array Oper} {o : Oper} {a : Act} {Q : Exit → Act → World → Prop} {w0 w : World} {m : List Ent} {K : Act → World → Prop} {E : Prop} (hgd : o.guard = none) (s x : Operand) (ho : o.op = .call { callee := .builtin .append, args := #[s, x], argTypes := #[25, 25] })
    (v : Value) (ss : List ByteArray) (hs : a.eval s = v) {g c : Nat} {T' : TypeId} {z : ByteArray} (hx : a.eval x = .slice (some ⟨g, 0, none⟩) 1 c)
    (hK : Kn w0 (.blk g [.string z] T' :: rowS v ss :: m) w) (hl : ss.length ≤ 10000000)
    (h : ∀ v' w', Kn w0 (rowS v' (ss ++ [z]) :: m) w' → K (a.put o.dst v') w') : if Region.wanted o (yielded ops a.tmps) = true then Oper.wp Tryz.prog o a w K Q else E := by
  refine kn_step_app tpS hgd s x ho v ss.length (ss.map Value.string) hs hx hK rfl (by simp [Value.oneCell']) (by omega) (by omega) (fun v' w' hK' => h v' w' ?_)
  unfold rowS
  rw [List.length_append, List.map_append, List.map_cons, List.map_nil]
  exact hK'
end Go.Proofs.YtgljafiegpjlkaaGreatDoor

namespace Go.Proofs.YtgljafiegpjlkaaGreatDoor
open Go.RowKit Go.Sort
theorem Kn.prefixG {w0 w : World} {m : List Ent} {g c n j size : Nat} {e : TypeId} {xs : List Value} (h : Kn w0 (.row (.slice (some ⟨g, 0, none⟩) n c) e size n xs :: m) w) (hj : j ≤ n) : Kn w0 (.row (.slice (some ⟨g, 0, none⟩) j c) e size j (xs.take (j * size)) :: m) w := by
  have h0 : w.ownsRow 0 e size (.slice (some ⟨g, 0, none⟩) n c) n xs := h.at0
  have hm : j * size ≤ n * size := Nat.mul_le_mul_right _ hj
  refine ⟨h.below, fun x hx => ?_, fun x hx k hk => ?_, List.pairwise_cons.2 ⟨fun x hx k hk => ?_, (List.pairwise_cons.1 h.apart).2⟩⟩
  · rcases List.mem_cons.1 hx with rfl | hx
    · rcases h0.2 with ⟨hv, _⟩ | ⟨g', cap, cur, hv, hb, hg, h1, h2, h3, h4⟩
      · cases hv
      · injection hv with hv1 hv2 hv3
        injection hv1 with hv1
        injection hv1 with hv1
        subst hv1
        subst hv3
        refine ⟨by rw [List.length_take, h0.1]; omega, .inr ⟨g, c, cur, rfl, hb, hg, by omega, h2, h3, ?_⟩⟩
        rw [← h4, List.take_take, Nat.min_eq_left hm]
    · exact h.ents x (List.mem_cons_of_mem _ hx)
  · rcases List.mem_cons.1 hx with rfl | hx
    · exact h.own _ (List.mem_cons_self ..) k hk
    · exact h.own x (List.mem_cons_of_mem _ hx) k hk
  · exact (List.pairwise_cons.1 h.apart).1 x hx k hk
theorem Kn.capG {w0 w : World} {m : List Ent} {g c n : Nat} {xs : List Value} {e : TypeId} {s : Nat} (h : Kn w0 (.row (.slice (some ⟨g, 0, none⟩) n c) e s n xs :: m) w) : n ≤ c := by
  have h0 : w.ownsRow 0 e s (.slice (some ⟨g, 0, none⟩) n c) n xs := h.at0
  rcases h0.2 with ⟨hv, _⟩ | ⟨g', cap, cur, hv, -, -, h1, h2, -⟩
  · cases hv
  · injection hv with _ _ hv
    subst hv
    exact h1
theorem Kn.setS {w0 w : World} {m : List Ent} {g c : Nat} {ss : List ByteArray} (h : Kn w0 (rowS (.slice (some ⟨g, 0, none⟩) ss.length c) ss :: m) w) (j : Nat) (s : ByteArray) :
    Kn w0 (rowS (.slice (some ⟨g, 0, none⟩) ss.length c) (ss.set j s) :: m) (w.setCell ⟨g, j, none⟩ (.string s)) := by
  have h1 := Kn.rowSt h j (.string s)
  unfold rowS
  rw [List.length_set, List.map_set]
  exact h1
theorem Kn.takeS {w0 w : World} {m : List Ent} {g c j : Nat} {ss : List ByteArray} (h : Kn w0 (rowS (.slice (some ⟨g, 0, none⟩) ss.length c) ss :: m) w) (hj : j ≤ ss.length) :
    Kn w0 (rowS (.slice (some ⟨g, 0, none⟩) j c) (ss.take j) :: m) w := by
  have h1 := Kn.prefixG h hj
  unfold rowS
  rw [List.length_take, Nat.min_eq_left hj, List.map_take]
  rw [Nat.mul_one] at h1
  exact h1
end Go.Proofs.YtgljafiegpjlkaaGreatDoor

namespace Go.Proofs.YtgljafiegpjlkaaGreatDoor
open Go.RowKit Go.Sort
/-! the draws of catalogues -/
def L9 : List ByteArray := [⟨#[97]⟩, ⟨#[98]⟩, ⟨#[99]⟩, ⟨#[100]⟩, ⟨#[101]⟩, ⟨#[102]⟩, ⟨#[103]⟩, ⟨#[104]⟩, ⟨#[105]⟩]
theorem L9_le : ∀ s ∈ L9, s.size ≤ 12 := by decide
def wordsL : List ByteArray := [(⟨#[98, 114, 97, 115, 115]⟩ : ByteArray), ⟨#[99, 114, 97, 110, 107]⟩, ⟨#[103, 101, 114, 109, 97, 110]⟩, ⟨#[107, 101, 121, 115]⟩, ⟨#[112, 97, 112, 101, 114]⟩, ⟨#[119, 104, 101, 101, 108, 115]⟩, ⟨#[119, 111, 111, 100]⟩]
theorem wordsL_le : ∀ s ∈ wordsL, s.size ≤ 12 := by decide
theorem l25Words_any (w : World) : Calls Tryz.prog 90 #[] w fun e w' => e = .returned (.slice (some ⟨w.heap.size, 0, none⟩) 7 7) ∧ Kn w [.blk w.heap.size (wordsL.map Value.string) 9] w' := by
  have K1 := (Kn.nil w).al (wordsL.map Value.string) 9
  go_enter Tryz.func90, Tryz.ntmps90
  go_wp2_with fail
  go_ret
  exact ⟨rfl, K1⟩
/-- what a drawn entry is like -/
structure NewOk (t : Etr) : Prop where
  n0 : 0 ≤ t.num
  n1 : t.num ≤ 1000001
  y0 : 0 ≤ t.year
  y1 : t.year ≤ 3001
  nm : t.name.size ≤ 12
  mkr : t.maker.size ≤ 12
  wl : t.words.length ≤ 9
  ws : ∀ s ∈ t.words, s.size ≤ 12
def DEnt (b M : Nat) (w : World) (e : Ending) (w' : World) : Prop := ∃ (t : Etr) (X : Option Addr) (x : Nat), e = .returned (.agg #[.int .i64 t.num, .string t.name, .string t.maker, .int .i64 t.year, .slice X t.words.length x]) ∧ NewOk t ∧ DR b M w [rowSN X t.words.length x t.words] w'
theorem size3 {ss : List ByteArray} {s : ByteArray} (h : s ∈ ss) (h2 : ∀ s ∈ ss, s.size ≤ 12) : s.size ≤ 12 := h2 s h
theorem box5x {w0 w : World} {m : List Ent} {g : Nat} {v0 v1 v2 v3 v4 : Value} {T : TypeId} (h : Kn w0 (.blk g [v0, v1, v2, v3, v4] T :: m) w) :
    w.cell? ⟨g, 0, none⟩ = some v0 ∧ w.cell? ⟨g, 1, none⟩ = some v1 ∧ w.cell? ⟨g, 2, none⟩ = some v2 ∧ w.cell? ⟨g, 3, none⟩ = some v3 ∧ w.cell? ⟨g, 4, none⟩ = some v4 :=
  ⟨h.blkAt.1 0, h.blkAt.1 1, h.blkAt.1 2, h.blkAt.1 3, h.blkAt.1 4⟩
set_option maxRecDepth 100000 in
set_option maxHeartbeats 6400000 in
theorem l25New_dr (b N : Nat) (w : World) (h : Src w b N) (hN : N ≤ 600000) : Calls Tryz.prog 61 #[.pointer (some ⟨b, 0, none⟩)] w (DEnt b (N + 60) w) := by
  unfold DEnt
  have D0 := (DR.nil h).al [.int .i64 0, .string ⟨#[]⟩, .string ⟨#[]⟩, .int .i64 0, .slice none 0 0] 27
  obtain ⟨g2, hg2⟩ : ∃ g, w.heap.size = g := ⟨_, rfl⟩
  rw [hg2] at D0
  clear h
  go_enter Tryz.func61, Tryz.ntmps61
  go_upto_region 1 with fail
  try rw [hg2]
  refine Code.wp.dr D0 ?_; clear D0 hg2; intro w1 D1
  go_upto_region 2 with (first
    | (with_reducible refine (pick_dr b _ 12 _ D1.src (by omega)).mono ?_; rintro e w2 ⟨x, rfl, hx, hD⟩; have D2 := (D1.add hD).al ([(⟨#[97, 98, 97, 99, 117, 115]⟩ : ByteArray), ⟨#[101, 110, 103, 105, 110, 101]⟩, ⟨#[97, 114, 105, 116, 104]⟩].map Value.string) 9; clear hD D1; have wx : wrap64 (1 + x) = 1 + x := wrap64_of (by omega))
    | (go_at_call 89; first | (refine (text_dr [(⟨#[97, 98, 97, 99, 117, 115]⟩ : ByteArray), ⟨#[101, 110, 103, 105, 110, 101]⟩, ⟨#[97, 114, 105, 116, 104]⟩] 3 rfl D2 (by omega) (by omega)).mono ?_; rintro e w3 ⟨nm, rfl, hnm, D3⟩; have D4 := (D3.sel [1] 2 (by decide) (by decide)).al ([(⟨#[111, 116, 105, 115]⟩ : ByteArray), ⟨#[116, 104, 111, 109, 97, 115]⟩, ⟨#[111, 100, 104, 110, 101, 114]⟩].map Value.string) 9; clear D2 D3) | (refine (text_dr [(⟨#[111, 116, 105, 115]⟩ : ByteArray), ⟨#[116, 104, 111, 109, 97, 115]⟩, ⟨#[111, 100, 104, 110, 101, 114]⟩] 3 rfl D4 (by omega) (by omega)).mono ?_; rintro e w5 ⟨mk, rfl, hmk, D5⟩; clear D4))
    | (with_reducible refine (pick_dr b _ 8 _ D5.src (by omega)).mono ?_; rintro e w6 ⟨y, rfl, hy, hD⟩; have D6 := (D5.add hD).sel [1] 2 (by decide) (by decide); clear hD D5))
  obtain ⟨n1, hn1⟩ : ∃ q, 1 + x = q := ⟨_, rfl⟩
  obtain ⟨yr, hyr⟩ : ∃ q, 1800 + y * 10 = q := ⟨_, rfl⟩
  try rw [hn1, hyr]
  try simp only [hn1, hyr]
  have hn2 : 0 ≤ n1 ∧ n1 ≤ 1000001 := by omega
  have hy2 : 0 ≤ yr ∧ yr ≤ 3001 := by omega
  have hnm2 : nm.size ≤ 12 := by
    have H : ∀ s ∈ ([(⟨#[97, 98, 97, 99, 117, 115]⟩ : ByteArray), ⟨#[101, 110, 103, 105, 110, 101]⟩, ⟨#[97, 114, 105, 116, 104]⟩] : List ByteArray), s.size ≤ 12 := by decide
    exact H _ hnm
  have hmk2 : mk.size ≤ 12 := by
    have H : ∀ s ∈ ([(⟨#[111, 116, 105, 115]⟩ : ByteArray), ⟨#[116, 104, 111, 109, 97, 115]⟩, ⟨#[111, 100, 104, 110, 101, 114]⟩] : List ByteArray), s.size ≤ 12 := by decide
    exact H _ hmk
  clear hn1 hyr hx hy wx hnm hmk
  obtain ⟨gx, hgx⟩ : ∃ g, w6.heap.size = g := ⟨_, rfl⟩
  have D7 := D6.al [.int .i64 n1, .string nm, .string mk, .int .i64 yr, .slice none 0 0] 27
  rw [hgx] at D7
  try rw [hgx]
  refine Code.wp.dr D7 ?_; clear D6 D7 hgx; intro w7 D7
  go_upto_region 3 with ((refine (l25Words_any _).mono ?_); rintro e w8 ⟨rfl, hK⟩; have D8 := (D7.kn (fun v h => (h.join hK).nilRow 9 1)).sel [2, 0, 1, 3] 99 (by decide) (by decide); clear hK D7)
  obtain ⟨gw, hgw⟩ : ∃ g, w7.heap.size = g := ⟨_, rfl⟩
  rw [hgw] at D8
  try rw [hgw]
  clear hgw
  go_wp2_with fail
  go_loopw [5] (fun kk wr => ∃ (k : Nat) (X : Option Addr) (x : Nat) (ws : List ByteArray), k ≤ 7 ∧ kk = .int .i64 (k : Int) ∧ Hid (ws.length ≤ k ∧ ∀ s ∈ ws, s.size ≤ 12) ∧ DR b (N + 20 + 3 * k) w [.blk gx [.int .i64 n1, .string nm, .string mk, .int .i64 yr, .slice X ws.length x] 27, rowSN X ws.length x ws, .blk gw (wordsL.map Value.string) 9, .blk g2 [.int .i64 0, .string ⟨#[]⟩, .string ⟨#[]⟩, .int .i64 0, .slice none 0 0] 27] wr) (fun kk _ => 7 - (intOf kk).toNat)
  case atStart => exact ⟨0, none, 0, [], Nat.zero_le _, rfl, Lib.hid ⟨Nat.le_refl _, fun s h => (by cases h)⟩, (D8.sel [0, 1, 2, 3] 99 (by decide) (by decide)).mono (by omega)⟩
  case round =>
    clear D8
    obtain ⟨k, X, x, ws, hk, rfl, HWS, D⟩ := hrel
    by_cases hk7 : k < 7
    · have i0 : (0 : Int) ≤ (k : Int) := by omega
      have i1 : (k : Int) < 7 := by omega
      go_wp2_with fail
      refine (one_dr b _ 3 _ D.src (by omega)).mono ?_; rintro e w9 ⟨yes, rfl, hD⟩
      have D9 := D.add hD
      clear D hD
      rcases yes with _ | _
      · go_wp2_with fail
        go_roundw
        case rel => exact ⟨k + 1, X, x, ws, by omega, by go_num, Lib.hid ⟨by have := HWS.out.1; omega, HWS.out.2⟩, D9.mono (by omega)⟩
        case measure => simp only [intOf]; omega
      · obtain ⟨u, tw, hs, hK⟩ := D9
        have HTW := Lib.hid (And.intro tw hs)
        clear tw hs
        have hwl : k < wordsL.length := hk7
        obtain ⟨z, hz⟩ : ∃ z, wordsL[k] = z := ⟨_, rfl⟩
        have hzs : z.size ≤ 12 := by rw [← hz]; exact wordsL_le _ (List.getElem_mem hwl)
        have hwk : w9.cell? ⟨gw, k, none⟩ = some (.string z) := by
          rw [(hK.front 2 rfl).blkAt.1 k, List.getElem?_map, List.getElem?_eq_getElem hwl, hz]; rfl
        have hl10 : ws.length ≤ 10000000 := by have := HWS.out.1; omega
        obtain ⟨ws', hws'⟩ : ∃ l, ws ++ [z] = l := ⟨_, rfl⟩
        have HWZ := Lib.hid hws'
        have HWS2 : Hid (ws'.length ≤ k + 1 ∧ ∀ s ∈ ws', s.size ≤ 12) := by
          simp only [Hid]
          rw [← hws']
          have h1 := HWS.out
          refine ⟨by rw [List.length_append]; simp; omega, fun s hs => ?_⟩
          rcases List.mem_append.1 hs with h | h
          · exact h1.2 s h
          · rw [List.mem_singleton.1 h]; exact hzs
        clear hws' hzs
        have hA : Kn u (.blk w9.heap.size [.string z] 9 :: rowS (.slice X ws.length x) ws :: .blk gx [.int .i64 n1, .string nm, .string mk, .int .i64 yr, .slice X ws.length x] 27 :: _) _ := ((hK.sel [1, 0, 2, 3] 99 (by decide) (by decide)).al [.string z] 9).drew
        obtain ⟨b1, b2, b3, -⟩ := hK.cells
        clear hz hwl
        go_wp2_with fail
        go_region_law (refine kn_stepS (by rfl) _ _ (by rfl) (.slice X ws.length x) ws (by rfl) (by rfl) hA hl10 ?_; intro v5 w6 hK9; rw [HWZ.out] at hK9; obtain ⟨A5, c5, rfl⟩ := row_form hK9.at0; clear b1 b2 b3 hwk; obtain ⟨x1, x2, x3, a1, a2, a3, -⟩ := hK9.cells)
        all_goals
          have hKb := (hK9.front 1 rfl).st 4 (.slice A5 ws'.length c5)
          go_wp2_with fail
          go_roundw
          case rel => exact ⟨k + 1, A5, c5, ws', by omega, by go_num, HWS2, DR.mono ⟨u, HTW.out.1, HTW.out.2, hKb.sel [0, 1, 2, 3] 99 (by decide) (by decide)⟩ (by omega)⟩
          case measure => simp only [intOf]; omega
    · obtain rfl : k = 7 := by omega
      go_wp2_with fail
      refine (pick_dr b _ 24 _ D.src (by omega)).mono ?_; rintro e w9 ⟨q, rfl, hq, hD⟩
      have D9 := D.add hD
      clear D hD hq
      have hwl := HWS.out.1
      by_cases q0 : q = 0
      · subst q0
        go_wp2_with fail
        have D10 := D9.al [.int .i64 0, .int .i64 1, .int .i64 1000000, .int .i64 1000001] 2
        obtain ⟨gi, hgi⟩ : ∃ g, w9.heap.size = g := ⟨_, rfl⟩
        rw [hgi] at D10
        try rw [hgi]
        refine Calls.dr D10 ?_; clear D9 D10 hgi; intro w10 D10
        obtain ⟨hr, hA⟩ := DR.lit (ds := [0, 1, 1000000, 1000001]) D10 (by decide)
        refine (among_dr b _ _ 4 4 _ w10 D10.src (by omega) hr hA (by omega) (by omega)).mono ?_; rintro e w11 ⟨n2, rfl, hn2', h9⟩
        have hn3 : 0 ≤ n2 ∧ n2 ≤ 1000001 := by
          have H : ∀ x ∈ [(0 : Int), 1, 1000000, 1000001], 0 ≤ x ∧ x ≤ 1000001 := by decide
          exact H n2 hn2'
        obtain ⟨u, tw, hs, hK0⟩ := (D10.add h9).sel [1, 2, 3, 4] 99 (by decide) (by decide)
        clear D10 h9 hr hA hn2'
        obtain ⟨a1, a2, a3, -⟩ := hK0.cells
        go_upto_region 20 with fail
        have hK := hK0.st 0 (.int .i64 n2)
        clear a1 a2 a3
        refine Code.wp.kn (w0 := u) (m := [.blk gx [.int .i64 n2, .string nm, .string mk, .int .i64 yr, .slice X (ws).length x] 27, rowSN X (ws).length x ws, .blk g2 [.int .i64 0, .string ⟨#[]⟩, .string ⟨#[]⟩, .int .i64 0, .slice none 0 0] 27]) (hK.sel [0, 1, 3] 99 (by decide) (by decide)) ?_; clear hK hK0; intro w20 hK
        obtain ⟨a1, a2, a3, -⟩ := hK.cells
        obtain ⟨d1, d2, d3, -⟩ := (hK.front 2 rfl).cells
        go_wp2_with fail
        refine bodyPost.kn (((((hK.front 2 rfl).st 0 (.int .i64 n2)).st 1 (.string nm)).st 2 (.string mk)).st 3 (.int .i64 yr) |>.st 4 (.slice X (ws).length x)) ?_; intro w21 K21
        clear a1 a2 a3 d1 d2 d3
        obtain ⟨a1, a2, a3, -⟩ := K21.cells
        exact bodyPost_ret (v := .agg #[.int .i64 n2, .string nm, .string mk, .int .i64 yr, .slice X (ws).length x]) (by simp [results, Tryz.results61, go_sem, a1]) rfl ⟨⟨n2, nm, mk, yr, ws⟩, X, x, rfl, ⟨hn3.1, hn3.2, hy2.1, hy2.2, hnm2, hmk2, by simp only; omega, HWS.out.2⟩, DR.mono ⟨u, tw, hs, K21.sel [2] 99 (by decide) (by decide)⟩ (by omega)⟩
      have z0 : (q == 0) = false := beq_eq_false_iff_ne.2 q0
      by_cases q1 : q = 1
      · subst q1
        go_wp2_with fail
        have D10 := D9.al [.int .i64 999, .int .i64 1000, .int .i64 3000, .int .i64 3001] 2
        obtain ⟨gi, hgi⟩ : ∃ g, w9.heap.size = g := ⟨_, rfl⟩
        rw [hgi] at D10
        try rw [hgi]
        refine Calls.dr D10 ?_; clear D9 D10 hgi; intro w10 D10
        obtain ⟨hr, hA⟩ := DR.lit (ds := [999, 1000, 3000, 3001]) D10 (by decide)
        refine (among_dr b _ _ 4 4 _ w10 D10.src (by omega) hr hA (by omega) (by omega)).mono ?_; rintro e w11 ⟨n2, rfl, hn2', h9⟩
        have hn3 : 0 ≤ n2 ∧ n2 ≤ 3001 := by
          have H : ∀ x ∈ [(999 : Int), 1000, 3000, 3001], 0 ≤ x ∧ x ≤ 3001 := by decide
          exact H n2 hn2'
        obtain ⟨u, tw, hs, hK0⟩ := (D10.add h9).sel [1, 2, 3, 4] 99 (by decide) (by decide)
        clear D10 h9 hr hA hn2'
        obtain ⟨a1, a2, a3, -⟩ := hK0.cells
        go_upto_region 20 with fail
        have hK := hK0.st 3 (.int .i64 n2)
        clear a1 a2 a3
        refine Code.wp.kn (w0 := u) (m := [.blk gx [.int .i64 n1, .string nm, .string mk, .int .i64 n2, .slice X (ws).length x] 27, rowSN X (ws).length x ws, .blk g2 [.int .i64 0, .string ⟨#[]⟩, .string ⟨#[]⟩, .int .i64 0, .slice none 0 0] 27]) (hK.sel [0, 1, 3] 99 (by decide) (by decide)) ?_; clear hK hK0; intro w20 hK
        obtain ⟨a1, a2, a3, -⟩ := hK.cells
        obtain ⟨d1, d2, d3, -⟩ := (hK.front 2 rfl).cells
        go_wp2_with fail
        refine bodyPost.kn (((((hK.front 2 rfl).st 0 (.int .i64 n1)).st 1 (.string nm)).st 2 (.string mk)).st 3 (.int .i64 n2) |>.st 4 (.slice X (ws).length x)) ?_; intro w21 K21
        clear a1 a2 a3 d1 d2 d3
        obtain ⟨a1, a2, a3, -⟩ := K21.cells
        exact bodyPost_ret (v := .agg #[.int .i64 n1, .string nm, .string mk, .int .i64 n2, .slice X (ws).length x]) (by simp [results, Tryz.results61, go_sem, a1]) rfl ⟨⟨n1, nm, mk, n2, ws⟩, X, x, rfl, ⟨hn2.1, hn2.2, hn3.1, hn3.2, hnm2, hmk2, by simp only; omega, HWS.out.2⟩, DR.mono ⟨u, tw, hs, K21.sel [2] 99 (by decide) (by decide)⟩ (by omega)⟩
      have z1 : (q == 1) = false := beq_eq_false_iff_ne.2 q1
      by_cases q2 : q = 2
      · subst q2
        obtain ⟨a1, a2, a3, -⟩ := D9.cells
        go_upto_region 15 with fail
        have D10 := (D9.st 4 (.slice (some ⟨w9.heap.size, 0, none⟩) 9 9)).al (L9.map Value.string) 9
        simp only [World.size_setCell] at D10
        obtain ⟨g9, hg9⟩ : ∃ g, w9.heap.size = g := ⟨_, rfl⟩
        rw [hg9] at D10
        try rw [hg9]
        try simp only [hg9]
        refine Code.wp.dr D10 ?_; clear D9 D10 hg9 a1 a2 a3; intro w10 D10'
        have D10 := (D10'.kn (fun v h => h.litRow (size := 1) (n := 9) rfl (by decide))).sel [1, 0, 3, 4] 99 (by decide) (by decide)
        clear D10'
        obtain ⟨a1, a2, a3, -⟩ := D10.drew.cells
        go_region_law (go_simp; go_at_call 85; refine (pick_dr b _ 2 _ D10.drew.src (by omega)).mono ?_; rintro e w11 ⟨p, rfl, hp, hD⟩; have D11 := D10.drew.add hD; clear a1 a2 a3 hD; obtain ⟨a1, a2, a3, -⟩ := D11.cells; obtain ⟨pn, rfl⟩ : ∃ q : Nat, p = q := ⟨p.toNat, by omega⟩; obtain ⟨j, hj⟩ : ∃ j : Nat, j = 8 + pn := ⟨_, rfl⟩; have hj9 : j ≤ 9 := (by omega); have hjw : IntKind.i64.wrap (8 + (pn : Int)) = (j : Int) := (by rw [wrapI (by omega)]; omega); have hp2 : (0 : Int) ≤ (j : Int) := (by omega); have hp3 : (j : Int) ≤ 9 := (by omega); clear hj hp)
        all_goals
          obtain ⟨u, tw, hs, hK0⟩ := D11
          have hK1 := ((hK0.st 4 (.slice (some ⟨g9, 0, none⟩) j 9)).front 1 rfl).prefixG hj9
          rw [Nat.mul_one, ← List.map_take] at hK1
          obtain ⟨ws', hws'⟩ : ∃ l, L9.take j = l := ⟨_, rfl⟩
          have hl : j = ws'.length := by rw [← hws', List.length_take]; exact (Nat.min_eq_left hj9).symm
          have hsz : ∀ s ∈ ws', s.size ≤ 12 := fun s hs => L9_le s (by rw [← hws'] at hs; exact List.mem_of_mem_take hs)
          rw [hws'] at hK1
          clear hws'
          subst hl
          have hK := hK1.sel [1, 0, 2, 3] 99 (by decide) (by decide)
          clear hK1 a1 a2 a3 hjw hp2 hp3
          go_upto_region 20 with fail
          refine Code.wp.kn (w0 := u) (m := [.blk gx [.int .i64 n1, .string nm, .string mk, .int .i64 yr, .slice (some ⟨g9, 0, none⟩) (ws').length 9] 27, rowSN (some ⟨g9, 0, none⟩) (ws').length 9 ws', .blk g2 [.int .i64 0, .string ⟨#[]⟩, .string ⟨#[]⟩, .int .i64 0, .slice none 0 0] 27]) (hK.sel [0, 1, 3] 99 (by decide) (by decide)) ?_; clear hK hK0; intro w20 hK
          obtain ⟨a1, a2, a3, -⟩ := hK.cells
          obtain ⟨d1, d2, d3, -⟩ := (hK.front 2 rfl).cells
          go_wp2_with fail
          refine bodyPost.kn (((((hK.front 2 rfl).st 0 (.int .i64 n1)).st 1 (.string nm)).st 2 (.string mk)).st 3 (.int .i64 yr) |>.st 4 (.slice (some ⟨g9, 0, none⟩) (ws').length 9)) ?_; intro w21 K21
          clear a1 a2 a3 d1 d2 d3
          obtain ⟨a1, a2, a3, -⟩ := K21.cells
          exact bodyPost_ret (v := .agg #[.int .i64 n1, .string nm, .string mk, .int .i64 yr, .slice (some ⟨g9, 0, none⟩) (ws').length 9]) (by simp [results, Tryz.results61, go_sem, a1]) rfl ⟨⟨n1, nm, mk, yr, ws'⟩, (some ⟨g9, 0, none⟩), 9, rfl, ⟨hn2.1, hn2.2, hy2.1, hy2.2, hnm2, hmk2, hj9, hsz⟩, DR.mono ⟨u, tw, hs, K21.sel [2] 99 (by decide) (by decide)⟩ (by omega)⟩
      have z2 : (q == 2) = false := beq_eq_false_iff_ne.2 q2
      by_cases q3 : q = 3
      · subst q3
        obtain ⟨u, tw, hs, hK0⟩ := D9
        obtain ⟨a1, a2, a3, -⟩ := hK0.cells
        have hL := (hK0.sel [1, 0, 2, 3] 99 (by decide) (by decide)).al [.string ⟨#[97]⟩, .string ⟨#[87, 111, 111, 100]⟩] 9
        obtain ⟨ws', hws'⟩ : ∃ l, ws ++ [(⟨#[97]⟩ : ByteArray), ⟨#[87, 111, 111, 100]⟩] = l := ⟨_, rfl⟩
        have HWZ := Lib.hid hws'
        have HW2 : Hid (ws'.length ≤ 9 ∧ ∀ s ∈ ws', s.size ≤ 12) := by
          simp only [Hid]
          rw [← hws']
          refine ⟨by rw [List.length_append]; simp; omega, fun s hs => ?_⟩
          rcases List.mem_append.1 hs with h | h
          · exact HWS.out.2 s h
          · have H : ∀ s ∈ [(⟨#[97]⟩ : ByteArray), ⟨#[87, 111, 111, 100]⟩], s.size ≤ 12 := by decide
            exact H s h
        clear hws'
        go_upto_region 20 with (at_builtin; refine kn_app tpS rfl _ _ rfl _ ws.length (ws.map Value.string) rfl rfl hL rfl (by simp [Value.oneCell']) (by omega) (by omega) ?_; intro v5 w10 hK5; have hK6 : Kn u (rowS v5 ws' :: _) w10 := (by rw [← HWZ.out]; unfold rowS; rw [List.length_append, List.map_append]; exact hK5); clear hK5; obtain ⟨A5, c5, rfl⟩ := row_form hK6.at0; clear a1 a2 a3; obtain ⟨x1, x2, x3, a1, a2, a3, -⟩ := hK6.cells)
        have hK := (hK6.front 1 rfl).st 4 (.slice A5 ws'.length c5)
        clear x1 x2 x3 a1 a2 a3
        refine Code.wp.kn (w0 := u) (m := [.blk gx [.int .i64 n1, .string nm, .string mk, .int .i64 yr, .slice A5 (ws').length c5] 27, rowSN A5 (ws').length c5 ws', .blk g2 [.int .i64 0, .string ⟨#[]⟩, .string ⟨#[]⟩, .int .i64 0, .slice none 0 0] 27]) (hK.sel [0, 1, 3] 99 (by decide) (by decide)) ?_; clear hK hK0; intro w20 hK
        obtain ⟨a1, a2, a3, -⟩ := hK.cells
        obtain ⟨d1, d2, d3, -⟩ := (hK.front 2 rfl).cells
        go_wp2_with fail
        refine bodyPost.kn (((((hK.front 2 rfl).st 0 (.int .i64 n1)).st 1 (.string nm)).st 2 (.string mk)).st 3 (.int .i64 yr) |>.st 4 (.slice A5 (ws').length c5)) ?_; intro w21 K21
        clear a1 a2 a3 d1 d2 d3
        obtain ⟨a1, a2, a3, -⟩ := K21.cells
        exact bodyPost_ret (v := .agg #[.int .i64 n1, .string nm, .string mk, .int .i64 yr, .slice A5 (ws').length c5]) (by simp [results, Tryz.results61, go_sem, a1]) rfl ⟨⟨n1, nm, mk, yr, ws'⟩, A5, c5, rfl, ⟨hn2.1, hn2.2, hy2.1, hy2.2, hnm2, hmk2, HW2.out.1, HW2.out.2⟩, DR.mono ⟨u, tw, hs, K21.sel [2] 99 (by decide) (by decide)⟩ (by omega)⟩
      have z3 : (q == 3) = false := beq_eq_false_iff_ne.2 q3
      by_cases q4 : q = 4
      · subst q4
        obtain ⟨u, tw, hs, hK0⟩ := D9
        obtain ⟨a1, a2, a3, -⟩ := hK0.cells
        go_upto_region 20 with fail
        have hK := hK0.st 2 (.string ⟨#[]⟩)
        clear a1 a2 a3
        refine Code.wp.kn (w0 := u) (m := [.blk gx [.int .i64 n1, .string nm, .string ⟨#[]⟩, .int .i64 yr, .slice X (ws).length x] 27, rowSN X (ws).length x ws, .blk g2 [.int .i64 0, .string ⟨#[]⟩, .string ⟨#[]⟩, .int .i64 0, .slice none 0 0] 27]) (hK.sel [0, 1, 3] 99 (by decide) (by decide)) ?_; clear hK hK0; intro w20 hK
        obtain ⟨a1, a2, a3, -⟩ := hK.cells
        obtain ⟨d1, d2, d3, -⟩ := (hK.front 2 rfl).cells
        go_wp2_with fail
        refine bodyPost.kn (((((hK.front 2 rfl).st 0 (.int .i64 n1)).st 1 (.string nm)).st 2 (.string ⟨#[]⟩)).st 3 (.int .i64 yr) |>.st 4 (.slice X (ws).length x)) ?_; intro w21 K21
        clear a1 a2 a3 d1 d2 d3
        obtain ⟨a1, a2, a3, -⟩ := K21.cells
        exact bodyPost_ret (v := .agg #[.int .i64 n1, .string nm, .string ⟨#[]⟩, .int .i64 yr, .slice X (ws).length x]) (by simp [results, Tryz.results61, go_sem, a1]) rfl ⟨⟨n1, nm, ⟨#[]⟩, yr, ws⟩, X, x, rfl, ⟨hn2.1, hn2.2, hy2.1, hy2.2, hnm2, Nat.zero_le _, by simp only; omega, HWS.out.2⟩, DR.mono ⟨u, tw, hs, K21.sel [2] 99 (by decide) (by decide)⟩ (by omega)⟩
      have z4 : (q == 4) = false := beq_eq_false_iff_ne.2 q4
      obtain ⟨u, tw, hs, hK0⟩ := D9
      obtain ⟨a1, a2, a3, -⟩ := hK0.cells
      go_upto_region 20 with fail
      have hK := hK0
      clear a1 a2 a3
      refine Code.wp.kn (w0 := u) (m := [.blk gx [.int .i64 n1, .string nm, .string mk, .int .i64 yr, .slice X (ws).length x] 27, rowSN X (ws).length x ws, .blk g2 [.int .i64 0, .string ⟨#[]⟩, .string ⟨#[]⟩, .int .i64 0, .slice none 0 0] 27]) (hK.sel [0, 1, 3] 99 (by decide) (by decide)) ?_; clear hK hK0; intro w20 hK
      obtain ⟨a1, a2, a3, -⟩ := hK.cells
      obtain ⟨d1, d2, d3, -⟩ := (hK.front 2 rfl).cells
      go_wp2_with fail
      refine bodyPost.kn (((((hK.front 2 rfl).st 0 (.int .i64 n1)).st 1 (.string nm)).st 2 (.string mk)).st 3 (.int .i64 yr) |>.st 4 (.slice X (ws).length x)) ?_; intro w21 K21
      clear a1 a2 a3 d1 d2 d3
      obtain ⟨a1, a2, a3, -⟩ := K21.cells
      exact bodyPost_ret (v := .agg #[.int .i64 n1, .string nm, .string mk, .int .i64 yr, .slice X (ws).length x]) (by simp [results, Tryz.results61, go_sem, a1]) rfl ⟨⟨n1, nm, mk, yr, ws⟩, X, x, rfl, ⟨hn2.1, hn2.2, hy2.1, hy2.2, hnm2, hmk2, by simp only; omega, HWS.out.2⟩, DR.mono ⟨u, tw, hs, K21.sel [2] 99 (by decide) (by decide)⟩ (by omega)⟩
end Go.Proofs.YtgljafiegpjlkaaGreatDoor

namespace Go.Proofs.YtgljafiegpjlkaaGreatDoor
open Go.RowKit Go.Sort
/-! the entry with a number -/
def idxF : List Etr → Int → Int → Int
  | [], _, _ => -1
  | x :: l, num, i => if x.num = num then i else idxF l num (i + 1)
def idxE (L : List Etr) (num : Int) : Int := idxF L num 0
theorem idxF_drop {L : List Etr} {k : Nat} (h : k < L.length) (num i : Int) : idxF (L.drop k) num i = if L[k].num = num then i else idxF (L.drop (k + 1)) num (i + 1) := by
  rw [← List.getElem_cons_drop h]; rfl
theorem idxF_end (L : List Etr) (num i : Int) : idxF (L.drop L.length) num i = -1 := by rw [List.drop_length]; rfl
set_option maxHeartbeats 1600000 in
theorem entryAt_any (A : Option Addr) (n c : Nat) (L : List Etr) (num : Int) (w : World) (hr : RL EtrM 5 w A n L) (hn : n ≤ 9223372036854775807) :
    Calls Tryz.prog 63 #[.slice A n c, .int .i64 num] w fun e w' => e = .returned (.int .i64 (idxE L num)) ∧ Below w.heap.size w w' := by
  have HL := Lib.hid hr.1
  have HR := Lib.hid (fun W (hW : Below w.heap.size w W) => hr.below steady_EtrM hW)
  obtain ⟨R, hR⟩ : ∃ R, idxE L num = R := ⟨_, rfl⟩
  have HE := Lib.hid (show R = idxF (L.drop 0) num ((0 : Nat) : Int) by rw [← hR]; rfl)
  rw [hR]
  clear hR hr
  go_enter Tryz.func63, Tryz.ntmps63
  go_wp2_with fail
  go_loopw [9] (fun ii wr => ∃ k : Nat, k ≤ n ∧ ii = .int .i64 k ∧ Hid (R = idxF (L.drop k) num (k : Int)) ∧ Below w.heap.size w wr) (fun ii _ => n - (intOf ii).toNat)
  case atStart => exact ⟨0, Nat.zero_le _, rfl, HE, Below.refl _ _⟩
  case round =>
    obtain ⟨k, hk, rfl, HA, hbw⟩ := hrel
    by_cases hkn : k < n
    · obtain ⟨ad, hA, hlt, hkl, hx⟩ := (HR.out _ hbw).at_ hkn
      have hdr := idxF_drop hkl num (k : Int)
      obtain ⟨x, hxe⟩ : ∃ x, L[k] = x := ⟨_, rfl⟩
      rw [hxe] at hx hdr
      obtain ⟨XA, xc, -, ⟨c0, c1, c2, c3, c4⟩, -⟩ := hx
      have HD := Lib.hid (HA.out.trans hdr)
      obtain ⟨xn, hxn⟩ : ∃ v, x.num = v := ⟨_, rfl⟩
      rw [hxn] at HD c0
      have i0 : (0 : Int) ≤ (k : Int) := by omega
      have i1 : (k : Int) < (n : Int) := by omega
      subst hA
      clear hxe hdr hxn
      by_cases he : xn = num
      · have HQ := Lib.hid (show R = (k : Int) by rw [HD.out, if_pos he])
        subst he
        go_wp2_with fail
        go_ret
        exact ⟨ret_int HQ.out.symm, by first | exact hbw | exact hbw.alloc hbw.size _⟩
      · have HQ := Lib.hid (show R = idxF (L.drop (k + 1)) num ((k + 1 : Nat) : Int) by rw [HD.out, if_neg he]; rfl)
        have hb1 : (xn == num) = false := by simpa using he
        go_wp2_with fail
        go_roundw
        case rel => exact ⟨k + 1, by omega, by go_num, HQ, by first | exact hbw | exact hbw.alloc hbw.size _⟩
        case measure => simp [intOf] <;> omega
    · have i1 : ¬ (k : Int) < (n : Int) := by omega
      obtain rfl : n = k := by omega
      have HQ := Lib.hid (show R = -1 by rw [HA.out, ← HL.out]; exact idxF_end L num _)
      go_wp2_with fail
      go_ret
      exact ⟨ret_int HQ.out.symm, hbw⟩
set_option maxHeartbeats 1600000 in
theorem l25Find_any (A : Option Addr) (n c : Nat) (L : List Etr) (num : Int) (w : World) (hr : RL EtrM 5 w A n L) (hn : n ≤ 9223372036854775807) :
    Calls Tryz.prog 70 #[.slice A n c, .int .i64 num] w fun e w' => e = .returned (.int .i64 (idxE L num)) ∧ Below w.heap.size w w' := by
  have HL := Lib.hid hr.1
  have HR := Lib.hid (fun W (hW : Below w.heap.size w W) => hr.below steady_EtrM hW)
  obtain ⟨R, hR⟩ : ∃ R, idxE L num = R := ⟨_, rfl⟩
  have HE := Lib.hid (show R = idxF (L.drop 0) num ((0 : Nat) : Int) by rw [← hR]; rfl)
  rw [hR]
  clear hR hr
  go_enter Tryz.func70, Tryz.ntmps70
  go_wp2_with fail
  go_loopw [5] (fun ii wr => ∃ k : Nat, k ≤ n ∧ ii = .int .i64 k ∧ Hid (R = idxF (L.drop k) num (k : Int)) ∧ Below w.heap.size w wr) (fun ii _ => n - (intOf ii).toNat)
  case atStart => exact ⟨0, Nat.zero_le _, rfl, HE, Below.refl _ _⟩
  case round =>
    obtain ⟨k, hk, rfl, HA, hbw⟩ := hrel
    by_cases hkn : k < n
    · obtain ⟨ad, hA, hlt, hkl, hx⟩ := (HR.out _ hbw).at_ hkn
      have hdr := idxF_drop hkl num (k : Int)
      obtain ⟨x, hxe⟩ : ∃ x, L[k] = x := ⟨_, rfl⟩
      rw [hxe] at hx hdr
      obtain ⟨XA, xc, -, ⟨c0, c1, c2, c3, c4⟩, -⟩ := hx
      have HD := Lib.hid (HA.out.trans hdr)
      obtain ⟨xn, hxn⟩ : ∃ v, x.num = v := ⟨_, rfl⟩
      rw [hxn] at HD c0
      have i0 : (0 : Int) ≤ (k : Int) := by omega
      have i1 : (k : Int) < (n : Int) := by omega
      subst hA
      clear hxe hdr hxn
      by_cases he : xn = num
      · have HQ := Lib.hid (show R = (k : Int) by rw [HD.out, if_pos he])
        subst he
        go_wp2_with fail
        go_ret
        exact ⟨ret_int HQ.out.symm, by first | exact hbw | exact hbw.alloc hbw.size _⟩
      · have HQ := Lib.hid (show R = idxF (L.drop (k + 1)) num ((k + 1 : Nat) : Int) by rw [HD.out, if_neg he]; rfl)
        have hb1 : (xn == num) = false := by simpa using he
        go_wp2_with fail
        go_roundw
        case rel => exact ⟨k + 1, by omega, by go_num, HQ, by first | exact hbw | exact hbw.alloc hbw.size _⟩
        case measure => simp [intOf] <;> omega
    · have i1 : ¬ (k : Int) < (n : Int) := by omega
      obtain rfl : n = k := by omega
      have HQ := Lib.hid (show R = -1 by rw [HA.out, ← HL.out]; exact idxF_end L num _)
      go_wp2_with fail
      go_ret
      exact ⟨ret_int HQ.out.symm, hbw⟩
/-! an entry of its own -/
section
variable {ops : Array Oper} {rest : List Oper} {o : Oper} {a : Act} {Q : Exit → Act → World → Prop} {w0 w : World} {m : List Ent}
/-- append(s, x..) of strings, x a row that is only read, nil too -/
theorem kn_appRS (hgd : o.guard = none) (s x : Operand) (ho : o.op = .call { callee := .builtin .append, args := #[s, x], argTypes := #[25, 25] })
    (v : Value) (xs : List ByteArray) (hs : a.eval s = v) {A : Option Addr} {n c : Nat} {ss : List ByteArray} (hx : a.eval x = .slice A n c) (hr : RL StrM 1 w A n ss) (hn : A = none → c = 0)
    (hK : Kn w0 (rowS v xs :: m) w) (hl : xs.length + n ≤ 10000000)
    (h : ∀ v' w', Kn w0 (rowS v' (xs ++ ss) :: m) w' → wpList Tryz.prog ops Q rest (a.put o.dst v') w') : wpList Tryz.prog ops Q (o :: rest) a w := by
  rcases A with _ | ad
  · obtain rfl : n = 0 := by
      rcases Nat.eq_zero_or_pos n with h0 | h0
      · exact h0
      · obtain ⟨ad, e, -⟩ := hr.2 h0
        cases e
    obtain rfl := hn rfl
    obtain rfl : ss = [] := List.length_eq_zero_iff.1 hr.1
    obtain ⟨i0, hi, hz0, hz1, hz2⟩ := info_parts tpS.info
    refine wpList_append_own_none hgd s x 25 ho 0 9 i0 1 tpS.under hi v xs.length (xs.map Value.string) hs hK.at0 hx ?_
    refine h v w ?_
    rw [List.append_nil]
    exact hK
  · have hl1 := hr.1
    refine kn_appC tpS hgd s x ho v xs.length (xs.map Value.string) hs (ad := ad) (c := c) (k := n) (l := ss.map Value.string) hx (fun j u hu => ?_) hK (by rw [List.length_map, hl1, Nat.mul_one]) (by simp [Value.oneCell']) (by omega) (by omega) (fun v' w' hK' => h v' w' ?_)
    · rw [List.getElem?_map] at hu
      obtain ⟨y, hy, rfl⟩ := Option.map_eq_some_iff.1 hu
      have hj : j < ss.length := (List.getElem?_eq_some_iff.1 hy).1
      obtain ⟨ad', e, -, hkl, hc⟩ := hr.at_ (show j < n by omega)
      injection e with e
      subst e
      unfold StrM at hc
      rw [Nat.mul_one] at hc
      rw [hc]
      congr 2
      exact (List.getElem?_eq_some_iff.1 hy).2
    · unfold rowS
      rw [List.length_append, hl1, List.map_append]
      exact hK'
end
set_option maxRecDepth 100000 in
set_option maxHeartbeats 1600000 in
theorem copied_any (x : Etr) (A : Option Addr) (c : Nat) (w : World) (hr : RL StrM 1 w A x.words.length x.words) (hn : A = none → c = 0) (hm : x.words.length ≤ 1000000) :
    Calls Tryz.prog 65 #[.agg #[.int .i64 x.num, .string x.name, .string x.maker, .int .i64 x.year, .slice A x.words.length c]] w fun e w' => ∃ X c', e = .returned (.agg #[.int .i64 x.num, .string x.name, .string x.maker, .int .i64 x.year, .slice X x.words.length c']) ∧ Kn w [rowSN X x.words.length c' x.words] w' := by
  have HR := Lib.hid (fun W (hW : Below w.heap.size w W) => hr.below steady_StrM hW)
  have HN := Lib.hid hn
  clear hr hn
  obtain ⟨g, hg⟩ : ∃ g, w.heap.size = g := ⟨_, rfl⟩
  have K0 := ((Kn.nil w).al [.int .i64 x.num, .string x.name, .string x.maker, .int .i64 x.year, .slice A x.words.length c] 27).al [.int .i64 0, .string ⟨#[]⟩, .string ⟨#[]⟩, .int .i64 0, .slice none 0 0] 27
  simp only [World.size_alloc] at K0
  rw [hg] at K0
  go_enter Tryz.func65, Tryz.ntmps65
  go_upto_region 1 with fail
  try simp only [World.size_alloc]
  try simp only [hg]
  refine Code.wp.kn K0 ?_; clear K0 hg; intro w1 K1
  have K2 := (K1.al [] 9).litRow (size := 1) (n := 0) rfl (by decide)
  obtain ⟨a1, a2, a3, d1, d2, d3, -⟩ := K1.cells
  go_upto_region 2 with (at_builtin; refine kn_appRS rfl _ _ rfl _ [] rfl rfl (HR.out _ K2.below) HN.out K2 (by simp; omega) ?_; intro v3 w3 K3; obtain ⟨X, c', rfl⟩ := row_form K3.at0; rw [List.nil_append] at K3; try rw [List.nil_append]; clear a1 a2 a3 d1 d2 d3; obtain ⟨a1, a2, a3, d1, d2, d3, -⟩ := K3.cells)
  refine Code.wp.kn ((K3.front 2 rfl).st 4 (.slice X x.words.length c')) ?_; clear K3 K2 K1 a1 a2 a3 d1 d2 d3; intro w4 K4
  obtain ⟨a1, a2, a3, d1, d2, d3, -⟩ := K4.cells
  go_wp2_with fail
  refine bodyPost.kn (((((K4.front 2 rfl).st 0 (.int .i64 x.num)).st 1 (.string x.name)).st 2 (.string x.maker)).st 3 (.int .i64 x.year) |>.st 4 (.slice X x.words.length c')) ?_; intro w5 K5
  clear a1 a2 a3 d1 d2 d3
  obtain ⟨a1, a2, a3, -⟩ := K5.cells
  exact bodyPost_ret (v := .agg #[.int .i64 x.num, .string x.name, .string x.maker, .int .i64 x.year, .slice X x.words.length c']) (by simp [results, Tryz.results65, go_sem, a1]) rfl ⟨X, c', rfl, K5.sel [2] 99 (by decide) (by decide)⟩
end Go.Proofs.YtgljafiegpjlkaaGreatDoor

namespace Go.Proofs.YtgljafiegpjlkaaGreatDoor
open Go.RowKit Go.Sort
theorem tpE : TP 24 27 (.agg #[.int .i64 0, .string ⟨#[]⟩, .string ⟨#[]⟩, .int .i64 0, .slice none 0 0]) 5 72 := ⟨Tryz.underlying24, by kernel_rfl, rfl, by decide⟩
set_option maxRecDepth 100000 in
set_option maxHeartbeats 1600000 in
theorem l25Own_any (p : Addr) (x : Etr) (w : World) (hp : EtrM w p x) (hlt : p.block < w.heap.size) (hm : x.words.length ≤ 1000000) :
    Calls Tryz.prog 74 #[.pointer (some p)] w fun e w' => ∃ X c', e = .returned (.agg #[.int .i64 x.num, .string x.name, .string x.maker, .int .i64 x.year, .slice X x.words.length c']) ∧ Kn w [rowSN X x.words.length c' x.words] w' := by
  have HP := Lib.hid (fun W (hW : Below w.heap.size w W) => steady_EtrM w W p x hlt hW hp)
  obtain ⟨A, c, hn, ⟨c0, c1, c2, c3, c4⟩, hr⟩ := hp
  have HC := Lib.hid (fun W (hW : Below w.heap.size w W) => show W.cell? p = some (.int .i64 x.num) ∧ W.cell? ⟨p.block, p.off + 1, none⟩ = some (.string x.name) ∧ W.cell? ⟨p.block, p.off + 2, none⟩ = some (.string x.maker) ∧ W.cell? ⟨p.block, p.off + 3, none⟩ = some (.int .i64 x.year) ∧ W.cell? ⟨p.block, p.off + 4, none⟩ = some (.slice A x.words.length c) from
    ⟨by rw [hW.cell hlt]; exact c0, by rw [hW.cell (by exact hlt)]; exact c1, by rw [hW.cell (by exact hlt)]; exact c2, by rw [hW.cell (by exact hlt)]; exact c3, by rw [hW.cell (by exact hlt)]; exact c4⟩)
  have HR := Lib.hid (fun W (hW : Below w.heap.size w W) => hr.below steady_StrM hW)
  have HN := Lib.hid hn
  clear hr hn HP c0 c1 c2 c3 c4
  obtain ⟨g, hg⟩ : ∃ g, w.heap.size = g := ⟨_, rfl⟩
  have K0 := ((Kn.nil w).al [.int .i64 0, .string ⟨#[]⟩, .string ⟨#[]⟩, .int .i64 0, .slice none 0 0] 27)
  rw [hg] at K0
  go_enter Tryz.func74, Tryz.ntmps74
  go_upto_region 1 with fail
  try simp only [hg]
  refine Code.wp.kn K0 ?_; clear K0 hg; intro w1 K1
  have hlt1 : p.block < w1.heap.size := Nat.lt_of_lt_of_le hlt K1.below.size
  obtain ⟨e0, e1, e2, e3, e4⟩ := HC.out _ K1.below
  obtain ⟨g2, hg2⟩ : ∃ g, w1.heap.size = g := ⟨_, rfl⟩
  have K2 := K1.al [.int .i64 x.num, .string x.name, .string x.maker, .int .i64 x.year, .slice A x.words.length c] 27
  rw [hg2] at K2
  go_upto_region 2 with fail
  try simp only [hg2]
  refine Code.wp.kn K2 ?_; clear K1 K2 hg2 e0 e1 e2 e3 e4; intro w2 K2
  have K3 := (K2.al [] 9).litRow (size := 1) (n := 0) rfl (by decide)
  have hlt2 : p.block < w2.heap.size := Nat.lt_of_lt_of_le hlt K2.below.size
  obtain ⟨e0, e1, e2, e3, e4⟩ := HC.out _ K2.below
  obtain ⟨a1, a2, a3, -⟩ := K2.cells
  go_upto_region 3 with (at_builtin; refine kn_appRS rfl _ _ rfl _ [] rfl rfl (HR.out _ K3.below) HN.out K3 (by simp; omega) ?_; intro v3 w3 K4; obtain ⟨X, c', rfl⟩ := row_form K4.at0; rw [List.nil_append] at K4; try rw [List.nil_append]; clear a1 a2 a3; obtain ⟨a1, a2, a3, -⟩ := K4.cells)
  refine Code.wp.kn ((K4.front 1 rfl).st 4 (.slice X x.words.length c')) ?_; clear K4 K3 K2 a1 a2 a3 e0 e1 e2 e3 e4; intro w4 K4
  obtain ⟨a1, a2, a3, d1, d2, d3, -⟩ := K4.cells
  go_wp2_with fail
  refine bodyPost.kn (((((K4.front 2 rfl).st 0 (.int .i64 x.num)).st 1 (.string x.name)).st 2 (.string x.maker)).st 3 (.int .i64 x.year) |>.st 4 (.slice X x.words.length c')) ?_; intro w5 K5
  clear a1 a2 a3 d1 d2 d3
  obtain ⟨a1, a2, a3, -⟩ := K5.cells
  exact bodyPost_ret (v := .agg #[.int .i64 x.num, .string x.name, .string x.maker, .int .i64 x.year, .slice X x.words.length c']) (by simp [results, Tryz.results74, go_sem, a1]) rfl ⟨X, c', rfl, K5.sel [2] 99 (by decide) (by decide)⟩
section
variable {ops : Array Oper} {rest : List Oper} {o : Oper} {a : Act} {Q : Exit → Act → World → Prop} {w0 w : World} {m : List Ent}
/-- append(s, x) of an entry -/
theorem kn_pushE (hgd : o.guard = none) (s x : Operand) (ho : o.op = .call { callee := .builtin .append, args := #[s, x], argTypes := #[24, 24] })
    (v : Value) (M : List EE) (e : EE) (hs : a.eval s = v) {g c : Nat} {T' : TypeId} (hx : a.eval x = .slice (some ⟨g, 0, none⟩) 1 c)
    (hK : Kn w0 (.blk g e.cells T' :: .row v 27 5 M.length (cellsE M) :: bunA (rowsE M) :: e.row :: m) w) (hl : M.length ≤ 1000000)
    (h : ∀ v' w', Kn w0 (.row v' 27 5 (M ++ [e]).length (cellsE (M ++ [e])) :: bunA (rowsE (M ++ [e])) :: m) w' → wpList Tryz.prog ops Q rest (a.put o.dst v') w') : wpList Tryz.prog ops Q (o :: rest) a w := by
  refine kn_app tpE hgd s x ho v M.length (cellsE M) hs hx hK rfl (fun u hu => ?_) (by omega) (by omega) (fun v' w' K => h v' w' ?_)
  · unfold EE.cells at hu
    simp only [List.mem_cons, List.not_mem_nil, or_false] at hu
    rcases hu with rfl | rfl | rfl | rfl | rfl <;> rfl
  · have K2 := ((K.sel [2, 1, 0] 3 (by decide) (by decide)).bunAAdd).sel [1, 0] 2 (by decide) (by decide)
    rw [cellsE_app, rowsE_app, List.length_append]
    have e1 : cellsE [e] = e.cells := by simp [cellsE]
    rw [e1]
    exact K2
end
/-- entries of the call's own -/
def OwnES (L : List Etr) (w : World) (e : Ending) (w' : World) : Prop := ∃ X x, ∃ M : List EE, e = .returned (.slice X M.length x) ∧ M.map EE.t = L ∧ Kn w [.row (.slice X M.length x) 27 5 M.length (cellsE M), bunA (rowsE M)] w'
set_option maxRecDepth 100000 in
set_option maxHeartbeats 3200000 in
theorem copyEntries_any (A : Option Addr) (n c : Nat) (L : List Etr) (w : World) (hr : RL EtrM 5 w A n L) (hn : n ≤ 1000000) (hz : ∀ x ∈ L, x.words.length ≤ 1000000) :
    Calls Tryz.prog 64 #[.slice A n c] w (OwnES L w) := by
  unfold OwnES
  have HL := Lib.hid hr.1
  have HR := Lib.hid (fun W (hW : Below w.heap.size w W) => hr.below steady_EtrM hW)
  have HZ := Lib.hid hz
  clear hr hz
  obtain ⟨g, hg⟩ : ∃ g, w.heap.size = g := ⟨_, rfl⟩
  have K1 := ((Kn.nil w).bunANil.al [] 27).litRow (size := 5) (n := 0) rfl (by decide)
  rw [hg] at K1
  go_enter Tryz.func64, Tryz.ntmps64
  go_upto_region 2 with fail
  try simp only [hg]
  refine Code.wp.kn K1 ?_; clear K1 hg; intro w1 K1
  go_wp2_with fail
  go_loopw [9, 3] (fun ii vv wr => ∃ (k : Nat) (M : List EE), k ≤ n ∧ ii = .int .i64 k ∧ Hid (M.map EE.t = L.take k) ∧ Hid (M.length = k) ∧ Kn w [.row vv 27 5 M.length (cellsE M), bunA (rowsE M)] wr) (fun ii _ _ => n - (intOf ii).toNat)
  case atStart => exact ⟨0, [], Nat.zero_le _, rfl, Lib.hid rfl, Lib.hid rfl, K1⟩
  case round =>
    clear K1
    obtain ⟨k, M, hk, rfl, HM, HML, hK⟩ := hrel
    by_cases hkn : k < n
    · obtain ⟨ad, hA, hlt, hkl, hx⟩ := (HR.out _ hK.below).at_ hkn
      obtain ⟨x, hxe⟩ : ∃ x, L[k] = x := ⟨_, rfl⟩
      have htk := List.take_succ_eq_append_getElem hkl
      have hzx := HZ.out _ (List.getElem_mem hkl)
      rw [hxe] at hx htk hzx
      have HTK := Lib.hid htk
      have i0 : (0 : Int) ≤ (k : Int) := by omega
      have i1 : (k : Int) < (n : Int) := by omega
      have hml : M.length ≤ 1000000 := by have := HML.out; omega
      clear hxe htk
      obtain ⟨XA, xc, hn, ⟨c0, c1, c2, c3, c4⟩, hxr⟩ := hx
      have K2 := hK.al [.int .i64 x.num, .string x.name, .string x.maker, .int .i64 x.year, .slice XA x.words.length xc] 27
      obtain ⟨g, hg⟩ : ∃ g, wr.heap.size = g := ⟨_, rfl⟩
      rw [hg] at K2
      subst hA
      have HXR := Lib.hid (fun W (hW : Below wr.heap.size wr W) => hxr.below steady_StrM hW)
      have hb2 : Below wr.heap.size wr (wr.alloc (.cells #[.int .i64 x.num, .string x.name, .string x.maker, .int .i64 x.year, .slice XA x.words.length xc] 27)) := (Below.refl _ _).alloc (Nat.le_refl _) _
      have KC := copied_any x XA xc _ (hxr.below steady_StrM hb2) hn hzx
      go_upto_region 5 with fail
      try simp only [hg]
      replace KC := Lib.hid KC
      obtain ⟨a1, a2, a3, -⟩ := K2.cells
      clear c0 c1 c2 c3 c4 hxr hg hb2
      go_wp2_with fail
      refine KC.out.mono ?_; rintro e w3 ⟨X, c', rfl, hKn⟩
      have K5 := (K2.join hKn).sel [0, 2, 3] 99 (by decide) (by decide)
      clear K2 hKn KC a1 a2 a3 hK
      have K6 := K5.al [.int .i64 x.num, .string x.name, .string x.maker, .int .i64 x.year, .slice X x.words.length c'] 27
      go_wp2_with (at_builtin; refine kn_pushE rfl _ _ rfl _ M ⟨x, X, c'⟩ rfl rfl (K6.sel [0, 2, 3, 1] 99 (by decide) (by decide)) hml ?_; intro v' w' K7)
      go_roundw
      case rel => exact ⟨k + 1, M ++ [⟨x, X, c'⟩], by omega, by go_num, Lib.hid (by rw [HTK.out, List.map_append, HM.out]; rfl), Lib.hid (by rw [List.length_append, HML.out]; rfl), K7⟩
      case measure => simp [intOf] <;> omega
    · have i1 : ¬ (k : Int) < (n : Int) := by omega
      obtain rfl : n = k := by omega
      obtain ⟨X, xc, rfl⟩ := row_form hK.at0
      have HQ := Lib.hid (show M.map EE.t = L by rw [HM.out, List.take_of_length_le (by have := HL.out; omega)])
      go_wp2_with fail
      go_ret
      exact ⟨X, xc, M, rfl, HQ.out, hK⟩
set_option maxRecDepth 100000 in
set_option maxHeartbeats 3200000 in
theorem l25Copy_any (A : Option Addr) (n c : Nat) (L : List Etr) (w : World) (hr : RL EtrM 5 w A n L) (hn : n ≤ 1000000) (hz : ∀ x ∈ L, x.words.length ≤ 1000000) :
    Calls Tryz.prog 71 #[.slice A n c] w (OwnES L w) := by
  unfold OwnES
  have HL := Lib.hid hr.1
  have HR := Lib.hid (fun W (hW : Below w.heap.size w W) => hr.below steady_EtrM hW)
  have HZ := Lib.hid hz
  clear hr hz
  obtain ⟨g, hg⟩ : ∃ g, w.heap.size = g := ⟨_, rfl⟩
  have K1 := ((Kn.nil w).bunANil.al [] 27).litRow (size := 5) (n := 0) rfl (by decide)
  rw [hg] at K1
  go_enter Tryz.func71, Tryz.ntmps71
  go_upto_region 2 with fail
  try simp only [hg]
  refine Code.wp.kn K1 ?_; clear K1 hg; intro w1 K1
  go_wp2_with fail
  go_loopw [4, 3] (fun ii vv wr => ∃ (k : Nat) (M : List EE), k ≤ n ∧ ii = .int .i64 k ∧ Hid (M.map EE.t = L.take k) ∧ Hid (M.length = k) ∧ Kn w [.row vv 27 5 M.length (cellsE M), bunA (rowsE M)] wr) (fun ii _ _ => n - (intOf ii).toNat)
  case atStart => exact ⟨0, [], Nat.zero_le _, rfl, Lib.hid rfl, Lib.hid rfl, K1⟩
  case round =>
    clear K1
    obtain ⟨k, M, hk, rfl, HM, HML, hK⟩ := hrel
    by_cases hkn : k < n
    · obtain ⟨ad, hA, hlt, hkl, hx⟩ := (HR.out _ hK.below).at_ hkn
      obtain ⟨x, hxe⟩ : ∃ x, L[k] = x := ⟨_, rfl⟩
      have htk := List.take_succ_eq_append_getElem hkl
      have hzx := HZ.out _ (List.getElem_mem hkl)
      rw [hxe] at hx htk hzx
      have HTK := Lib.hid htk
      have i0 : (0 : Int) ≤ (k : Int) := by omega
      have i1 : (k : Int) < (n : Int) := by omega
      have hml : M.length ≤ 1000000 := by have := HML.out; omega
      clear hxe htk
      have KC := Lib.hid (l25Own_any (ad.add (k * 5)) x wr hx (by rw [block_of_add]; exact hlt) hzx)
      subst hA
      go_wp2_with fail
      refine KC.out.mono ?_; rintro e w3 ⟨X, c', rfl, hKn⟩
      have K5 := hK.join hKn
      clear hKn KC hK
      have K6 := K5.al [.int .i64 x.num, .string x.name, .string x.maker, .int .i64 x.year, .slice X x.words.length c'] 27
      go_wp2_with (at_builtin; refine kn_pushE rfl _ _ rfl _ M ⟨x, X, c'⟩ rfl rfl (K6.sel [0, 2, 3, 1] 99 (by decide) (by decide)) hml ?_; intro v' w' K7)
      go_roundw
      case rel => exact ⟨k + 1, M ++ [⟨x, X, c'⟩], by omega, by go_num, Lib.hid (by rw [HTK.out, List.map_append, HM.out]; rfl), Lib.hid (by rw [List.length_append, HML.out]; rfl), K7⟩
      case measure => simp [intOf] <;> omega
    · have i1 : ¬ (k : Int) < (n : Int) := by omega
      obtain rfl : n = k := by omega
      obtain ⟨X, xc, rfl⟩ := row_form hK.at0
      have HQ := Lib.hid (show M.map EE.t = L by rw [HM.out, List.take_of_length_le (by have := HL.out; omega)])
      go_wp2_with fail
      go_ret
      exact ⟨X, xc, M, rfl, HQ.out, hK⟩
end Go.Proofs.YtgljafiegpjlkaaGreatDoor

namespace Go.Proofs.YtgljafiegpjlkaaGreatDoor
open Go.RowKit Go.Sort Go.Lib Go.Shelf
instance : Inhabited EE := ⟨⟨default, none, 0⟩⟩
def ltE (a b : EE) : Bool := decide (a.t.num < b.t.num)
theorem swo_ltE : SWO ltE := ⟨fun x => by simp [ltE], fun x y z => by simp only [ltE, decide_eq_true_eq]; omega, fun x y z => by simp only [ltE, decide_eq_false_iff_not]; omega⟩
theorem cells5 (e : EE) : e.cells.length = 5 := rfl
theorem flat_get (M : List EE) (j : Nat) (h : j < M.length * 5) : (cellsE M)[j]? = some (flatK EE.cells 5 M.toArray)[j]! := by
  rw [get_flatK _ _ _ _ (by simpa using h)]
  have hk : j / 5 < M.length := by omega
  have h1 : M[j / 5]? = some M[j / 5] := List.getElem?_eq_getElem hk
  have h2 : (M[j / 5]).cells[j % 5]? = some ((M[j / 5]).cells[j % 5]'(by rw [cells5]; omega)) := List.getElem?_eq_getElem _
  have h3 := cellsE_get M (j / 5) _ h1 (j % 5) _ h2
  rw [show j / 5 * 5 + j % 5 = j by omega] at h3
  rw [h3]
  congr 1
  have h4 : M.toArray[j / 5]! = M[j / 5] := by simp [hk]
  rw [h4]
  exact (getElem!_pos (M[j / 5]).cells (j % 5) (by rw [cells5]; omega)).symm
theorem flat_list (M : List EE) : (flatK EE.cells 5 M.toArray).toList = cellsE M := by
  apply List.ext_getElem?
  intro j
  by_cases h : j < M.length * 5
  · rw [flat_get M j h]
    rw [Array.getElem?_toList, Array.getElem?_eq_getElem (by simpa using h)]
    congr 1
    rw [getElem!_pos]
  · rw [List.getElem?_eq_none (show (flatK EE.cells 5 M.toArray).toList.length ≤ j by rw [Array.length_toList, size_flatK]; simp; omega), List.getElem?_eq_none (by rw [cellsE_len]; omega)]
section
variable {w0 w : World} {m es es' : List Ent}
/-- the world behind a sort -/
theorem Kn.putE {Y c : Nat} {M M' : List EE} (h : Kn w0 (.row (.slice (some ⟨Y, 0, none⟩) M.length c) 27 5 M.length (cellsE M) :: m) w) (hl : M'.length = M.length) (n : Nat) (os : Array Obj) :
    Kn w0 (.row (.slice (some ⟨Y, 0, none⟩) M.length c) 27 5 M.length (cellsE M') :: m) (Go.Sort.grow (putRowK EE.cells 5 (Sort.ahead w n) Y 0 M'.toArray) os) := by
  have h0 : w.ownsRow 0 27 5 (.slice (some ⟨Y, 0, none⟩) M.length c) M.length (cellsE M) := h.at0
  have hst : ∀ k, k < w.heap.size → (Go.Sort.grow (putRowK EE.cells 5 (Sort.ahead w n) Y 0 M'.toArray) os).heap[k]? = (w.heap.modify Y (onCells (putCells id 0 (flatK EE.cells 5 M'.toArray))))[k]? := fun k hk => by
    show ((putRowK EE.cells 5 (Sort.ahead w n) Y 0 M'.toArray).heap ++ os)[k]? = _
    rw [Array.getElem?_append_left (by show k < (w.heap.modify Y _).size; simpa using hk)]
    rfl
  refine h.upd ⟨rfl, rfl, rfl, ?_, fun k hk hne => ?_⟩ ?_ (fun k hk => .inl hk)
  · show w.heap.size ≤ ((w.heap.modify Y _) ++ os).size
    simp
  · rw [hst k hk, Array.getElem?_modify, if_neg (fun e => hne (by subst e; rfl))]
  · rcases h0.2 with ⟨hv, -⟩ | ⟨g', cap, cur, hv, hb, hg, h1, h2, h3, h4⟩
    · cases hv
    injection hv with hv hv2 hv3
    injection hv with hv
    injection hv with hv
    subst hv
    subst hv3
    have hlt := (Array.getElem?_eq_some_iff.1 hg).1
    refine ⟨by rw [cellsE_len, hl], .inr ⟨Y, c, putCells id 0 (flatK EE.cells 5 M'.toArray) cur, rfl, Nat.zero_le _, ?_, h1, h2, by simpa [putCells] using h3, ?_⟩⟩
    · rw [hst Y hlt, Array.getElem?_modify, if_pos rfl, hg]; rfl
    · have hcs : M.length * 5 ≤ cur.size := by
        have := congrArg List.length h4
        rw [List.length_take, cellsE_len, Array.length_toList] at this
        omega
      rw [← flat_list]
      apply List.ext_getElem?
      intro j
      by_cases hj : j < M.length * 5
      · rw [List.getElem?_take, if_pos hj, Array.getElem?_toList, Array.getElem?_toList]
        unfold putCells
        rw [Array.getElem?_mapIdx, Array.getElem?_eq_getElem (show j < cur.size by omega), Array.getElem?_eq_getElem (show j < (flatK EE.cells 5 M'.toArray).size by rw [size_flatK]; simpa [hl] using hj)]
        simp only [Option.map_some, Nat.zero_le, true_and, Nat.zero_add, Nat.sub_zero, id]
        rw [if_pos (by rw [size_flatK]; simpa [hl] using hj)]
        congr 1
        rw [getElem!_pos]
      · rw [List.getElem?_eq_none (by rw [List.length_take]; omega), List.getElem?_eq_none (by rw [Array.length_toList, size_flatK]; simp [hl]; omega)]
end
set_option maxHeartbeats 2000000 in
theorem lessE (blk c Bs size : Nat) (W : World) (G : Nat → Int) (hs : W.cell? ⟨Bs, 0, none⟩ = some (.slice (some ⟨blk, 0, none⟩) size c))
    (hc : ∀ t, t < size → W.cell? ⟨blk, 0 + t * 5, none⟩ = some (.int .i64 (G t))) (i j : Nat) (hi : i < size) (hj : j < size) (_hsz : size < 4611686018427387904) :
    Calls Tryz.prog 67 #[.int .i64 i, .int .i64 j, .pointer (some ⟨Bs, 0, none⟩)] W fun e w' => e = .returned (.bool (decide (G i < G j))) ∧ ∃ q, w' = W.drewN q := by
  have ci := hc i hi
  have cj := hc j hj
  rw [Nat.zero_add] at ci cj
  go_enter Tryz.func67, Tryz.ntmps67
  go_wp2
  go_quiet (fail)
  go_wp2
  go_ret
  exact ⟨rfl, nq, rfl⟩
noncomputable def svT : TypeInfo := (Tryz.prog.info? 24).get (by kernel_rfl)
noncomputable def svE : TypeInfo := (Tryz.prog.info? 27).get (by kernel_rfl)
theorem svK (n : Nat) (h2 : 2 ≤ n) : Lib.swapperK n svE 25 = 9 := by
  have a : svE.hasPointers = true := by kernel_rfl
  have b : svE.bytes = 72 := by kernel_rfl
  have c : (n == 0) = false := by simp; omega
  have d : (n == 1) = false := by simp; omega
  simp [Lib.swapperK, a, b, c, d]
end Go.Proofs.YtgljafiegpjlkaaGreatDoor

namespace Go.Proofs.YtgljafiegpjlkaaGreatDoor
open Go.RowKit Go.Sort Go.Lib Go.Shelf
set_option maxRecDepth 100000 in
set_option maxHeartbeats 4000000 in
theorem sort_kn {w0 w : World} {m : List Ent} {gb Y c : Nat} {M : List EE} (hK : Kn w0 (.blk gb [.slice (some ⟨Y, 0, none⟩) M.length c] 24 :: .row (.slice (some ⟨Y, 0, none⟩) M.length c) 27 5 M.length (cellsE M) :: bunA (rowsE M) :: m) w) (h0 : 0 < M.length) (hM : M.length < 4611686018427387904) :
    Calls Tryz.prog 66 #[.iface 24 (.slice (some ⟨Y, 0, none⟩) M.length c), .func (.func 67) #[] #[.pointer (some ⟨gb, 0, none⟩)]] w fun e w' => e = .returned (.tuple #[]) ∧ ∃ M' : List EE, M'.Perm M ∧ M'.Pairwise (fun a b => ltE b a = false) ∧ Kn w0 (.blk gb [.slice (some ⟨Y, 0, none⟩) M.length c] 24 :: .row (.slice (some ⟨Y, 0, none⟩) M.length c) 27 5 M.length (cellsE M') :: bunA (rowsE M') :: m) w' := by
  by_cases h2 : 2 ≤ M.length
  rotate_left
  · have h1 : M.length = 1 := by omega
    have hT := Any.sort_Slice_tiny Tryz.laysGg6 24 27 svT svE (by kernel_rfl) (by kernel_rfl) (by kernel_rfl) (by kernel_rfl) 25 (fun _ => by kernel_rfl) (some ⟨Y, 0, none⟩) M.length c (by omega) 185 (by rw [h1]; kernel_rfl) (.func 67) #[] #[.pointer (some ⟨gb, 0, none⟩)] w
    change Calls Tryz.prog 66 _ _ _ at hT
    refine hT.mono ?_
    rintro e w' ⟨rfl, os, rfl⟩
    refine ⟨rfl, M, List.Perm.refl _, ?_, hK.keep ⟨rfl, rfl, rfl, by show w.heap.size ≤ (w.heap ++ os).size; simp, fun k hk => by show (w.heap ++ os)[k]? = _; rw [Array.getElem?_append_left hk]⟩⟩
    rw [List.pairwise_iff_getElem]
    intro i j hi hj hij
    omega
  have hRW := hK.front 1 rfl
  have hH : HoldsK EE.cells 5 w Y 0 M.toArray := fun j hj => by
    have hj' : j < M.length * 5 := by rw [size_flatK] at hj; simpa using hj
    have h1 := Kn.rowCell hRW (flat_get M j hj')
    rw [Nat.zero_add]
    exact h1
  have hYl : Y < w.heap.size := Ent.lt (hK.ents _ (List.mem_cons_of_mem _ (List.mem_cons_self ..))) (k := Y) rfl
  have hne : gb ≠ Y := fun e => by
    have h1 := (List.pairwise_cons.1 hK.apart).1 _ (List.mem_cons_self ..) gb rfl
    exact h1 (by rw [e]; exact rfl)
  obtain ⟨b1, b2, b3⟩ := hK.blkAt
  have hless : LessReadsK Tryz.prog 67 #[.pointer (some ⟨gb, 0, none⟩)] EE.cells 5 ltE Y 0 M.toArray.size w := by
    intro mm os dk hs i j hi hj
    have e : sortWorldK EE.cells 5 w Y 0 mm dk os = putRowK EE.cells 5 (Go.Sort.grow (Sort.ahead w mm) os) Y 0 dk := by
      unfold sortWorldK; rw [putRowK_grow _ _ (Sort.ahead w mm) _ Y 0 _ hYl]
    have hHg : HoldsK EE.cells 5 (Go.Sort.grow (Sort.ahead w mm) os) Y 0 M.toArray := holdsK_grow _ _ _ _ Y 0 M.toArray hYl (holdsK_ahead _ _ _ _ _ _ _ hH)
    refine lessE Y c gb M.length _ (fun t => dk[t]!.t.num) ?_ (fun t ht => ?_) i j (by simpa using hi) (by simpa using hj) (by omega)
    · rw [e, cell?_putRowK_other _ _ _ Y 0 dk _ (by exact hne), cell?_grow _ _ _ (by exact b3)]; exact b1 0
    · rw [e]
      have h5 := ((holdsK_putRowK _ _ _ Y 0 M.toArray dk hHg hs).cell (i := t) (c := 0) (by rw [hs]; simpa using ht) (by omega)).1
      exact h5
  have hS := Any.sort_Slice_cells_sorted Tryz.laysGg6 24 27 svT svE (by kernel_rfl) (by kernel_rfl) (by kernel_rfl) (by kernel_rfl) 25 (fun _ => by kernel_rfl) EE.cells 5 (fun _ => rfl) (by kernel_rfl) (fun _ => by kernel_rfl)
    (fun x v hv => by
      unfold EE.cells at hv
      simp only [List.mem_cons, List.not_mem_nil, or_false] at hv
      rcases hv with rfl | rfl | rfl | rfl | rfl <;> rfl) ltE swo_ltE 67 #[.pointer (some ⟨gb, 0, none⟩)]
    (enters_of Tryz.func67 (by kernel_rfl) rfl) Y 0 c M.toArray (by simpa using h2) (by simpa using hM) 192 (by rw [svK _ (by simpa using h2)]; kernel_rfl) false
    (fun args W => run_callFunc_extern Tryz.func192 (by kernel_rfl) (by kernel_rfl) (by kernel_rfl) (e := Extern.ReflectliteSwapper.swap false) (by kernel_rfl) args W) w hless hH hYl
  change Calls Tryz.prog 66 #[.iface 24 (.slice (some ⟨Y, 0, none⟩) M.length c), .func (.func 67) #[] #[.pointer (some ⟨gb, 0, none⟩)]] _ _ at hS
  refine hS.mono ?_
  rintro e w' ⟨rfl, d', n, os, hp, hso, rfl⟩
  have hsz : d'.size = M.length := by rw [hp.1]; rfl
  have hperm : d'.toList.Perm M := by
    have h1 := hp.2.2
    have e1 : d'.extract 0 M.toArray.size = d' := by rw [← hp.1]; exact Array.extract_size
    rw [e1, Array.extract_size] at h1
    exact h1
  refine ⟨rfl, d'.toList, hperm, ?_, ?_⟩
  · rw [List.pairwise_iff_getElem]
    intro i j hi hj hij
    have hi' : i < d'.size := by simpa using hi
    have hj' : j < d'.size := by simpa using hj
    have := hso i j (Nat.zero_le _) hij (by rw [← hp.1]; exact hj')
    rw [getElem!_pos d' j hj', getElem!_pos d' i hi'] at this
    exact this
  · have h3 := Kn.putE (M' := d'.toList) hRW (by simpa using hsz) n os
    rw [Array.toArray_toList] at h3
    have h4 := h3.sel [1, 0, 2] 3 (by decide) (by decide)
    have h5 := ((h4.front 2 rfl).bunAPerm (es' := rowsE d'.toList) (hperm.symm.map EE.row)).sel [1, 2, 0] 3 (by decide) (by decide)
    exact h5
end Go.Proofs.YtgljafiegpjlkaaGreatDoor

namespace Go.Proofs.YtgljafiegpjlkaaGreatDoor
open Go.RowKit Go.Sort
/-! an entry that is added, plainly -/
theorem idxF_ge : ∀ (l : List Etr) (num i : Int), 0 ≤ i → idxF l num i = -1 ∨ i ≤ idxF l num i
  | [], _, _, _ => .inl rfl
  | x :: l, num, i, hi => by
    unfold idxF
    split
    · exact .inr (Int.le_refl _)
    · rcases idxF_ge l num (i + 1) (by omega) with h | h
      · exact .inl h
      · exact .inr (by omega)
theorem idxF_not : ∀ (l : List Etr) (num i : Int), 0 ≤ i → idxF l num i < 0 → ∀ y ∈ l, y.num ≠ num
  | [], _, _, _, _, y, hy => by cases hy
  | x :: l, num, i, hi, h, y, hy => by
    unfold idxF at h
    split at h
    · omega
    · rename_i hx
      rcases List.mem_cons.1 hy with rfl | hy
      · exact hx
      · exact idxF_not l num (i + 1) (by omega) h y hy
theorem idxE_bd (L : List Etr) (num : Int) : idxE L num = -1 ∨ 0 ≤ idxE L num := idxF_ge L num 0 (Int.le_refl _)
theorem ents_asc {L : List Etr} (h : entsP L L.length = true) : L.Pairwise (fun a b => a.num < b.num) := by
  have hat : ∀ k, k < L.length → entAt L k = true := fun k hk => List.all_eq_true.1 h k (List.mem_range.2 hk)
  have hstep : ∀ k (h : k + 1 < L.length), (L[k]'(by omega)).num < L[k + 1].num := fun k hk => by
    have h1 := hat (k + 1) hk
    unfold entAt at h1
    rw [decide_eq_false (by omega : ¬ k + 1 = 0), Bool.false_or, Bool.and_eq_true, decide_eq_true_eq] at h1
    have h2 := h1.2
    rw [Nat.add_sub_cancel, List.getD_eq_getElem?_getD, List.getD_eq_getElem?_getD, List.getElem?_eq_getElem hk, List.getElem?_eq_getElem (show k < L.length by omega)] at h2
    exact h2
  have hall : ∀ (d i : Nat) (h : i + d + 1 < L.length), (L[i]'(by omega)).num < L[i + d + 1].num := by
    intro d
    induction d with
    | zero => intro i h; exact hstep i h
    | succ d ih =>
      intro i h
      have h1 := ih i (by omega)
      have h2 := hstep (i + d + 1) (by omega)
      have e : i + (d + 1) + 1 = i + d + 1 + 1 := by omega
      simp only [e]
      omega
  rw [List.pairwise_iff_getElem]
  intro i j hi hj hij
  have h1 := hall (j - i - 1) i (by omega)
  have e : i + (j - i - 1) + 1 = j := by omega
  simp only [e] at h1
  exact h1
def insE (L : List Etr) (x : Etr) : List Etr := (L ++ [x]).mergeSort (fun a b => decide (a.num ≤ b.num))
theorem insE_one {L P : List Etr} {x : Etr} (hL : entsP L L.length = true) (hx : ∀ y ∈ L, y.num ≠ x.num) (hp : P.Perm (L ++ [x])) (hs : P.Pairwise (fun a b => a.num ≤ b.num)) : P = insE L x := by
  have hasc := ents_asc hL
  refine List.Perm.eq_of_pairwise (le := fun a b => a.num ≤ b.num) ?_ hs ?_ (hp.trans (List.mergeSort_perm _ _).symm)
  · intro a b ha hb h1 h2
    have ha := hp.mem_iff.1 ha
    have hb : b ∈ L ++ [x] := (List.mergeSort_perm _ _).mem_iff.1 hb
    have hn : a.num = b.num := Int.le_antisymm h1 h2
    rcases List.mem_append.1 ha with ha | ha <;> rcases List.mem_append.1 hb with hb | hb
    · by_cases he : a = b
      · exact he
      · obtain ⟨i, hi, rfl⟩ := List.getElem_of_mem ha
        obtain ⟨j, hj, rfl⟩ := List.getElem_of_mem hb
        have hp := List.pairwise_iff_getElem.1 hasc
        rcases Nat.lt_trichotomy i j with h | h | h
        · have := hp i j hi hj h; omega
        · subst h; rfl
        · have := hp j i hj hi h; omega
    · rw [List.mem_singleton.1 hb] at hn
      exact absurd hn (hx a ha)
    · rw [List.mem_singleton.1 ha] at hn
      exact absurd hn.symm (hx b hb)
    · rw [List.mem_singleton.1 ha, List.mem_singleton.1 hb]
  · have h := List.pairwise_mergeSort (le := fun (a b : Etr) => decide (a.num ≤ b.num)) (fun a b c h1 h2 => by simp at *; omega) (fun a b => by simp; omega) (L ++ [x])
    exact h.imp (fun h => by simpa using h)
/-- what an entry that is added gives -/
def adC (L : List Etr) (x : Etr) : Int := if entsOk L = false then 1 else if etrOk x = false then 2 else if 0 ≤ idxE L x.num then 4 else if L.length = 50 then 5 else 0
def adL (L : List Etr) (x : Etr) : List Etr := if adC L x = 0 then insE L x else []
theorem ad_bad {L : List Etr} {x : Etr} (h : entsOk L = false) : adC L x = 1 ∧ adL L x = [] := by
  have h1 : adC L x = 1 := by unfold adC; rw [if_pos h]
  exact ⟨h1, by unfold adL; rw [h1, if_neg (by decide)]⟩
theorem ad_range {L : List Etr} {x : Etr} (h : entsOk L = true) (h2 : etrOk x = false) : adC L x = 2 ∧ adL L x = [] := by
  have h1 : adC L x = 2 := by unfold adC; rw [if_neg (by rw [h]; decide), if_pos h2]
  exact ⟨h1, by unfold adL; rw [h1, if_neg (by decide)]⟩
theorem ad_there {L : List Etr} {x : Etr} (h : entsOk L = true) (h2 : etrOk x = true) (h3 : 0 ≤ idxE L x.num) : adC L x = 4 ∧ adL L x = [] := by
  have h1 : adC L x = 4 := by unfold adC; rw [if_neg (by rw [h]; decide), if_neg (by rw [h2]; decide), if_pos h3]
  exact ⟨h1, by unfold adL; rw [h1, if_neg (by decide)]⟩
theorem ad_full {L : List Etr} {x : Etr} (h : entsOk L = true) (h2 : etrOk x = true) (h3 : ¬ 0 ≤ idxE L x.num) (h4 : L.length = 50) : adC L x = 5 ∧ adL L x = [] := by
  have h1 : adC L x = 5 := by unfold adC; rw [if_neg (by rw [h]; decide), if_neg (by rw [h2]; decide), if_neg h3, if_pos h4]
  exact ⟨h1, by unfold adL; rw [h1, if_neg (by decide)]⟩
theorem ad_fine {L : List Etr} {x : Etr} (h : entsOk L = true) (h2 : etrOk x = true) (h3 : ¬ 0 ≤ idxE L x.num) (h4 : ¬ L.length = 50) :
    adC L x = 0 ∧ L.length < 50 ∧ ∀ P : List Etr, P.Perm (L ++ [x]) → P.Pairwise (fun a b => a.num ≤ b.num) → adL L x = P := by
  have h1 : adC L x = 0 := by unfold adC; rw [if_neg (by rw [h]; decide), if_neg (by rw [h2]; decide), if_neg h3, if_neg h4]
  have he := h
  unfold entsOk at he
  rw [Bool.and_eq_true, decide_eq_true_eq] at he
  refine ⟨h1, by omega, fun P hp hs => ?_⟩
  unfold adL
  rw [h1, if_pos rfl]
  exact (insE_one he.1 (idxF_not L x.num 0 (Int.le_refl _) (by unfold idxE at h3; omega)) hp hs).symm
end Go.Proofs.YtgljafiegpjlkaaGreatDoor

namespace Go.Proofs.YtgljafiegpjlkaaGreatDoor
open Go.RowKit Go.Sort
theorem box5 {w0 w : World} {m : List Ent} {g : Nat} {v0 v1 v2 v3 v4 : Value} {T : TypeId} (h : Kn w0 (.blk g [v0, v1, v2, v3, v4] T :: m) w) :
    w.cell? ⟨g, 0, none⟩ = some v0 ∧ w.cell? ⟨g, 1, none⟩ = some v1 ∧ w.cell? ⟨g, 2, none⟩ = some v2 ∧ w.cell? ⟨g, 3, none⟩ = some v3 ∧ w.cell? ⟨g, 4, none⟩ = some v4 :=
  ⟨h.blkAt.1 0, h.blkAt.1 1, h.blkAt.1 2, h.blkAt.1 3, h.blkAt.1 4⟩
theorem kn_stepE {ops : Array Oper} {o : Oper} {a : Act} {Q : Exit → Act → World → Prop} {w0 w : World} {m : List Ent} {K : Act → World → Prop} {E : Prop} (hgd : o.guard = none) (s x : Operand) (ho : o.op = .call { callee := .builtin .append, args := #[s, x], argTypes := #[24, 24] })
    (v : Value) (M : List EE) (e : EE) (hs : a.eval s = v) {g c : Nat} {T' : TypeId} (hx : a.eval x = .slice (some ⟨g, 0, none⟩) 1 c)
    (hK : Kn w0 (.blk g e.cells T' :: .row v 27 5 M.length (cellsE M) :: bunA (rowsE M) :: e.row :: m) w) (hl : M.length ≤ 1000000)
    (h : ∀ v' w', Kn w0 (.row v' 27 5 (M ++ [e]).length (cellsE (M ++ [e])) :: bunA (rowsE (M ++ [e])) :: m) w' → K (a.put o.dst v') w') : if Region.wanted o (yielded ops a.tmps) = true then Oper.wp Tryz.prog o a w K Q else E := by
  refine kn_step_app tpE hgd s x ho v M.length (cellsE M) hs hx hK rfl (fun u hu => ?_) (by omega) (by omega) (fun v' w' K => h v' w' ?_)
  · unfold EE.cells at hu
    simp only [List.mem_cons, List.not_mem_nil, or_false] at hu
    rcases hu with rfl | rfl | rfl | rfl | rfl <;> rfl
  · have K2 := ((K.sel [2, 1, 0] 3 (by decide) (by decide)).bunAAdd).sel [1, 0] 2 (by decide) (by decide)
    rw [cellsE_app, rowsE_app, List.length_append]
    have e1 : cellsE [e] = e.cells := by simp [cellsE]
    rw [e1]
    exact K2
theorem etr_words {x : Etr} (h : etrOk x = true) : x.words.length ≤ 1000000 := by
  unfold etrOk etrHead at h
  simp only [Bool.and_eq_true, decide_eq_true_eq] at h
  omega
theorem ents_words {L : List Etr} (h : entsOk L = true) : ∀ y ∈ L, y.words.length ≤ 1000000 := fun y hy => by
  obtain ⟨k, hk, rfl⟩ := List.getElem_of_mem hy
  unfold entsOk at h
  rw [Bool.and_eq_true] at h
  have h1 := List.all_eq_true.1 h.1 k (List.mem_range.2 hk)
  unfold entAt at h1
  rw [Bool.and_eq_true, List.getD_eq_getElem?_getD, List.getElem?_eq_getElem hk] at h1
  exact etr_words h1.1
/-- entries and a code -/
def AERet (L : List Etr) (C : Int) (w : World) (e : Ending) (w' : World) : Prop := ∃ X x, ∃ M : List EE, e = .returned (.tuple #[.slice X M.length x, .int .i64 C]) ∧ M.map EE.t = L ∧ Kn w [.row (.slice X M.length x) 27 5 M.length (cellsE M), bunA (rowsE M)] w'
theorem AERet.none {C : Int} {w w' : World} (h : Below w.heap.size w w') : AERet [] C w (.returned (.tuple #[.slice none 0 0, .int .i64 C])) w' :=
  ⟨Option.none, 0, [], rfl, rfl, ((((Kn.nil w).keep h).bunANil).nilRow 27 5)⟩
set_option maxRecDepth 100000 in
set_option maxHeartbeats 6400000 in
theorem AddEntry_any (B : Option Addr) (n bc : Nat) (L : List Etr) (x : Etr) (A : Option Addr) (c : Nat) (w : World) (hr : RL EtrM 5 w B n L) (hn : n ≤ 1048576) (hz : ∀ x ∈ L, SmE x) (hxr : RL StrM 1 w A x.words.length x.words) (hxn : A = none → c = 0) (hxz : SmE x) :
    Calls Tryz.prog 10 #[.slice B n bc, .agg #[.int .i64 x.num, .string x.name, .string x.maker, .int .i64 x.year, .slice A x.words.length c]] w (AERet (adL L x) (adC L x) w) := by
  have hLn := hr.1
  have KV := (fun W (hW : Below w.heap.size w W) => ValidEntries_any B n bc L W (hr.below steady_EtrM hW) (by omega) hz)
  have KX := (fun W (hW : Below w.heap.size w W) => validEntry_any x A c W (hxr.below steady_StrM hW) hxz)
  have KF := (fun W (hW : Below w.heap.size w W) => entryAt_any B n bc L x.num W (hr.below steady_EtrM hW) (by omega))
  have KC := (fun (h : n ≤ 1000000) (hm : ∀ y ∈ L, y.words.length ≤ 1000000) W (hW : Below w.heap.size w W) => copyEntries_any B n bc L W (hr.below steady_EtrM hW) h hm)
  have KD := Lib.hid (fun (hxm : x.words.length ≤ 1000000) W (hW : Below w.heap.size w W) => copied_any x A c W (hxr.below steady_StrM hW) hxn hxm)
  have HM1 := (fun h => ents_words (L := L) h)
  have HM2 := (fun h => etr_words (x := x) h)
  unfold OwnES at KC
  have hbd := idxE_bd L x.num
  have F1 := ad_bad (L := L) (x := x)
  have F2 := ad_range (L := L) (x := x)
  have F3 := ad_there (L := L) (x := x)
  have F4 := ad_full (L := L) (x := x)
  have F5 := ad_fine (L := L) (x := x)
  unfold AERet
  obtain ⟨RL_, hRL⟩ : ∃ v, adL L x = v := ⟨_, rfl⟩
  obtain ⟨RC_, hRC⟩ : ∃ v, adC L x = v := ⟨_, rfl⟩
  obtain ⟨b1, hb1⟩ : ∃ v, entsOk L = v := ⟨_, rfl⟩
  obtain ⟨b2, hb2⟩ : ∃ v, etrOk x = v := ⟨_, rfl⟩
  obtain ⟨ix, hix⟩ : ∃ v, idxE L x.num = v := ⟨_, rfl⟩
  simp only [hRL, hRC, hb1, hb2, hix] at KV KX KF hbd F1 F2 F3 F4 F5 HM1 HM2 ⊢
  rw [hLn] at F4 F5
  clear hRL hRC hb1 hb2 hix hr hz hxr hxn hxz
  replace KV := Lib.hid KV
  replace KX := Lib.hid KX
  replace KF := Lib.hid KF
  replace KC := Lib.hid KC
  replace HM1 := Lib.hid HM1
  replace HM2 := Lib.hid HM2
  replace F1 := Lib.hid F1
  replace F2 := Lib.hid F2
  replace F3 := Lib.hid F3
  replace F4 := Lib.hid F4
  replace F5 := Lib.hid F5
  have HLN := Lib.hid hLn
  clear hLn
  have hmf : ∀ (fn : Fn) (first cap : Array Value) (w : World), (Instr.makeFunc fn first cap).run Tryz.prog w = .ok (.func fn first cap) w := fun _ _ _ _ => rfl
  obtain ⟨g, hg⟩ : ∃ g, w.heap.size = g := ⟨_, rfl⟩
  have K0 := (Kn.nil w).al [.int .i64 x.num, .string x.name, .string x.maker, .int .i64 x.year, .slice A x.words.length c] 27
  rw [hg] at K0
  go_enter Tryz.func10, Tryz.ntmps10
  go_upto_region 1 with fail
  try rw [hg]
  refine Code.wp.kn K0 ?_; clear K0 hg; intro w1 K1
  go_wp2_with fail
  refine (KV.out _ K1.below).mono ?_; rintro e w2 ⟨rfl, hw⟩
  have K2 := K1.keep hw
  clear K1 hw
  rcases b1 with _ | _
  · go_wp2_with fail
    go_ret2
    obtain ⟨e1, e2⟩ := F1.out trivial
    rw [e1, e2]
    exact AERet.none K2.below
  obtain ⟨a1, a2, a3⟩ := K2.blkAt
  go_wp2_with fail
  refine (KX.out _ K2.below).mono ?_; rintro e w3 ⟨rfl, hw⟩
  have K3 := K2.keep hw
  clear K2 hw a1 a2 a3
  rcases b2 with _ | _
  · go_wp2_with fail
    go_ret2
    obtain ⟨e1, e2⟩ := F2.out trivial trivial
    rw [e1, e2]
    exact AERet.none K3.below
  obtain ⟨a1, a2, a3⟩ := K3.blkAt
  go_wp2_with fail
  refine (KF.out _ K3.below).mono ?_; rintro e w4 ⟨rfl, hw⟩
  have K4 := K3.keep hw
  clear K3 hw a1 a2 a3
  by_cases h4 : 0 ≤ ix
  · go_wp2_with fail
    go_ret2
    obtain ⟨e1, e2⟩ := F3.out trivial trivial h4
    rw [e1, e2]
    exact AERet.none K4.below
  by_cases h5 : n = 50
  · have i5 : (n : Int) = 50 := by omega
    go_wp2_with fail
    go_ret2
    obtain ⟨e1, e2⟩ := F4.out trivial trivial (by omega) h5
    rw [e1, e2]
    exact AERet.none K4.below
  have i5 : ¬ (n : Int) = 50 := by omega
  obtain ⟨e1, hn50, HP⟩ := F5.out trivial trivial (by omega) h5
  have HP := Lib.hid HP
  subst e1
  replace KC := Lib.hid (KC.out (by omega) (HM1.out trivial))
  replace KD := Lib.hid (KD.out (HM2.out trivial))
  go_wp2_with fail
  have HF := Lib.hid (fun W (h : Kn w [.blk g [.int .i64 x.num, .string x.name, .string x.maker, .int .i64 x.year, .slice A x.words.length c] 27] W) => box5 h)
  have hKd := K4.drew
  have HG := Lib.hid (HF.out _ (hKd.sel [0] 99 (by decide) (by decide)))
  go_cut [6] (fun pp wx => ∃ (g6 : Nat) (Y : Option Addr) (y : Nat) (M : List EE), pp = .pointer (some ⟨g6, 0, none⟩) ∧ M.map EE.t = L ++ [x] ∧ Kn w [.blk g6 [.slice Y M.length y] 24, .row (.slice Y M.length y) 27 5 M.length (cellsE M), bunA (rowsE M)] wx)
  case first =>
    have HLN := HLN.out
    refine wp_region_held_drew (S := fun W => W.cell? ⟨g, 0, none⟩ = some (.int .i64 x.num) ∧ W.cell? ⟨g, 1, none⟩ = some (.string x.name) ∧ W.cell? ⟨g, 2, none⟩ = some (.string x.maker) ∧ W.cell? ⟨g, 3, none⟩ = some (.int .i64 x.year) ∧ W.cell? ⟨g, 4, none⟩ = some (.slice A x.words.length c)) (by kernel_rfl) ?_ (fun hHeld => ?_)
    · exact HG.out
    try dsimp only
    generalize w4.drew = wd at hKd HG hHeld ⊢
    clear K4
    refine wpAnyH_take (i := 0) (v := ?_) rfl (by kernel_rfl) (by kernel_rfl) (by kernel_rfl) (fun _ _ _ h => h) (Or.inl ⟨by rfl, ?_⟩) hHeld ?_
    rotate_left
    · (intro w hSw; (try dsimp only at hSw); go_simp; try with_reducible rfl)
    try simp only [Act.put, List.setIfInBounds_toArray, List.set_cons_zero, List.set_cons_succ, List.getElem_toArray, List.getElem_cons_succ, List.getElem_cons_zero]
    refine wpAnyH_take (i := 2) (v := ?_) rfl (by kernel_rfl) (by kernel_rfl) (by kernel_rfl) (fun _ _ _ h => h) (Or.inl ⟨by rfl, ?_⟩) hHeld ?_
    rotate_left
    · (intro w hSw; (try dsimp only at hSw); go_simp; try with_reducible rfl)
    try simp only [Act.put, List.setIfInBounds_toArray, List.set_cons_zero, List.set_cons_succ, List.getElem_toArray, List.getElem_cons_succ, List.getElem_cons_zero]
    refine wpAnyH_ready (rs := [1, 6]) (by kernel_rfl) (by decide) (AllReadyH.cons (o := _) rfl (fun K hK' => ?_) (AllReadyH.cons (o := _) rfl (fun K hK' => ?_) AllReadyH.nil))
    · skip
      go_simp
      go_at_call 64
      refine (KC.out _ hKd.below).mono ?_
      rintro e wo1 ⟨Y1, yc1, M1, rfl, HMT1, hK⟩
      have KO1 := hKd.join hK
      clear hK
      have HG := Lib.hid (HF.out _ (KO1.sel [2] 99 (by decide) (by decide)))
      refine hK'.out _ _ HG.out (fun hHeld2 => ?_)
      clear hK' K hHeld
      have hHeld := hHeld2
      clear hHeld2
      try simp only [Act.put, List.setIfInBounds_toArray]
      refine wpAnyH_ready (rs := [3, 6]) (by kernel_rfl) (by decide) (AllReadyH.cons (o := _) rfl (fun K hK' => ?_) (AllReadyH.cons (o := _) rfl (fun K hK' => ?_) AllReadyH.nil))
      · skip
        go_simp
        go_at_call 65
        refine (KD.out _ KO1.below).mono ?_
        rintro e wo2 ⟨X2, xc2, rfl, hK⟩
        have KO2 := KO1.join hK
        clear hK
        have HG := Lib.hid (HF.out _ (KO2.sel [3] 99 (by decide) (by decide)))
        refine hK'.out _ _ HG.out (fun hHeld2 => ?_)
        clear hK' K hHeld
        have hHeld := hHeld2
        clear hHeld2
        try simp only [Act.put, List.setIfInBounds_toArray]
        refine wpAnyH_ready (rs := [4, 6]) (by kernel_rfl) (by decide) (AllReadyH.cons (o := _) rfl (fun K hK' => ?_) (AllReadyH.cons (o := _) rfl (fun K hK' => ?_) AllReadyH.nil))
        · skip
          go_simp
          have KO3 := KO2.al [.int .i64 x.num, .string x.name, .string x.maker, .int .i64 x.year, .slice X2 x.words.length xc2] 27
          have HG := Lib.hid (HF.out _ (KO3.sel [4] 99 (by decide) (by decide)))
          refine hK'.out _ _ HG.out (fun hHeld2 => ?_)
          clear hK' K hHeld
          have hHeld := hHeld2
          clear hHeld2
          try simp only [Act.put, List.setIfInBounds_toArray]
          generalize wo2.alloc (.cells #[.int .i64 x.num, .string x.name, .string x.maker, .int .i64 x.year, .slice X2 x.words.length xc2] 27) = wo3 at KO3 hHeld ⊢
          obtain ⟨ge3, hge3⟩ : ∃ g, wo2.heap.size = g := ⟨_, rfl⟩
          rw [hge3] at KO3 ⊢
          clear hge3
          refine wpAnyH_ready (rs := [5, 6]) (by kernel_rfl) (by decide) (AllReadyH.cons (o := _) rfl (fun K hK' => ?_) (AllReadyH.cons (o := _) rfl (fun K hK' => ?_) AllReadyH.nil))
          · skip
            have KO4 := (KO3.sel [0, 2, 3, 1, 4] 99 (by decide) (by decide))
            refine kn_stepE (by rfl) _ _ (by rfl) _ M1 ⟨x, X2, xc2⟩ (by rfl) (by rfl) KO4 (by have h1 := congrArg List.length HMT1; rw [List.length_map] at h1; omega) ?_
            clear KO4
            intro v' wo4 KO4
            obtain ⟨N4, HN4⟩ : ∃ N, M1 ++ [(⟨x, X2, xc2⟩ : EE)] = N := ⟨_, rfl⟩
            rw [HN4] at KO4
            try rw [HN4]
            obtain ⟨Z4, zc4, rfl⟩ := row_form KO4.at0
            have HN4 : N4.map EE.t = L ++ [x] := by rw [← HN4, List.map_append, HMT1]; rfl
            have HG := Lib.hid (HF.out _ (KO4.sel [2] 99 (by decide) (by decide)))
            refine hK'.out _ _ HG.out (fun hHeld2 => ?_)
            clear hK' K hHeld
            have hHeld := hHeld2
            clear hHeld2
            try simp only [Act.put, List.setIfInBounds_toArray]
            refine wpAnyH_ready (rs := [6]) (by kernel_rfl) (by decide) (AllReadyH.cons (o := _) rfl (fun K hK' => ?_) AllReadyH.nil)
            go_simp
            have KO5 := KO4.al [.slice none 0 0] 24
            have HG := Lib.hid (HF.out _ (KO5.sel [3] 99 (by decide) (by decide)))
            refine hK'.out _ _ HG.out (fun hHeld2 => ?_)
            clear hK' K hHeld
            have hHeld := hHeld2
            clear hHeld2
            try simp only [Act.put, List.setIfInBounds_toArray]
            generalize wo4.alloc (.cells #[.slice none 0 0] 24) = wo5 at KO5 hHeld ⊢
            obtain ⟨gg5, hgg5⟩ : ∃ g, wo4.heap.size = g := ⟨_, rfl⟩
            rw [hgg5] at KO5 ⊢
            clear hgg5
            refine wpAnyH_ready (rs := [7]) (by kernel_rfl) (by decide) (AllReadyH.cons (o := _) rfl (fun K hK' => ?_) AllReadyH.nil)
            obtain ⟨s1, s2, s3, -⟩ := (KO5.front 0 rfl).cells
            have KO6 := ((KO5.front 0 rfl).st 0 (.slice Z4 N4.length zc4))
            go_simp
            clear s1 s2 s3
            have HG := Lib.hid (HF.out _ (KO6.sel [3] 99 (by decide) (by decide)))
            refine hK'.out _ _ HG.out (fun hHeld2 => ?_)
            clear hK' K hHeld
            have hHeld := hHeld2
            clear hHeld2
            try simp only [Act.put, List.setIfInBounds_toArray]
            refine wpAnyH_done (by kernel_rfl) ?_ _
            go_wp2_with fail
            go_meet
            exact ⟨_, _, _, _, rfl, HN4, (KO6.sel [0, 1, 2] 99 (by decide) (by decide))⟩
          · skip
            go_simp
            have KO7 := KO3.al [.slice none 0 0] 24
            have HG := Lib.hid (HF.out _ (KO7.sel [5] 99 (by decide) (by decide)))
            refine hK'.out _ _ HG.out (fun hHeld2 => ?_)
            clear hK' K hHeld
            have hHeld := hHeld2
            clear hHeld2
            try simp only [Act.put, List.setIfInBounds_toArray]
            generalize wo3.alloc (.cells #[.slice none 0 0] 24) = wo7 at KO7 hHeld ⊢
            obtain ⟨gg7, hgg7⟩ : ∃ g, wo3.heap.size = g := ⟨_, rfl⟩
            rw [hgg7] at KO7 ⊢
            clear hgg7
            refine wpAnyH_ready (rs := [5]) (by kernel_rfl) (by decide) (AllReadyH.cons (o := _) rfl (fun K hK' => ?_) AllReadyH.nil)
            have KO8 := (KO7.sel [1, 3, 4, 2, 0, 5] 99 (by decide) (by decide))
            refine kn_stepE (by rfl) _ _ (by rfl) _ M1 ⟨x, X2, xc2⟩ (by rfl) (by rfl) KO8 (by have h1 := congrArg List.length HMT1; rw [List.length_map] at h1; omega) ?_
            clear KO8
            intro v' wo8 KO8
            obtain ⟨N8, HN8⟩ : ∃ N, M1 ++ [(⟨x, X2, xc2⟩ : EE)] = N := ⟨_, rfl⟩
            rw [HN8] at KO8
            try rw [HN8]
            obtain ⟨Z8, zc8, rfl⟩ := row_form KO8.at0
            have HN8 : N8.map EE.t = L ++ [x] := by rw [← HN8, List.map_append, HMT1]; rfl
            have HG := Lib.hid (HF.out _ (KO8.sel [3] 99 (by decide) (by decide)))
            refine hK'.out _ _ HG.out (fun hHeld2 => ?_)
            clear hK' K hHeld
            have hHeld := hHeld2
            clear hHeld2
            try simp only [Act.put, List.setIfInBounds_toArray]
            refine wpAnyH_ready (rs := [7]) (by kernel_rfl) (by decide) (AllReadyH.cons (o := _) rfl (fun K hK' => ?_) AllReadyH.nil)
            obtain ⟨s1, s2, s3, -⟩ := (KO8.front 2 rfl).cells
            have KO9 := ((KO8.front 2 rfl).st 0 (.slice Z8 N8.length zc8))
            go_simp
            clear s1 s2 s3
            have HG := Lib.hid (HF.out _ (KO9.sel [3] 99 (by decide) (by decide)))
            refine hK'.out _ _ HG.out (fun hHeld2 => ?_)
            clear hK' K hHeld
            have hHeld := hHeld2
            clear hHeld2
            try simp only [Act.put, List.setIfInBounds_toArray]
            refine wpAnyH_done (by kernel_rfl) ?_ _
            go_wp2_with fail
            go_meet
            exact ⟨_, _, _, _, rfl, HN8, (KO9.sel [0, 1, 2] 99 (by decide) (by decide))⟩
        · skip
          go_simp
          have KO10 := KO2.al [.slice none 0 0] 24
          have HG := Lib.hid (HF.out _ (KO10.sel [4] 99 (by decide) (by decide)))
          refine hK'.out _ _ HG.out (fun hHeld2 => ?_)
          clear hK' K hHeld
          have hHeld := hHeld2
          clear hHeld2
          try simp only [Act.put, List.setIfInBounds_toArray]
          generalize wo2.alloc (.cells #[.slice none 0 0] 24) = wo10 at KO10 hHeld ⊢
          obtain ⟨gg10, hgg10⟩ : ∃ g, wo2.heap.size = g := ⟨_, rfl⟩
          rw [hgg10] at KO10 ⊢
          clear hgg10
          refine wpAnyH_ready (rs := [4]) (by kernel_rfl) (by decide) (AllReadyH.cons (o := _) rfl (fun K hK' => ?_) AllReadyH.nil)
          go_simp
          have KO11 := KO10.al [.int .i64 x.num, .string x.name, .string x.maker, .int .i64 x.year, .slice X2 x.words.length xc2] 27
          have HG := Lib.hid (HF.out _ (KO11.sel [5] 99 (by decide) (by decide)))
          refine hK'.out _ _ HG.out (fun hHeld2 => ?_)
          clear hK' K hHeld
          have hHeld := hHeld2
          clear hHeld2
          try simp only [Act.put, List.setIfInBounds_toArray]
          generalize wo10.alloc (.cells #[.int .i64 x.num, .string x.name, .string x.maker, .int .i64 x.year, .slice X2 x.words.length xc2] 27) = wo11 at KO11 hHeld ⊢
          obtain ⟨ge11, hge11⟩ : ∃ g, wo10.heap.size = g := ⟨_, rfl⟩
          rw [hge11] at KO11 ⊢
          clear hge11
          refine wpAnyH_ready (rs := [5]) (by kernel_rfl) (by decide) (AllReadyH.cons (o := _) rfl (fun K hK' => ?_) AllReadyH.nil)
          have KO12 := (KO11.sel [0, 3, 4, 2, 1, 5] 99 (by decide) (by decide))
          refine kn_stepE (by rfl) _ _ (by rfl) _ M1 ⟨x, X2, xc2⟩ (by rfl) (by rfl) KO12 (by have h1 := congrArg List.length HMT1; rw [List.length_map] at h1; omega) ?_
          clear KO12
          intro v' wo12 KO12
          obtain ⟨N12, HN12⟩ : ∃ N, M1 ++ [(⟨x, X2, xc2⟩ : EE)] = N := ⟨_, rfl⟩
          rw [HN12] at KO12
          try rw [HN12]
          obtain ⟨Z12, zc12, rfl⟩ := row_form KO12.at0
          have HN12 : N12.map EE.t = L ++ [x] := by rw [← HN12, List.map_append, HMT1]; rfl
          have HG := Lib.hid (HF.out _ (KO12.sel [3] 99 (by decide) (by decide)))
          refine hK'.out _ _ HG.out (fun hHeld2 => ?_)
          clear hK' K hHeld
          have hHeld := hHeld2
          clear hHeld2
          try simp only [Act.put, List.setIfInBounds_toArray]
          refine wpAnyH_ready (rs := [7]) (by kernel_rfl) (by decide) (AllReadyH.cons (o := _) rfl (fun K hK' => ?_) AllReadyH.nil)
          obtain ⟨s1, s2, s3, -⟩ := (KO12.front 2 rfl).cells
          have KO13 := ((KO12.front 2 rfl).st 0 (.slice Z12 N12.length zc12))
          go_simp
          clear s1 s2 s3
          have HG := Lib.hid (HF.out _ (KO13.sel [3] 99 (by decide) (by decide)))
          refine hK'.out _ _ HG.out (fun hHeld2 => ?_)
          clear hK' K hHeld
          have hHeld := hHeld2
          clear hHeld2
          try simp only [Act.put, List.setIfInBounds_toArray]
          refine wpAnyH_done (by kernel_rfl) ?_ _
          go_wp2_with fail
          go_meet
          exact ⟨_, _, _, _, rfl, HN12, (KO13.sel [0, 1, 2] 99 (by decide) (by decide))⟩
      · skip
        go_simp
        have KO14 := KO1.al [.slice none 0 0] 24
        have HG := Lib.hid (HF.out _ (KO14.sel [3] 99 (by decide) (by decide)))
        refine hK'.out _ _ HG.out (fun hHeld2 => ?_)
        clear hK' K hHeld
        have hHeld := hHeld2
        clear hHeld2
        try simp only [Act.put, List.setIfInBounds_toArray]
        generalize wo1.alloc (.cells #[.slice none 0 0] 24) = wo14 at KO14 hHeld ⊢
        obtain ⟨gg14, hgg14⟩ : ∃ g, wo1.heap.size = g := ⟨_, rfl⟩
        rw [hgg14] at KO14 ⊢
        clear hgg14
        refine wpAnyH_ready (rs := [3]) (by kernel_rfl) (by decide) (AllReadyH.cons (o := _) rfl (fun K hK' => ?_) AllReadyH.nil)
        go_simp
        go_at_call 65
        refine (KD.out _ KO14.below).mono ?_
        rintro e wo15 ⟨X15, xc15, rfl, hK⟩
        have KO15 := KO14.join hK
        clear hK
        have HG := Lib.hid (HF.out _ (KO15.sel [4] 99 (by decide) (by decide)))
        refine hK'.out _ _ HG.out (fun hHeld2 => ?_)
        clear hK' K hHeld
        have hHeld := hHeld2
        clear hHeld2
        try simp only [Act.put, List.setIfInBounds_toArray]
        refine wpAnyH_ready (rs := [4]) (by kernel_rfl) (by decide) (AllReadyH.cons (o := _) rfl (fun K hK' => ?_) AllReadyH.nil)
        go_simp
        have KO16 := KO15.al [.int .i64 x.num, .string x.name, .string x.maker, .int .i64 x.year, .slice X15 x.words.length xc15] 27
        have HG := Lib.hid (HF.out _ (KO16.sel [5] 99 (by decide) (by decide)))
        refine hK'.out _ _ HG.out (fun hHeld2 => ?_)
        clear hK' K hHeld
        have hHeld := hHeld2
        clear hHeld2
        try simp only [Act.put, List.setIfInBounds_toArray]
        generalize wo15.alloc (.cells #[.int .i64 x.num, .string x.name, .string x.maker, .int .i64 x.year, .slice X15 x.words.length xc15] 27) = wo16 at KO16 hHeld ⊢
        obtain ⟨ge16, hge16⟩ : ∃ g, wo15.heap.size = g := ⟨_, rfl⟩
        rw [hge16] at KO16 ⊢
        clear hge16
        refine wpAnyH_ready (rs := [5]) (by kernel_rfl) (by decide) (AllReadyH.cons (o := _) rfl (fun K hK' => ?_) AllReadyH.nil)
        have KO17 := (KO16.sel [0, 3, 4, 1, 2, 5] 99 (by decide) (by decide))
        refine kn_stepE (by rfl) _ _ (by rfl) _ M1 ⟨x, X15, xc15⟩ (by rfl) (by rfl) KO17 (by have h1 := congrArg List.length HMT1; rw [List.length_map] at h1; omega) ?_
        clear KO17
        intro v' wo17 KO17
        obtain ⟨N17, HN17⟩ : ∃ N, M1 ++ [(⟨x, X15, xc15⟩ : EE)] = N := ⟨_, rfl⟩
        rw [HN17] at KO17
        try rw [HN17]
        obtain ⟨Z17, zc17, rfl⟩ := row_form KO17.at0
        have HN17 : N17.map EE.t = L ++ [x] := by rw [← HN17, List.map_append, HMT1]; rfl
        have HG := Lib.hid (HF.out _ (KO17.sel [3] 99 (by decide) (by decide)))
        refine hK'.out _ _ HG.out (fun hHeld2 => ?_)
        clear hK' K hHeld
        have hHeld := hHeld2
        clear hHeld2
        try simp only [Act.put, List.setIfInBounds_toArray]
        refine wpAnyH_ready (rs := [7]) (by kernel_rfl) (by decide) (AllReadyH.cons (o := _) rfl (fun K hK' => ?_) AllReadyH.nil)
        obtain ⟨s1, s2, s3, -⟩ := (KO17.front 2 rfl).cells
        have KO18 := ((KO17.front 2 rfl).st 0 (.slice Z17 N17.length zc17))
        go_simp
        clear s1 s2 s3
        have HG := Lib.hid (HF.out _ (KO18.sel [3] 99 (by decide) (by decide)))
        refine hK'.out _ _ HG.out (fun hHeld2 => ?_)
        clear hK' K hHeld
        have hHeld := hHeld2
        clear hHeld2
        try simp only [Act.put, List.setIfInBounds_toArray]
        refine wpAnyH_done (by kernel_rfl) ?_ _
        go_wp2_with fail
        go_meet
        exact ⟨_, _, _, _, rfl, HN17, (KO18.sel [0, 1, 2] 99 (by decide) (by decide))⟩
    · skip
      go_simp
      have KO19 := hKd.al [.slice none 0 0] 24
      have HG := Lib.hid (HF.out _ (KO19.sel [1] 99 (by decide) (by decide)))
      refine hK'.out _ _ HG.out (fun hHeld2 => ?_)
      clear hK' K hHeld
      have hHeld := hHeld2
      clear hHeld2
      try simp only [Act.put, List.setIfInBounds_toArray]
      generalize wd.alloc (.cells #[.slice none 0 0] 24) = wo19 at KO19 hHeld ⊢
      obtain ⟨gg19, hgg19⟩ : ∃ g, wd.heap.size = g := ⟨_, rfl⟩
      rw [hgg19] at KO19 ⊢
      clear hgg19
      refine wpAnyH_ready (rs := [1]) (by kernel_rfl) (by decide) (AllReadyH.cons (o := _) rfl (fun K hK' => ?_) AllReadyH.nil)
      go_simp
      go_at_call 64
      refine (KC.out _ KO19.below).mono ?_
      rintro e wo20 ⟨Y20, yc20, M20, rfl, HMT20, hK⟩
      have KO20 := KO19.join hK
      clear hK
      have HG := Lib.hid (HF.out _ (KO20.sel [3] 99 (by decide) (by decide)))
      refine hK'.out _ _ HG.out (fun hHeld2 => ?_)
      clear hK' K hHeld
      have hHeld := hHeld2
      clear hHeld2
      try simp only [Act.put, List.setIfInBounds_toArray]
      refine wpAnyH_ready (rs := [3]) (by kernel_rfl) (by decide) (AllReadyH.cons (o := _) rfl (fun K hK' => ?_) AllReadyH.nil)
      go_simp
      go_at_call 65
      refine (KD.out _ KO20.below).mono ?_
      rintro e wo21 ⟨X21, xc21, rfl, hK⟩
      have KO21 := KO20.join hK
      clear hK
      have HG := Lib.hid (HF.out _ (KO21.sel [4] 99 (by decide) (by decide)))
      refine hK'.out _ _ HG.out (fun hHeld2 => ?_)
      clear hK' K hHeld
      have hHeld := hHeld2
      clear hHeld2
      try simp only [Act.put, List.setIfInBounds_toArray]
      refine wpAnyH_ready (rs := [4]) (by kernel_rfl) (by decide) (AllReadyH.cons (o := _) rfl (fun K hK' => ?_) AllReadyH.nil)
      go_simp
      have KO22 := KO21.al [.int .i64 x.num, .string x.name, .string x.maker, .int .i64 x.year, .slice X21 x.words.length xc21] 27
      have HG := Lib.hid (HF.out _ (KO22.sel [5] 99 (by decide) (by decide)))
      refine hK'.out _ _ HG.out (fun hHeld2 => ?_)
      clear hK' K hHeld
      have hHeld := hHeld2
      clear hHeld2
      try simp only [Act.put, List.setIfInBounds_toArray]
      generalize wo21.alloc (.cells #[.int .i64 x.num, .string x.name, .string x.maker, .int .i64 x.year, .slice X21 x.words.length xc21] 27) = wo22 at KO22 hHeld ⊢
      obtain ⟨ge22, hge22⟩ : ∃ g, wo21.heap.size = g := ⟨_, rfl⟩
      rw [hge22] at KO22 ⊢
      clear hge22
      refine wpAnyH_ready (rs := [5]) (by kernel_rfl) (by decide) (AllReadyH.cons (o := _) rfl (fun K hK' => ?_) AllReadyH.nil)
      have KO23 := (KO22.sel [0, 2, 3, 1, 4, 5] 99 (by decide) (by decide))
      refine kn_stepE (by rfl) _ _ (by rfl) _ M20 ⟨x, X21, xc21⟩ (by rfl) (by rfl) KO23 (by have h1 := congrArg List.length HMT20; rw [List.length_map] at h1; omega) ?_
      clear KO23
      intro v' wo23 KO23
      obtain ⟨N23, HN23⟩ : ∃ N, M20 ++ [(⟨x, X21, xc21⟩ : EE)] = N := ⟨_, rfl⟩
      rw [HN23] at KO23
      try rw [HN23]
      obtain ⟨Z23, zc23, rfl⟩ := row_form KO23.at0
      have HN23 : N23.map EE.t = L ++ [x] := by rw [← HN23, List.map_append, HMT20]; rfl
      have HG := Lib.hid (HF.out _ (KO23.sel [3] 99 (by decide) (by decide)))
      refine hK'.out _ _ HG.out (fun hHeld2 => ?_)
      clear hK' K hHeld
      have hHeld := hHeld2
      clear hHeld2
      try simp only [Act.put, List.setIfInBounds_toArray]
      refine wpAnyH_ready (rs := [7]) (by kernel_rfl) (by decide) (AllReadyH.cons (o := _) rfl (fun K hK' => ?_) AllReadyH.nil)
      obtain ⟨s1, s2, s3, -⟩ := (KO23.front 2 rfl).cells
      have KO24 := ((KO23.front 2 rfl).st 0 (.slice Z23 N23.length zc23))
      go_simp
      clear s1 s2 s3
      have HG := Lib.hid (HF.out _ (KO24.sel [3] 99 (by decide) (by decide)))
      refine hK'.out _ _ HG.out (fun hHeld2 => ?_)
      clear hK' K hHeld
      have hHeld := hHeld2
      clear hHeld2
      try simp only [Act.put, List.setIfInBounds_toArray]
      refine wpAnyH_done (by kernel_rfl) ?_ _
      go_wp2_with fail
      go_meet
      exact ⟨_, _, _, _, rfl, HN23, (KO24.sel [0, 1, 2] 99 (by decide) (by decide))⟩
  case rest =>
    obtain ⟨g6, Y, y, M, rfl, hMT, K5⟩ := hcut
    clear HF HG hKd K4 KC KD
    have hML : M.length = n + 1 := by have := congrArg List.length hMT; rw [List.length_map, List.length_append] at this; have := HLN.out; simp at *; omega
    obtain ⟨gY, yc, hY⟩ := Kn.rowForm (K5.front 1 rfl) (show 0 < M.length by omega)
    injection hY with hY hY2 hY3
    subst hY
    subst hY3
    have K5 := K5.sel [0, 1, 2] 3 (by decide) (by decide)
    have KS := Lib.hid (sort_kn K5 (by omega) (by omega))
    have HMT := Lib.hid hMT
    obtain ⟨a1, a2, a3⟩ := K5.blkAt
    clear hMT
    have HML := Lib.hid hML
    clear hML
    go_wp2_with fail
    refine KS.out.mono ?_; rintro e w6 ⟨rfl, M', hperm, hsort, K6⟩
    have HP1 := Lib.hid (HP.out (M'.map EE.t) (by have := hperm.map EE.t; rw [HMT.out] at this; exact this) (by
      rw [List.pairwise_map]
      refine hsort.imp (fun {a b} h => ?_)
      unfold ltE at h
      rw [decide_eq_false_iff_not] at h
      omega))
    have HL2 := Lib.hid hperm.length_eq
    clear hperm hsort K5 KS a1 a2 a3
    obtain ⟨a1, a2, a3⟩ := K6.blkAt
    go_wp2_with fail
    go_ret2
    refine ⟨_, _, M', by rw [HL2.out]; rfl, HP1.out.symm, ?_⟩
    rw [HL2.out]
    exact K6.sel [1, 2] 99 (by decide) (by decide)
end Go.Proofs.YtgljafiegpjlkaaGreatDoor
