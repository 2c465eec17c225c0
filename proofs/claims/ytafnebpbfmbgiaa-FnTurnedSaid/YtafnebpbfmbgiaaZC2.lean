/- Part 2: lemmas and contracts of the claim's functions. -/
import Derived.Test.YtafnebpbfmbgiaaZC1
import Derived.Deep.DeepCutAuto
import Derived.Deep.RegionHeld3
namespace Go.Proofs.Ytafnebpbfmbgiaa
open Go.RowKit Go.Sort
/-- w with its first n blocks alone -/
def trunc (w : World) (n : Nat) : World := { w with heap := w.heap.extract 0 n }
theorem trunc_size {w : World} {n : Nat} (h : n ≤ w.heap.size) : (trunc w n).heap.size = n := by
  simp only [trunc, Array.size_extract]; omega
theorem trunc_get {w : World} {n k : Nat} (h : n ≤ w.heap.size) (hk : k < n) : (trunc w n).heap[k]? = w.heap[k]? := by
  simp only [trunc, Array.getElem?_extract, Nat.sub_zero, Nat.zero_add]
  rw [if_pos (by omega)]
theorem trunc_below {w : World} {n : Nat} (h : n ≤ w.heap.size) : Below (trunc w n).heap.size (trunc w n) w := by
  rw [trunc_size h]
  exact ⟨rfl, rfl, rfl, by rw [trunc_size h]; exact h, fun k hk => (trunc_get h hk).symm⟩
/-- v is w with block b turned -/
def Tw (b : Nat) (w v : World) : Prop := w.grownBy v (some b) ∧ v.heap.size = w.heap.size
theorem Tw.refl (b : Nat) (w : World) : Tw b w w := ⟨gRefl w _, rfl⟩
theorem Tw.of {b : Nat} {w w' : World} (h : w.grownBy w' (some b)) : Tw b w (trunc w' w.heap.size) :=
  ⟨⟨h.os, h.tape, h.output, by rw [trunc_size h.size]; exact Nat.le_refl _, fun k hk hne => (trunc_get h.size hk).trans (h.block k hk hne)⟩, trunc_size h.size⟩
theorem Src.trunc {b N : Nat} {w : World} {n : Nat} (h : Src w b N) (hb : b < n) (hn : n ≤ w.heap.size) : Src (trunc w n) b N := by
  obtain ⟨A, m, c, k, seed, bs, c0, c1, c2, f1, f2, hB, hkN, hm, hne, hlt⟩ := h
  have hbl : ∀ k, k ≤ b → (Go.Proofs.Ytafnebpbfmbgiaa.trunc w n).heap[k]? = w.heap[k]? := fun k hk => trunc_get hn (by omega)
  have hcell : ∀ o, (Go.Proofs.Ytafnebpbfmbgiaa.trunc w n).cell? ⟨b, o, none⟩ = w.cell? ⟨b, o, none⟩ := fun o => World.cell?_of_block (hbl b (Nat.le_refl _))
  have hfz : ∀ o, (Go.Proofs.Ytafnebpbfmbgiaa.trunc w n).frozen? ⟨b, o, none⟩ = w.frozen? ⟨b, o, none⟩ := fun o => World.frozen?_of_block (hbl b (Nat.le_refl _))
  refine ⟨A, m, c, k, seed, bs, by rw [hcell]; exact c0, by rw [hcell]; exact c1, by rw [hcell]; exact c2, by rw [hfz]; exact f1, by rw [hfz]; exact f2, ⟨hB.1, fun h0 => ?_⟩, hkN, hm, hne, by rw [trunc_size hn]; exact hb⟩
  obtain ⟨ad, e, hl, hc⟩ := hB.2 h0
  have hab := hne h0 ad e
  refine ⟨ad, e, by rw [trunc_size hn]; omega, fun j u hu => ?_⟩
  rw [World.cell?_of_block (w := w) (by rw [block_of_add]; exact hbl _ (by omega))]
  exact hc j u hu
/-- what a draw leaves: the source's block is turned, and the call owns the things of m -/
def DR (b N : Nat) (w : World) (m : List Ent) (w' : World) : Prop := ∃ v, Tw b w v ∧ Src v b N ∧ Kn v m w'
theorem DR.src {b N : Nat} {w : World} {m : List Ent} {w' : World} (h : DR b N w m w') : Src w' b N := by
  obtain ⟨v, -, hS, hK⟩ := h
  exact hS.below hK.below
theorem DR.of {b N : Nat} {w w' : World} (hs : Src w' b N) (hg : w.grownBy w' (some b)) (hb : b < w.heap.size) : DR b N w [] w' :=
  ⟨_, Tw.of hg, hs.trunc hb hg.size, (Kn.nil _).keep (trunc_below hg.size)⟩
theorem DR.nil {b N : Nat} {w : World} (hs : Src w b N) : DR b N w [] w := ⟨w, Tw.refl b w, hs, Kn.nil w⟩
theorem DR.mono {b N M : Nat} {w w' : World} {m : List Ent} (h : DR b N w m w') (hm : N ≤ M) : DR b M w m w' := by
  obtain ⟨v, hT, hS, hK⟩ := h
  exact ⟨v, hT, hS.mono hm, hK⟩
theorem DR.kn {b N : Nat} {w w' : World} {m m' : List Ent} (h : DR b N w m w') {w2 : World} (f : ∀ v, Kn v m w' → Kn v m' w2) : DR b N w m' w2 := by
  obtain ⟨v, hT, hS, hK⟩ := h
  exact ⟨v, hT, hS, f v hK⟩
theorem Kn.tw {b : Nat} {w v : World} {m : List Ent} {wi wi' : World} (hT : Tw b w v) (hK : Kn v m wi) (hb : b < w.heap.size) (hg : wi.grownBy wi' (some b)) : Tw b w (trunc wi' w.heap.size) ∧ Kn (trunc wi' w.heap.size) m wi' := by
  have hs : w.heap.size ≤ wi.heap.size := by have := hK.size; rw [hT.2] at this; exact this
  have hs' : w.heap.size ≤ wi'.heap.size := Nat.le_trans hs hg.size
  have hbw := hK.below
  refine ⟨⟨⟨hg.os.trans (hbw.os.trans hT.1.os), hg.tape.trans (hbw.tape.trans hT.1.tape), hg.output.trans (hbw.output.trans hT.1.output), by rw [trunc_size hs']; exact Nat.le_refl _, fun k hk hne => ?_⟩, trunc_size hs'⟩, trunc_below hs', fun e he => ?_, fun e he k hk => ?_, hK.apart⟩
  · rw [trunc_get hs' hk, hg.block k (by omega) hne, hbw.block k (by rw [hT.2]; exact hk)]
    exact hT.1.block k hk hne
  · refine Ent.stable (hK.ents e he) hg.size (fun k hk => hg.block k (Ent.lt (hK.ents e he) hk) (fun h2 => ?_))
    have h3 := hK.own e he k hk
    rw [hT.2] at h3
    injection h2 with h2
    omega
  · rw [trunc_size hs']
    have h3 := hK.own e he k hk
    rw [hT.2] at h3
    exact h3
theorem Tw.grown {b : Nat} {w v : World} (h : Tw b w v) : w.grownBy v (some b) := h.1
/-- one draw behind another -/
theorem DR.join {b N M : Nat} {w wi w' : World} {m m' : List Ent} (h : DR b N w m wi) (h1 : DR b M wi m' w') (hb : b < w.heap.size) : DR b M w (m' ++ m) w' := by
  obtain ⟨v, hT, hS, hK⟩ := h
  obtain ⟨v1, hT1, hS1, hK1⟩ := h1
  have hs : w.heap.size ≤ wi.heap.size := by have := hK.size; rw [hT.2] at this; exact this
  have hs1 : w.heap.size ≤ v1.heap.size := by rw [hT1.2]; exact hs
  obtain ⟨h2, h3⟩ := hK.tw hT hb hT1.1
  exact ⟨_, h2, hS1.trunc hb hs1, h3.join hK1⟩
/-- a source of the call's own -/
theorem Kn.ofDR {w w1 w2 : World} {b N : Nat} {m : List Ent} (hb : Below w.heap.size w w1) (hlo : w.heap.size ≤ b) (h : DR b N w1 m w2) : Kn w m w2 := by
  obtain ⟨v, hT, -, hK⟩ := h
  exact hK.mono (belowG hb hT.1 hlo hb.size)
theorem pick_dr (b N : Nat) (n : Int) (w : World) (h : Src w b N) (hN : N ≤ 999999) :
    Calls Try.prog 38 #[.pointer (some ⟨b, 0, none⟩), .int .i64 n] w fun e w' => ∃ x : Int, e = .returned (.int .i64 x) ∧ (0 ≤ x ∧ (x < n ∨ (n ≤ 1 ∧ x = 0))) ∧ DR b (N + 2) w [] w' := by
  refine (pick_any b N n w h hN).mono ?_
  rintro e w' ⟨x, rfl, h0, h1, hs, hg⟩
  exact ⟨x, rfl, ⟨h0, h1⟩, .of hs hg h.lt⟩
theorem one_dr (b N : Nat) (n : Int) (w : World) (h : Src w b N) (hN : N ≤ 999999) :
    Calls Try.prog 37 #[.pointer (some ⟨b, 0, none⟩), .int .i64 n] w fun e w' => ∃ x : Bool, e = .returned (.bool x) ∧ DR b (N + 2) w [] w' := by
  refine (one_any b N n w h hN).mono ?_
  rintro e w' ⟨x, rfl, hs, hg⟩
  exact ⟨x, rfl, .of hs hg h.lt⟩
theorem among_dr (b N : Nat) (A : Option Addr) (n c : Nat) (ds : List Int) (w : World) (h : Src w b N) (hN : N ≤ 999999) (hr : RI w A n ds) (hA : ∀ ad, A = some ad → ad.block ≠ b) (hn0 : 0 < n) (hn : n ≤ 1000000) :
    Calls Try.prog 52 #[.pointer (some ⟨b, 0, none⟩), .slice A n c] w fun e w' => ∃ x : Int, e = .returned (.int .i64 x) ∧ x ∈ ds ∧ DR b (N + 2) w [] w' := by
  refine (among_any b N A n c ds w h hN hr hA hn0 hn).mono ?_
  rintro e w' ⟨x, rfl, hx, hs, hg⟩
  exact ⟨x, rfl, hx, .of hs hg h.lt⟩
theorem digits_dr (b N : Nat) (base : Int) (width : Nat) (w : World) (h : Src w b N) (hN : N + width * 4 ≤ 900000) (hb2 : 2 ≤ base) (hb16 : base ≤ 1000) (hw : width ≤ 1000) :
    Calls Try.prog 39 #[.pointer (some ⟨b, 0, none⟩), .int .i64 base, .int .i64 width] w fun e w' => ∃ A c ds, e = .returned (.slice A width c) ∧ ds.length = width ∧ (∀ d ∈ ds, 0 ≤ d ∧ d < base) ∧ DR b (N + width * 4) w [rowI A c ds] w' := by
  refine (l02DrawDigits_any b N base width w h hN hb2 hb16 hw).mono ?_
  rintro e w' ⟨A, c, ds, rfl, ho, hl, hd, hs, hg⟩
  refine ⟨A, c, ds, rfl, hl, hd, _, Tw.of hg, hs.trunc h.lt hg.size, ?_⟩
  have hk := (Kn.nil (trunc w' w.heap.size)).addI (trunc_below hg.size) (by rw [trunc_size hg.size]; exact ho)
  rw [← hl] at hk
  exact hk
end Go.Proofs.Ytafnebpbfmbgiaa

namespace Go.Proofs.Ytafnebpbfmbgiaa
open Go.RowKit Go.Sort
section
variable {b N : Nat} {w wi : World} {m : List Ent}
theorem DR.al (h : DR b N w m wi) (l : List Value) (T : TypeId) : DR b N w (.blk wi.heap.size l T :: m) (wi.alloc (.cells l.toArray T)) := h.kn (fun _ hK => hK.al l T)
theorem DR.al_ (h : DR b N w m wi) (o : Obj) : DR b N w m (wi.alloc o) := h.kn (fun _ hK => hK.al_ o)
theorem DR.st {g : Nat} {l : List Value} {T : TypeId} (h : DR b N w (.blk g l T :: m) wi) (j : Nat) (v : Value) : DR b N w (.blk g (l.set j v) T :: m) (wi.setCell ⟨g, j, none⟩ v) := h.kn (fun _ hK => hK.st j v)
theorem DR.drew (h : DR b N w m wi) : DR b N w m wi.drew := h.kn (fun _ hK => hK.drew)
theorem DR.front (h : DR b N w m wi) (i : Nat) {e : Ent} (hi : m[i]? = some e) : DR b N w (e :: m.eraseIdx i) wi := h.kn (fun _ hK => hK.front i hi)
theorem DR.sel (h : DR b N w m wi) (is : List Nat) (n : Nat) (h1 : is.Nodup) (h2 : ∀ i ∈ is, i < n) : DR b N w (is.filterMap (fun i => m[i]?) ++ m.drop n) wi := h.kn (fun _ hK => hK.sel is n h1 h2)
theorem DR.cells (h : DR b N w m wi) : Cells m wi := by
  obtain ⟨v, -, -, hK⟩ := h
  exact hK.cells
theorem DR.lt (h : DR b N w m wi) : b < w.heap.size := by
  obtain ⟨v, hT, hS, -⟩ := h
  have := hS.lt
  rw [hT.2] at this
  exact this
theorem DR.add (h : DR b N w m wi) {M : Nat} {w' : World} {m' : List Ent} (h1 : DR b M wi m' w') : DR b M w (m' ++ m) w' := h.join h1 h.lt
theorem DR.keep (h : DR b N w m wi) {w' : World} (hb : Below wi.heap.size wi w') : DR b N w m w' := h.kn (fun _ hK => hK.keep hb)
theorem DR.box2 {g : Nat} {v0 v1 : Value} {T : TypeId} (h : DR b N w (.blk g [v0, v1] T :: m) wi) : wi.cell? ⟨g, 0, none⟩ = some v0 ∧ wi.cell? ⟨g, 1, none⟩ = some v1 := by
  obtain ⟨v, -, -, hK⟩ := h
  exact Go.Proofs.Ytafnebpbfmbgiaa.box2 hK
theorem Calls.dr {P : Program} {f : FuncId} {args : Array Value} {R : Ending → World → Prop} (h : DR b N w m wi) (k : ∀ W, DR b N w m W → Calls P f args W R) : Calls P f args wi R := k wi h
theorem Code.wp.dr {P : Program} {c : Code} {Q : Exit → Act → World → Prop} {a : Act} (h : DR b N w m wi) (k : ∀ W, DR b N w m W → c.wp P Q a W) : c.wp P Q a wi := k wi h
theorem bodyPost.dr {P : Program} {f : Func} {R : Ending → World → Prop} {x : Exit} {a : Act} (h : DR b N w m wi) (k : ∀ W, DR b N w m W → bodyPost P f R x a W) : bodyPost P f R x a wi := k wi h
end
theorem DR.lit {b N : Nat} {w wi : World} {m : List Ent} {g : Nat} {ds : List Int} (h : DR b N w (.blk g (ds.map (Value.int .i64)) 2 :: m) wi) (hd : ds.length ≤ 1000) :
    RI wi (some ⟨g, 0, none⟩) ds.length ds ∧ (∀ ad, some (⟨g, 0, none⟩ : Addr) = some ad → ad.block ≠ b) := by
  obtain ⟨v, -, hS, hK⟩ := h
  have hb := hS.lt
  have ho := hK.own _ (List.mem_cons_self ..) g rfl
  have hr : Kn v (rowI (some ⟨g, 0, none⟩) ds.length ds :: m) wi := hK.litRow (size := 1) (n := ds.length) (by simp) (by unfold maxLen; omega)
  refine ⟨Kn.riv hr, fun ad he => ?_⟩
  injection he with he
  subst he
  show g ≠ b
  omega
set_option maxHeartbeats 800000 in
theorem l02Most_any (x : Int) (w : World) : Calls Try.prog 101 #[.int .i64 x] w fun e w' => (∃ k : Nat, e = .returned (.int .i64 (k : Int)) ∧ 1 ≤ k ∧ k ≤ 16) ∧ w = w' := by
  go_enter Try.func101, Try.ntmps101
  go_wp2_with fail
  go_loopw [3, 4] (fun nn pp wr => ∃ (k : Nat) (p : Int), nn = .int .i64 (k : Int) ∧ 1 ≤ k ∧ k ≤ 16 ∧ pp = .int .i64 p ∧ w = wr) (fun nn _ _ => 16 - (intOf nn).toNat)
  case atStart => exact ⟨1, _, rfl, by omega, by omega, rfl, rfl⟩
  case round =>
    obtain ⟨k, p, rfl, k1, k2, rfl, rfl⟩ := hrel
    obtain ⟨q, hq⟩ : ∃ q, IntKind.i64.wrap (p - 1) = q := ⟨_, rfl⟩
    by_cases hc : q ≤ 1000000000000
    · by_cases hk : k < 16
      · have hk2 : (k : Int) < 16 := by omega
        go_wp2_with fail
        go_roundw
        case rel => exact ⟨k + 1, _, by go_num, by omega, by omega, rfl, by first | exact trivial | rfl⟩
        case measure => simp [intOf]; omega
      · have hk2 : ¬ (k : Int) < 16 := by omega
        go_wp2_with fail
        go_ret
        exact ⟨⟨k, rfl, k1, k2⟩, rfl⟩
    · go_wp2_with fail
      go_ret
      exact ⟨⟨k, rfl, k1, k2⟩, rfl⟩
end Go.Proofs.Ytafnebpbfmbgiaa

namespace Go.Proofs.Ytafnebpbfmbgiaa
open Go.RowKit Go.Sort
structure Ins where
  op : Int
  arg : Int
deriving DecidableEq
def InsM (w : World) (p : Addr) (x : Ins) : Prop := w.cell? p = some (.int .i64 x.op) ∧ w.cell? ⟨p.block, p.off + 1, none⟩ = some (.int .i64 x.arg)
theorem steady_InsM : Steady InsM := by
  rintro w w' p f hp hb ⟨h1, h2⟩
  exact ⟨by rw [hb.cell hp]; exact h1, by rw [hb.cell (by exact hp)]; exact h2⟩
def instrOk (op arg : Int) : Bool := if op = 1 then betB arg 0 1000000000000 else if op = 2 ∨ op = 3 ∨ op = 4 ∨ op = 5 ∨ op = 8 then betB arg 1 100 else if op = 6 ∨ op = 7 ∨ op = 9 ∨ op = 10 then arg == 0 else false
def opens (op : Int) : Bool := op == 8 || op == 9
/-- how many loops are open behind an instruction; none where it does not fit -/
def depthStep (op d : Int) : Option Int := if op = 10 then (if d = 0 then none else some (d - 1)) else if opens op then (if d = 4 then none else some (d + 1)) else some d
def stepI (d : Option Int) (x : Ins) : Option Int := d.bind fun d => if instrOk x.op x.arg then depthStep x.op d else none
def progD (xs : List Ins) : Option Int := xs.foldl stepI (some 0)
def vprog (xs : List Ins) : Bool := decide (progD xs = some 0) && decide (xs.length ≤ 120)
theorem progD_succ {xs : List Ins} {k : Nat} (h : k < xs.length) : progD (xs.take (k + 1)) = stepI (progD (xs.take k)) xs[k] := by
  unfold progD; rw [List.take_succ_eq_append_getElem h, List.foldl_append]; rfl
theorem stepI_none (xs : List Ins) : xs.foldl stepI none = none := by
  induction xs with
  | nil => rfl
  | cons x xs ih => exact ih
theorem progD_none {xs : List Ins} {k : Nat} (h : progD (xs.take k) = none) : progD xs = none := by
  unfold progD at *
  rw [← List.take_append_drop k xs, List.foldl_append, h, stepI_none]
theorem depthStep_bd {op d e : Int} (h : depthStep op d = some e) (h0 : 0 ≤ d) (h4 : d ≤ 4) : 0 ≤ e ∧ e ≤ 4 := by
  unfold depthStep at h
  split at h
  · split at h
    · cases h
    · injection h with h; omega
  · split at h
    · split at h
      · cases h
      · injection h with h; omega
    · injection h with h; omega
theorem op_cases (op : Int) : op = 1 ∨ op = 2 ∨ op = 3 ∨ op = 4 ∨ op = 5 ∨ op = 6 ∨ op = 7 ∨ op = 8 ∨ op = 9 ∨ op = 10 ∨ (op < 1 ∨ 10 < op) := by omega
theorem op_else {op : Int} (h : op < 1 ∨ 10 < op) : (op == 1) = false ∧ (op == 2) = false ∧ (op == 3) = false ∧ (op == 4) = false ∧ (op == 5) = false ∧ (op == 6) = false ∧ (op == 7) = false ∧ (op == 8) = false ∧ (op == 9) = false ∧ (op == 10) = false := by
  simp only [beq_eq_false_iff_ne]; omega
theorem instrOk_else {op arg : Int} (h : op < 1 ∨ 10 < op) : instrOk op arg = false := by
  unfold instrOk; rw [if_neg (by omega), if_neg (by omega), if_neg (by omega)]
theorem betB_0 (arg : Int) : betB arg 0 0 = (arg == 0) := by rw [Bool.eq_iff_iff, betB_iff, beq_iff_eq]; omega
end Go.Proofs.Ytafnebpbfmbgiaa

namespace Go.Proofs.Ytafnebpbfmbgiaa
open Go.RowKit Go.Sort
end Go.Proofs.Ytafnebpbfmbgiaa

namespace Go.Proofs.Ytafnebpbfmbgiaa
open Go.RowKit Go.Sort
/-- a register's digits when a number is added, and whether it goes round -/
def shiftD (b : Int) (ds : List Int) (x : Int) : List Int := digD b ds.length (((valL b ds + x).tmod (pw b ds.length) + pw b ds.length).tmod (pw b ds.length))
def shiftB (b : Int) (ds : List Int) (x : Int) : Bool := decide (valL b ds + x < 0) || decide (pw b ds.length ≤ valL b ds + x)
theorem shiftD_len (b : Int) (ds : List Int) (x : Int) : (shiftD b ds x).length = ds.length := digD_len _ _ _
end Go.Proofs.Ytafnebpbfmbgiaa

namespace Go.Proofs.Ytafnebpbfmbgiaa
open Go.RowKit Go.Sort
theorem restD_succ (b : Int) (k : Nat) (v : Int) : restD b (k + 1) v = restD b k (v.tdiv b) := by
  induction k with
  | zero => rfl
  | succ k ih => rw [restD, ih]; rfl
theorem digD_cons (b : Int) (k : Nat) (v : Int) : digD b (k + 1) v = v.tmod b :: digD b k (v.tdiv b) := by
  induction k with
  | zero => rfl
  | succ k ih => rw [digD, ih, restD_succ]; rfl
theorem pw_succ (b : Int) (k : Nat) : pw b (k + 1) = pw b k * b := rfl
theorem valL_lt (b : Int) (hb : 2 ≤ b) (ds : List Int) (hd : ∀ d ∈ ds, 0 ≤ d ∧ d < b) : valL b ds < pw b ds.length := by
  induction ds with
  | nil => simp [valL, pw]
  | cons d ds ih =>
    have h1 := ih (fun x hx => hd x (List.mem_cons_of_mem _ hx))
    have h2 := (hd d (List.mem_cons_self ..)).2
    have h3 : valL b ds * b ≤ (pw b ds.length - 1) * b := Int.mul_le_mul_of_nonneg_right (by omega) (by omega)
    rw [List.length_cons, pw_succ]
    have h4 : (pw b ds.length - 1) * b = pw b ds.length * b - b := by rw [Int.sub_mul]; omega
    simp only [valL]
    omega
theorem valL_digD (b : Int) (hb : 2 ≤ b) : ∀ (k : Nat) (v : Int), 0 ≤ v → v < pw b k → v ≤ 1000000000000 → valL b (digD b k v) = v
  | 0, v, h0, h1, _ => by simp only [pw] at h1; simp [digD, valL]; omega
  | k + 1, v, h0, h1, h2 => by
    rw [digD_cons]
    have e1 : v.tdiv b = v / b := Int.tdiv_eq_ediv_of_nonneg h0
    have e2 : v.tmod b = v % b := Int.tmod_eq_emod_of_nonneg h0
    have h3 : 0 ≤ v / b := Int.ediv_nonneg h0 (by omega)
    have h4 : v / b < pw b k := by rw [pw_succ] at h1; exact Int.ediv_lt_of_lt_mul (by omega) h1
    have h5 : v / b ≤ v := Int.ediv_le_self b h0
    simp only [valL]
    rw [e1, e2, valL_digD b hb k (v / b) h3 h4 (by omega)]
    have h6 := Int.emod_add_mul_ediv v b
    have h7 : v / b * b + v % b = v := by rw [Int.mul_comm]; omega
    rw [h7]; omega
theorem digD_ok (b : Int) (hb : 2 ≤ b) : ∀ (k : Nat) (v : Int), 0 ≤ v → ∀ d ∈ digD b k v, 0 ≤ d ∧ d < b
  | 0, _, _, d, h => by simp [digD] at h
  | k + 1, v, h0, d, h => by
    rw [digD_cons] at h
    have e1 : v.tdiv b = v / b := Int.tdiv_eq_ediv_of_nonneg h0
    have e2 : v.tmod b = v % b := Int.tmod_eq_emod_of_nonneg h0
    rcases List.mem_cons.1 h with rfl | h
    · rw [e2]; exact ⟨Int.emod_nonneg _ (by omega), Int.emod_lt_of_pos _ (by omega)⟩
    · rw [e1] at h; exact digD_ok b hb k _ (Int.ediv_nonneg h0 (by omega)) d h
theorem digD_vreg (b : Int) (hb : 2 ≤ b) (hb2 : b ≤ 16) (k : Nat) (hk : 1 ≤ k) (hk2 : k ≤ 16) (v : Int) (h0 : 0 ≤ v) (h1 : v < pw b k) (h2 : v ≤ 1000000000000) : vreg b (digD b k v) = true := by
  rw [vreg_iff, digD_len, valL_digD b hb k v h0 h1 h2]
  exact ⟨⟨hb, hb2⟩, ⟨by omega, by omega⟩, digD_ok b hb k v h0, h2⟩
theorem digD_zero (b : Int) : ∀ k : Nat, digD b k 0 = List.replicate k 0
  | 0 => rfl
  | k + 1 => by rw [digD_cons, Int.zero_tdiv, Int.zero_tmod, digD_zero b k]; rfl
/-- the shifted digits are valid again -/
theorem shiftD_vreg (b : Int) (ds : List Int) (x : Int) (hv : vreg b ds = true) (hp : pw b ds.length ≤ 1000000000001) : vreg b (shiftD b ds x) = true := by
  obtain ⟨⟨b1, b2⟩, ⟨n1, n2⟩, -, -⟩ := vreg_iff.1 hv
  have hp1 := pw_pos b b1 ds.length
  have h1 := Int.tmod_lt_of_pos ((valL b ds + x).tmod (pw b ds.length) + pw b ds.length) (show 0 < pw b ds.length by omega)
  have h2 := Int.lt_tmod_of_pos (valL b ds + x) (show 0 < pw b ds.length by omega)
  exact digD_vreg b b1 b2 _ (by omega) (by omega) _ (Int.tmod_nonneg _ (by omega)) h1 (by omega)
end Go.Proofs.Ytafnebpbfmbgiaa

namespace Go.Proofs.Ytafnebpbfmbgiaa
open Go.RowKit Go.Sort
/-- a turn: the setting times the unit is added -/
def turnT (t : Tri) (sign : Int) : Tri × Bool :=
  let u := pw t.b.base t.carry.toNat
  (⟨t.a, ⟨t.b.base, shiftD t.b.base t.b.digits (sign * (valL t.a.base t.a.digits * u))⟩, ⟨t.s.base, shiftD t.s.base t.s.digits (sign * u)⟩, t.carry⟩, shiftB t.b.base t.b.digits (sign * (valL t.a.base t.a.digits * u)))
/-- a stroke, and whether the bell rings -/
def strokeT (k : Int) (t : Tri) : Tri × Bool :=
  if k = 1 then turnT t 1
  else if k = 2 then turnT t (-1)
  else if k = 3 then (if t.carry + 1 = vplaces t then (t, true) else ({ t with carry := t.carry + 1 }, false))
  else if k = 4 then (if t.carry = 0 then (t, true) else ({ t with carry := t.carry - 1 }, false))
  else if k = 5 then (⟨t.a, ⟨t.b.base, digD t.b.base t.b.digits.length 0⟩, ⟨t.s.base, digD t.s.base t.s.digits.length 0⟩, t.carry⟩, false)
  else if k = 6 then ({ t with a := ⟨t.a.base, digD t.a.base t.a.digits.length 0⟩ }, false)
  else (t, false)
theorem pw_add (b : Int) (m n : Nat) : pw b (m + n) = pw b m * pw b n := by
  induction n with
  | zero => simp [pw]
  | succ n ih => rw [← Nat.add_assoc, pw_succ, ih, pw_succ, Int.mul_assoc]
theorem vmach_all {t : Tri} (h : vmach t = true) : t.a.ok = true ∧ t.b.ok = true ∧ t.s.ok = true ∧ t.a.base = t.b.base ∧ t.s.base = t.b.base ∧ pw t.b.base t.b.digits.length ≤ 1000000000001 ∧ pw t.s.base t.s.digits.length ≤ 1000000000001 ∧
    t.a.digits.length ≤ t.b.digits.length ∧ 0 ≤ t.carry ∧ t.carry ≤ vplaces t - 1 := by
  simp only [vmach, Bool.and_eq_true, beq_iff_eq, fullB, decide_eq_true_eq] at h
  obtain ⟨⟨⟨⟨h1, h2⟩, h3⟩, ⟨⟨h4, h5⟩, h6⟩, h7⟩, h8, h9⟩ := h
  obtain ⟨p, q⟩ := betB_iff.1 h9
  exact ⟨h1, h2, h3, h4, h5, h6, h7, h8, p, q⟩
theorem vmach_mk {t : Tri} (h1 : t.a.ok = true) (h2 : t.b.ok = true) (h3 : t.s.ok = true) (h4 : t.a.base = t.b.base) (h5 : t.s.base = t.b.base) (h6 : pw t.b.base t.b.digits.length ≤ 1000000000001) (h7 : pw t.s.base t.s.digits.length ≤ 1000000000001)
    (h8 : t.a.digits.length ≤ t.b.digits.length) (h9 : 0 ≤ t.carry) (h10 : t.carry ≤ vplaces t - 1) : vmach t = true := by
  simp only [vmach, Bool.and_eq_true, beq_iff_eq, fullB, decide_eq_true_eq]
  exact ⟨⟨⟨⟨h1, h2⟩, h3⟩, ⟨⟨h4, h5⟩, h6⟩, h7⟩, h8, betB_iff.2 ⟨h9, h10⟩⟩
theorem reg_ok {r : Reg} : r.ok = vreg r.base r.digits := rfl
/-- no sum of a turn runs over -/
theorem turn_bd {t : Tri} (h : vmach t = true) : 1 ≤ pw t.b.base t.carry.toNat ∧ pw t.b.base t.carry.toNat ≤ 1000000000001 ∧ 0 ≤ valL t.a.base t.a.digits * pw t.b.base t.carry.toNat ∧ valL t.a.base t.a.digits * pw t.b.base t.carry.toNat ≤ 1000000000001 := by
  obtain ⟨k1, k2, k3, e1, e2, f1, f2, l1, c0, c1⟩ := vmach_all h
  obtain ⟨⟨b1, b2⟩, ⟨n1, n2⟩, hd, hl⟩ := vreg_iff.1 k1
  have hu := pw_pos t.b.base (by omega) t.carry.toNat
  have hv0 := (valL_bd t.a.base b1 t.a.digits (fun d h => (hd d h).1)).1
  have hv1 := valL_lt t.a.base b1 t.a.digits hd
  have hadd := pw_add t.b.base t.a.digits.length t.carry.toNat
  have hc : t.a.digits.length + t.carry.toNat ≤ t.b.digits.length := by unfold vplaces at c1; omega
  have hm := pw_mono t.b.base (by omega) _ _ hc
  rw [e1] at hv1
  have h3 : valL t.a.base t.a.digits * pw t.b.base t.carry.toNat ≤ pw t.b.base t.a.digits.length * pw t.b.base t.carry.toNat := Int.mul_le_mul_of_nonneg_right (by rw [e1]; omega) (by omega)
  have hm2 := pw_mono t.b.base (by omega) t.carry.toNat t.b.digits.length (by omega)
  exact ⟨hu, by omega, Int.mul_nonneg hv0 (by omega), by omega⟩
theorem turnT_ok {t : Tri} (h : vmach t = true) (sign : Int) : vmach (turnT t sign).1 = true := by
  obtain ⟨k1, k2, k3, e1, e2, f1, f2, l1, c0, c1⟩ := vmach_all h
  refine vmach_mk k1 (shiftD_vreg _ _ _ k2 f1) (shiftD_vreg _ _ _ k3 f2) e1 e2 ?_ ?_ ?_ c0 ?_
  · simp only [turnT, shiftD_len]; exact f1
  · simp only [turnT, shiftD_len]; exact f2
  · simp only [turnT, shiftD_len]; exact l1
  · simp only [turnT, vplaces, shiftD_len]; exact c1
theorem zero_ok {b : Int} {ds : List Int} (h : vreg b ds = true) : vreg b (digD b ds.length 0) = true := by
  obtain ⟨⟨b1, b2⟩, ⟨n1, n2⟩, -, -⟩ := vreg_iff.1 h
  have := pw_pos b b1 ds.length
  exact digD_vreg b b1 b2 _ (by omega) (by omega) 0 (by omega) (by omega) (by omega)
theorem strokeT_ok {t : Tri} (k : Int) (h : vmach t = true) : vmach (strokeT k t).1 = true := by
  obtain ⟨k1, k2, k3, e1, e2, f1, f2, l1, c0, c1⟩ := vmach_all h
  unfold strokeT
  split
  · exact turnT_ok h 1
  split
  · exact turnT_ok h (-1)
  split
  · split
    · exact h
    · rename_i hc
      exact vmach_mk k1 k2 k3 e1 e2 f1 f2 l1 (by simp only []; omega) (by simp only [vplaces] at c1 hc ⊢; omega)
  split
  · split
    · exact h
    · rename_i hc
      exact vmach_mk k1 k2 k3 e1 e2 f1 f2 l1 (by simp only []; omega) (by simp only [vplaces] at c1 hc ⊢; omega)
  split
  · refine vmach_mk k1 (zero_ok k2) (zero_ok k3) e1 e2 (by simp only [digD_len]; exact f1) (by simp only [digD_len]; exact f2) (by simp only [digD_len]; exact l1) c0 (by simp only [vplaces, digD_len]; exact c1)
  split
  · refine vmach_mk (zero_ok k1) k2 k3 e1 e2 f1 f2 (by simp only [digD_len]; exact l1) c0 (by simp only [vplaces, digD_len]; exact c1)
  · exact h
end Go.Proofs.Ytafnebpbfmbgiaa

namespace Go.Proofs.Ytafnebpbfmbgiaa
open Go.RowKit Go.Sort
/-! programs, plainly: depths, matches, what a run does -/
def depA (xs : List Ins) (k : Nat) : Int := (progD (xs.take k)).getD 0
theorem vprog_len {xs : List Ins} (h : vprog xs = true) : xs.length ≤ 120 := by
  unfold vprog at h; simp only [Bool.and_eq_true, decide_eq_true_eq] at h; exact h.2
theorem vprog_some {xs : List Ins} (h : vprog xs = true) (k : Nat) : progD (xs.take k) = some (depA xs k) := by
  unfold vprog at h; simp only [Bool.and_eq_true, decide_eq_true_eq] at h
  unfold depA
  cases hp : progD (xs.take k) with
  | none => rw [progD_none hp] at h; cases h.1
  | some d => rfl
theorem depA_zero (xs : List Ins) : depA xs 0 = 0 := rfl
theorem depA_end {xs : List Ins} (h : vprog xs = true) {k : Nat} (hk : xs.length ≤ k) : depA xs k = 0 := by
  unfold vprog at h; simp only [Bool.and_eq_true, decide_eq_true_eq] at h
  unfold depA; rw [List.take_of_length_le hk, h.1]; rfl
theorem dep_step {xs : List Ins} (h : vprog xs = true) {k : Nat} (hk : k < xs.length) : instrOk xs[k].op xs[k].arg = true ∧ depthStep xs[k].op (depA xs k) = some (depA xs (k + 1)) := by
  have h1 := vprog_some h (k + 1)
  rw [progD_succ hk, vprog_some h k] at h1
  simp only [stepI, Option.bind_some] at h1
  split at h1
  · rename_i hi; exact ⟨hi, h1⟩
  · cases h1
theorem dep_bd {xs : List Ins} (h : vprog xs = true) : ∀ k : Nat, 0 ≤ depA xs k ∧ depA xs k ≤ 4
  | 0 => by rw [depA_zero]; omega
  | k + 1 => by
    by_cases hk : k < xs.length
    · exact depthStep_bd (dep_step h hk).2 (dep_bd h k).1 (dep_bd h k).2
    · rw [depA_end h (by omega)]; omega
theorem dep_open {xs : List Ins} (h : vprog xs = true) {k : Nat} (hk : k < xs.length) (ho : opens xs[k].op = true) : depA xs (k + 1) = depA xs k + 1 := by
  have h1 := (dep_step h hk).2
  have h10 : ¬ xs[k].op = 10 := by intro h; rw [h] at ho; simp [opens] at ho
  unfold depthStep at h1
  rw [if_neg h10, ho] at h1
  simp only [if_true] at h1
  split at h1
  · cases h1
  · injection h1 with h1; omega
theorem dep_close {xs : List Ins} (h : vprog xs = true) {k : Nat} (hk : k < xs.length) (ho : xs[k].op = 10) : depA xs (k + 1) = depA xs k - 1 := by
  have h1 := (dep_step h hk).2
  unfold depthStep at h1
  rw [if_pos ho] at h1
  split at h1
  · cases h1
  · injection h1 with h1; omega
theorem dep_same {xs : List Ins} (h : vprog xs = true) {k : Nat} (hk : k < xs.length) (ho : opens xs[k].op = false) (h10 : ¬ xs[k].op = 10) : depA xs (k + 1) = depA xs k := by
  have h1 := (dep_step h hk).2
  unfold depthStep at h1
  rw [if_neg h10, ho] at h1
  simp only [Bool.false_eq_true, if_false] at h1
  injection h1 with h1; omega
theorem dep_near {xs : List Ins} (h : vprog xs = true) (k : Nat) : depA xs k - 1 ≤ depA xs (k + 1) ∧ depA xs (k + 1) ≤ depA xs k + 1 := by
  by_cases hk : k < xs.length
  · rcases ho : opens xs[k].op with _ | _
    · by_cases h10 : xs[k].op = 10
      · rw [dep_close h hk h10]; omega
      · rw [dep_same h hk ho h10]; omega
    · rw [dep_open h hk ho]; omega
  · rw [depA_end h (show xs.length ≤ k by omega), depA_end h (show xs.length ≤ k + 1 by omega)]; omega
/-- e is the end of the loop that begins at i -/
def IsMatch (xs : List Ins) (i e : Nat) : Prop := i ≤ e ∧ e < xs.length ∧ depA xs (e + 1) = depA xs i ∧ ∀ j, i < j → j ≤ e → depA xs i < depA xs j
theorem IsMatch.one {xs : List Ins} {i e f : Nat} (h1 : IsMatch xs i e) (h2 : IsMatch xs i f) : e = f := by
  obtain ⟨a1, a2, a3, a4⟩ := h1
  obtain ⟨b1, b2, b3, b4⟩ := h2
  rcases Nat.lt_trichotomy e f with h | h | h
  · have := b4 (e + 1) (by omega) (by omega); omega
  · exact h
  · have := a4 (f + 1) (by omega) (by omega); omega
/-- a part of a program in which all loops are whole -/
structure Seg (xs : List Ins) (i tt : Nat) : Prop where
  le : i ≤ tt
  len : tt ≤ xs.length
  dep : depA xs tt = depA xs i
  above : ∀ j, i ≤ j → j ≤ tt → depA xs i ≤ depA xs j
theorem Seg.all {xs : List Ins} (h : vprog xs = true) : Seg xs 0 xs.length :=
  ⟨Nat.zero_le _, Nat.le_refl _, by rw [depA_end h (Nat.le_refl _), depA_zero], fun j _ _ => by rw [depA_zero]; exact (dep_bd h j).1⟩
theorem Seg.lt {xs : List Ins} {i tt : Nat} (hs : Seg xs i tt) (hi : i < tt) : i < xs.length := Nat.lt_of_lt_of_le hi hs.len
theorem Seg.noEnd {xs : List Ins} (h : vprog xs = true) {i tt : Nat} (hs : Seg xs i tt) (hi : i < tt) : ¬ (xs[i]'(hs.lt hi)).op = 10 := by
  intro h10
  have h1 := dep_close h (hs.lt hi) h10
  have h2 := hs.above (i + 1) (by omega) (by omega)
  omega
theorem Seg.next {xs : List Ins} (h : vprog xs = true) {i tt : Nat} (hs : Seg xs i tt) (hi : i < tt) (ho : opens (xs[i]'(hs.lt hi)).op = false) : Seg xs (i + 1) tt := by
  have h1 := dep_same h (hs.lt hi) ho (hs.noEnd h hi)
  exact ⟨by omega, hs.len, by rw [h1]; exact hs.dep, fun j h2 h3 => by rw [h1]; exact hs.above j (by omega) h3⟩
theorem Seg.loop {xs : List Ins} (h : vprog xs = true) {i tt e : Nat} (hs : Seg xs i tt) (hi : i < tt) (ho : opens (xs[i]'(hs.lt hi)).op = true) (hm : IsMatch xs i e) :
    i < e ∧ e < tt ∧ Seg xs (i + 1) e ∧ Seg xs (e + 1) tt := by
  obtain ⟨m1, m2, m3, m4⟩ := hm
  have h1 := dep_open h (hs.lt hi) ho
  have he : i < e := by
    rcases Nat.lt_or_ge i e with h2 | h2
    · exact h2
    · obtain rfl : e = i := by omega
      omega
  have ht : e < tt := by
    rcases Nat.lt_or_ge e tt with h2 | h2
    · exact h2
    · have := m4 tt hi h2; have := hs.dep; omega
  have h3 := m4 e he (Nat.le_refl _)
  have h4 := dep_near h e
  refine ⟨he, ht, ⟨by omega, by omega, by omega, fun j h5 h6 => ?_⟩, ⟨by omega, hs.len, by rw [m3]; exact hs.dep, fun j h5 h6 => by rw [m3]; exact hs.above j (by omega) h6⟩⟩
  have := m4 j (by omega) h6
  omega
theorem Seg.noOpen {xs : List Ins} {i tt : Nat} (hs : Seg xs i tt) : xs.length = tt ∨ tt < xs.length := by have := hs.len; omega
/-- what a runner holds -/
structure RS where
  m : Tri
  tr : List Int
  done : Nat
  code : Int
def RS.tick (s : RS) : RS := ⟨s.m, s.tr, s.done + 1, if s.done = 3000 then 5 else 0⟩
theorem RS.tick_full {s : RS} (h : s.done = 3000) : s.tick = ⟨s.m, s.tr, s.done + 1, 5⟩ := by simp [RS.tick, h]
theorem RS.tick_ok {s : RS} (h : ¬ s.done = 3000) : s.tick = ⟨s.m, s.tr, s.done + 1, 0⟩ := by simp [RS.tick, h]
/-- the setting set tt a value that fits -/
def setT (t : Tri) (v : Int) : Tri := { t with a := ⟨t.a.base, digD t.a.base t.a.digits.length v⟩ }
def setFits (t : Tri) (v : Int) : Bool := restD t.a.base t.a.digits.length v == 0
inductive Task where
  | run (i tt : Nat)
  | loop (op arg : Int) (i e : Nat) (k : Nat)
  | str (kind : Int) (n : Nat)
/-- what is done by a part of a program; the last is whether the bell has rung -/
inductive Ev (L : List Ins) : Task → RS → RS → Bool → Prop where
  | s0 {kind s} : Ev L (.str kind 0) s s false
  | sFull {kind n s} (h : s.done = 3000) : Ev L (.str kind (n + 1)) s s.tick false
  | sStep {kind n s s' b} (h : ¬ s.done = 3000) (he : Ev L (.str kind n) ⟨(strokeT kind s.m).1, s.tr ++ [kind], s.done + 1, 0⟩ s' b) : Ev L (.str kind (n + 1)) s s' ((strokeT kind s.m).2 || b)
  | rEnd {i tt s} (h : tt ≤ i) : Ev L (.run i tt) s s false
  | rCode {i tt s} (hi : i < tt) (h : ¬ s.code = 0) : Ev L (.run i tt) s s false
  | rSetFull {i tt s} (hi : i < tt) (hl : i < L.length) (hc : s.code = 0) (ho : L[i].op = 1) (h : s.done = 3000) : Ev L (.run i tt) s s.tick false
  | rSetBad {i tt s} (hi : i < tt) (hl : i < L.length) (hc : s.code = 0) (ho : L[i].op = 1) (h : ¬ s.done = 3000) (hf : setFits s.m L[i].arg = false) : Ev L (.run i tt) s ⟨s.m, s.tr, s.done + 1, 10⟩ false
  | rSet {i tt s s' b} (hi : i < tt) (hl : i < L.length) (hc : s.code = 0) (ho : L[i].op = 1) (h : ¬ s.done = 3000) (hf : setFits s.m L[i].arg = true) (he : Ev L (.run (i + 1) tt) ⟨setT s.m L[i].arg, s.tr, s.done + 1, 0⟩ s' b) : Ev L (.run i tt) s s' b
  | rLoop {i tt e s s1 s' b b1} (hi : i < tt) (hl : i < L.length) (hc : s.code = 0) (ho : opens L[i].op = true) (hm : IsMatch L i e) (h1 : Ev L (.loop L[i].op L[i].arg (i + 1) e 0) s s1 b1) (he : Ev L (.run (e + 1) tt) s1 s' b) : Ev L (.run i tt) s s' b
  | rStr {i tt s s1 s' b b1} (hi : i < tt) (hl : i < L.length) (hc : s.code = 0) (ho : opens L[i].op = false) (h1' : ¬ L[i].op = 1) (h1 : Ev L (.str (L[i].op - 1) (max 1 L[i].arg).toNat) s s1 b1) (he : Ev L (.run (i + 1) tt) s1 s' b) : Ev L (.run i tt) s s' (b1 || b)
  | lEnd {op arg : Int} {i e k : Nat} {s : RS} (h8 : op = 8) (hk : arg ≤ (k : Int)) : Ev L (.loop op arg i e k) s s false
  | lFull {op arg : Int} {i e k : Nat} {s : RS} (h8 : ¬ (op = 8 ∧ arg ≤ (k : Int))) (h : s.done = 3000) : Ev L (.loop op arg i e k) s s.tick false
  | lOut {op arg : Int} {i e k : Nat} {s s1 : RS} {b : Bool} (h8 : ¬ (op = 8 ∧ arg ≤ (k : Int))) (h : ¬ s.done = 3000) (h1 : Ev L (.run i e) ⟨s.m, s.tr, s.done + 1, 0⟩ s1 b) (ho : ¬ s1.code = 0 ∨ (op = 9 ∧ b = true)) : Ev L (.loop op arg i e k) s s1 false
  | lStep {op arg : Int} {i e k : Nat} {s s1 s' : RS} {b b2 : Bool} (h8 : ¬ (op = 8 ∧ arg ≤ (k : Int))) (h : ¬ s.done = 3000) (h1 : Ev L (.run i e) ⟨s.m, s.tr, s.done + 1, 0⟩ s1 b) (ho : s1.code = 0 ∧ ¬ (op = 9 ∧ b = true)) (he : Ev L (.loop op arg i e (k + 1)) s1 s' b2) : Ev L (.loop op arg i e k) s s' false
theorem Ev.one {L : List Ins} {t : Task} {s s1 : RS} {b1 : Bool} (h : Ev L t s s1 b1) : ∀ {s2 : RS} {b2 : Bool}, Ev L t s s2 b2 → s1 = s2 ∧ b1 = b2 := by
  induction h with
  | s0 => intro s2 b2 h2; cases h2; exact ⟨rfl, rfl⟩
  | sFull h => intro s2 b2 h2; cases h2 with
    | sFull => exact ⟨rfl, rfl⟩
    | sStep h' => exact absurd h h'
  | sStep h he ih => intro s2 b2 h2; cases h2 with
    | sFull h' => exact absurd h' h
    | sStep _ h' => obtain ⟨rfl, rfl⟩ := ih h'; exact ⟨rfl, rfl⟩
  | rEnd h => intro s2 b2 h2; cases h2 <;> first | exact ⟨rfl, rfl⟩ | omega
  | rCode hi h => intro s2 b2 h2; cases h2 <;> first | exact ⟨rfl, rfl⟩ | contradiction
  | @rSetFull i _ _ hi hl hc ho h =>
    have hop : opens (L[i]'hl).op = false := by rw [ho]; rfl
    intro s2 b2 h2; cases h2 <;> first | exact ⟨rfl, rfl⟩ | contradiction | omega | simp_all
  | @rSetBad i _ _ hi hl hc ho h hf =>
    have hop : opens (L[i]'hl).op = false := by rw [ho]; rfl
    intro s2 b2 h2; cases h2 <;> first | exact ⟨rfl, rfl⟩ | contradiction | omega | simp_all
  | @rSet i _ _ _ _ hi hl hc ho h hf he ih =>
    have hop : opens (L[i]'hl).op = false := by rw [ho]; rfl
    intro s2 b2 h2; cases h2 with
    | rSet _ _ _ _ _ _ he' => exact ih he'
    | _ => first | contradiction | omega | simp_all
  | @rLoop i _ _ _ _ _ _ _ hi hl hc ho hm h1 he ih1 ih2 =>
    have hop : ¬ (L[i]'hl).op = 1 := by intro h; rw [h] at ho; simp [opens] at ho
    intro s2 b2 h2; cases h2 with
    | rLoop _ _ _ _ hm' h1' he' =>
      obtain rfl := hm.one hm'
      obtain ⟨rfl, -⟩ := ih1 h1'
      exact ih2 he'
    | _ => first | contradiction | omega | simp_all
  | rStr hi hl hc ho h1' h1 he ih1 ih2 =>
    intro s2 b2 h2; cases h2 with
    | rStr _ _ _ _ _ h1'' he' =>
      obtain ⟨rfl, rfl⟩ := ih1 h1''
      obtain ⟨rfl, rfl⟩ := ih2 he'
      exact ⟨rfl, rfl⟩
    | _ => first | contradiction | omega | simp_all
  | lEnd h8 hk => intro s2 b2 h2; cases h2 <;> first | exact ⟨rfl, rfl⟩ | (exfalso; rename_i h _; exact h ⟨h8, hk⟩) | (exfalso; simp_all)
  | lFull h8 h => intro s2 b2 h2; cases h2 with
    | lEnd a b => exact absurd ⟨a, b⟩ h8
    | lFull => exact ⟨rfl, rfl⟩
    | lOut _ h' => exact absurd h h'
    | lStep _ h' => exact absurd h h'
  | lOut h8 h h1 ho ih => intro s2 b2 h2; cases h2 with
    | lEnd a b => exact absurd ⟨a, b⟩ h8
    | lFull _ h' => exact absurd h' h
    | lOut _ _ h1' => exact ⟨(ih h1').1, rfl⟩
    | lStep _ _ h1' ho' =>
      obtain ⟨rfl, rfl⟩ := ih h1'
      rcases ho with ho | ho
      · exact absurd ho'.1 ho
      · exact absurd ho ho'.2
  | lStep h8 h h1 ho he ih1 ih2 => intro s2 b2 h2; cases h2 with
    | lEnd a b => exact absurd ⟨a, b⟩ h8
    | lFull _ h' => exact absurd h' h
    | lOut _ _ h1' ho' =>
      obtain ⟨rfl, rfl⟩ := ih1 h1'
      rcases ho' with ho' | ho'
      · exact absurd ho.1 ho'
      · exact absurd ho' ho.2
    | lStep _ _ h1' _ he' =>
      obtain ⟨rfl, rfl⟩ := ih1 h1'
      exact ⟨(ih2 he').1, rfl⟩
theorem restD_div (b : Int) (hb : 2 ≤ b) (k : Nat) (v : Int) (h0 : 0 ≤ v) : restD b k v = v / pw b k := by
  induction k with
  | zero => simp [restD, pw]
  | succ k ih =>
    have h1 := pw_pos b hb k
    rw [restD, ih, Int.tdiv_eq_ediv_of_nonneg (Int.ediv_nonneg h0 (by omega)), Int.ediv_ediv_of_nonneg (by omega)]; rfl
theorem restD_zero (b : Int) (hb : 2 ≤ b) (k : Nat) (v : Int) (h0 : 0 ≤ v) : (restD b k v == 0) = decide (v < pw b k) := by
  have h1 := pw_pos b hb k
  rw [restD_div b hb k v h0, Bool.eq_iff_iff, beq_iff_eq, decide_eq_true_iff]
  constructor
  · intro h
    rcases Int.lt_or_le v (pw b k) with h2 | h2
    · exact h2
    · have := Int.ediv_le_ediv (show 0 < pw b k by omega) h2
      rw [Int.ediv_self (by omega)] at this; omega
  · intro h; exact Int.ediv_eq_zero_of_lt h0 h
/-- what holds of a runner all the time -/
structure RS.Good (s : RS) : Prop where
  m : vmach s.m = true
  tr : s.tr.length ≤ s.done
  done : s.code = 0 → s.done ≤ 3000
  top : s.done ≤ 3001
theorem setT_ok {t : Tri} (v : Int) (h : vmach t = true) (h0 : 0 ≤ v) (h1 : v < pw t.a.base t.a.digits.length) : vmach (setT t v) = true := by
  obtain ⟨k1, k2, k3, e1, e2, f1, f2, l1, c0, c1⟩ := vmach_all h
  obtain ⟨⟨b1, b2⟩, ⟨n1, n2⟩, hd, hl⟩ := vreg_iff.1 k1
  have hm := pw_mono t.a.base (by omega) _ _ l1
  rw [e1] at hm
  refine vmach_mk (t := setT t v) (digD_vreg _ b1 b2 _ (by omega) (by omega) v h0 h1 ?_) k2 k3 e1 e2 f1 f2 (by simp only [setT, digD_len]; exact l1) c0 (by simp only [setT, vplaces, digD_len]; exact c1)
  rw [e1] at h1; omega
theorem RS.Good.tick {s : RS} (h : s.Good) (hc : s.code = 0) : s.tick.Good := by
  have h1 := h.done hc
  have h2 := h.tr
  unfold RS.tick
  split
  · exact ⟨h.m, by simp only []; omega, (fun h => by cases h), by simp only []; omega⟩
  · exact ⟨h.m, by simp only []; omega, fun _ => by simp only []; omega, by simp only []; omega⟩
theorem RS.Good.stroke {s : RS} (h : s.Good) (hc : s.code = 0) (hd : ¬ s.done = 3000) (k : Int) : (RS.mk (strokeT k s.m).1 (s.tr ++ [k]) (s.done + 1) 0).Good := by
  have h1 := h.done hc
  have h2 := h.tr
  exact ⟨strokeT_ok k h.m, by simp; omega, fun _ => by simp only []; omega, by simp only []; omega⟩
theorem RS.Good.more {s : RS} (h : s.Good) (hc : s.code = 0) (hd : ¬ s.done = 3000) (t : Tri) (ht : vmach t = true) (c : Int) : (RS.mk t s.tr (s.done + 1) c).Good := by
  have h1 := h.done hc
  have h2 := h.tr
  exact ⟨ht, by simp only []; omega, fun _ => by simp only []; omega, by simp only []; omega⟩
end Go.Proofs.Ytafnebpbfmbgiaa

namespace Go.Proofs.Ytafnebpbfmbgiaa
open Go.RowKit Go.Sort
/-- what is known at index j of the search for the match of i -/
structure Seek (xs : List Ins) (i j : Nat) (d : Int) : Prop where
  le : i ≤ j
  lt : j < xs.length
  dep : d = depA xs j - depA xs i
  above : ∀ q, i < q → q ≤ j → depA xs i < depA xs q
theorem Seek.next {xs : List Ins} (h : vprog xs = true) {i j : Nat} {d : Int} (hs : Seek xs i j d) (ho : opens (xs[i]'(Nat.lt_of_le_of_lt hs.le hs.lt)).op = true) {d' : Int} (hd : d' = depA xs (j + 1) - depA xs i) (h0 : ¬ d' = 0) : Seek xs i (j + 1) d' := by
  have hn := dep_near h j
  have hi : i < xs.length := Nat.lt_of_le_of_lt hs.le hs.lt
  have hb := dep_bd h i
  have hge : depA xs i ≤ depA xs (j + 1) := by
    rcases Nat.lt_or_eq_of_le hs.le with h1 | h1
    · have := hs.above j h1 (Nat.le_refl _); omega
    · subst h1; rw [dep_open h hi ho]; omega
  have hl : j + 1 < xs.length := by
    rcases Nat.lt_or_ge (j + 1) xs.length with h1 | h1
    · exact h1
    · have := depA_end h h1; omega
  refine ⟨by have := hs.le; omega, hl, hd, fun q h1 h2 => ?_⟩
  rcases Nat.lt_or_eq_of_le h2 with h3 | h3
  · exact hs.above q h1 (by omega)
  · subst h3; omega
theorem Seek.found {xs : List Ins} {i j : Nat} {d : Int} (hs : Seek xs i j d) {d' : Int} (hd : d' = depA xs (j + 1) - depA xs i) (h0 : d' = 0) : IsMatch xs i j := ⟨hs.le, hs.lt, by omega, hs.above⟩
theorem Seek.zero {xs : List Ins} {i : Nat} (hi : i < xs.length) : Seek xs i i 0 := ⟨Nat.le_refl _, hi, by omega, fun q h1 h2 => by omega⟩
def MatchRet (xs : List Ins) (i : Nat) (w : World) (e : Ending) (w' : World) : Prop := ∃ f : Nat, e = .returned (.int .i64 f) ∧ IsMatch xs i f ∧ Below w.heap.size w w'
def MatchRet0 (xs : List Ins) (i : Nat) (w : World) (e : Ending) (w' : World) : Prop := ∃ f : Nat, e = .returned (.int .i64 f) ∧ IsMatch xs i f ∧ w = w'
end Go.Proofs.Ytafnebpbfmbgiaa

namespace Go.Proofs.Ytafnebpbfmbgiaa
open Go.RowKit Go.Sort
end Go.Proofs.Ytafnebpbfmbgiaa

namespace Go.Proofs.Ytafnebpbfmbgiaa
open Go.RowKit Go.Sort
theorem RegAt.below {w w' : World} {p : Addr} {b : Int} {A : Option Addr} {n c : Nat} (h : RegAt w p b A n c) (hb : Below w.heap.size w w') : RegAt w' p b A n c := by
  have hp : p.block < w.heap.size := World.block_lt_of_cell? w p h.1
  exact ⟨by rw [hb.cell hp]; exact h.1, by rw [hb.cell (by exact hp)]; exact h.2⟩
end Go.Proofs.Ytafnebpbfmbgiaa

namespace Go.Proofs.Ytafnebpbfmbgiaa
open Go.RowKit Go.Sort
/-- the first k numbers are 0 -/
def zeroUpto (k : Nat) (ds : List Int) : List Int := List.replicate k 0 ++ ds.drop k
theorem zeroUpto_len {k : Nat} {ds : List Int} (h : k ≤ ds.length) : (zeroUpto k ds).length = ds.length := by simp [zeroUpto]; omega
theorem zeroUpto_step {k : Nat} {ds : List Int} (h : k < ds.length) : (zeroUpto k ds).set k 0 = zeroUpto (k + 1) ds := by
  unfold zeroUpto
  rw [List.set_append_right _ _ (by simp), List.drop_eq_getElem_cons h, List.replicate_succ', List.length_replicate, Nat.sub_self, List.set_cons_zero, List.append_assoc]
  rfl
theorem zeroUpto_all (ds : List Int) : zeroUpto ds.length ds = List.replicate ds.length 0 := by simp [zeroUpto]
end Go.Proofs.Ytafnebpbfmbgiaa

namespace Go.Proofs.Ytafnebpbfmbgiaa
open Go.RowKit Go.Sort
end Go.Proofs.Ytafnebpbfmbgiaa

namespace Go.Proofs.Ytafnebpbfmbgiaa
open Go.RowKit Go.Sort
end Go.Proofs.Ytafnebpbfmbgiaa

namespace Go.Proofs.Ytafnebpbfmbgiaa
open Go.RowKit Go.Sort
end Go.Proofs.Ytafnebpbfmbgiaa

namespace Go.Proofs.Ytafnebpbfmbgiaa
open Go.RowKit Go.Sort
/-- the machine in block g, and its numbers -/
def MB (w0 : World) (g : Nat) (rest : List Value) (T : TypeId) (k : Tri) (m : List Ent) (w : World) : Prop := ∃ B1 d1 B2 d2 B3 d3, Kn w0 (.blk g (.int .i64 k.a.base :: .slice B1 k.a.digits.length d1 :: .int .i64 k.b.base :: .slice B2 k.b.digits.length d2 :: .int .i64 k.s.base :: .slice B3 k.s.digits.length d3 :: .int .i64 k.carry :: rest) T :: rowI B3 d3 k.s.digits :: rowI B2 d2 k.b.digits :: rowI B1 d1 k.a.digits :: m) w
end Go.Proofs.Ytafnebpbfmbgiaa

namespace Go.Proofs.Ytafnebpbfmbgiaa
open Go.RowKit Go.Sort
theorem MB.congr {w0 w : World} {g : Nat} {rest : List Value} {T : TypeId} {k k' : Tri} {m : List Ent} (h : MB w0 g rest T k m w) (e : k = k') : MB w0 g rest T k' m w := e ▸ h
end Go.Proofs.Ytafnebpbfmbgiaa

namespace Go.Proofs.Ytafnebpbfmbgiaa
open Go.RowKit Go.Sort
end Go.Proofs.Ytafnebpbfmbgiaa

namespace Go.Proofs.Ytafnebpbfmbgiaa
open Go.RowKit Go.Sort
/-- what SetValue returns for a valid machine -/
def SetRet (t : Tri) (v : Int) (w : World) (e : Ending) (w' : World) : Prop :=
  (v < pw t.a.base t.a.digits.length ∧ ∃ A1 c1 A2 c2 A3 c3, e = .returned (.tuple #[.agg #[.int .i64 t.a.base, .slice A1 (setT t v).a.digits.length c1, .int .i64 t.b.base, .slice A2 t.b.digits.length c2, .int .i64 t.s.base, .slice A3 t.s.digits.length c3, .int .i64 t.carry], .int .i64 0]) ∧
    Kn w [rowI A3 c3 t.s.digits, rowI A2 c2 t.b.digits, rowI A1 c1 (setT t v).a.digits] w') ∨
  (¬ v < pw t.a.base t.a.digits.length ∧ e = .returned (.tuple #[.agg #[.int .i64 0, .slice none 0 0, .int .i64 0, .slice none 0 0, .int .i64 0, .slice none 0 0, .int .i64 0], .int .i64 2]) ∧ Below w.heap.size w w')
end Go.Proofs.Ytafnebpbfmbgiaa

namespace Go.Proofs.Ytafnebpbfmbgiaa
open Go.RowKit Go.Sort
end Go.Proofs.Ytafnebpbfmbgiaa

namespace Go.Proofs.Ytafnebpbfmbgiaa
open Go.RowKit Go.Sort
end Go.Proofs.Ytafnebpbfmbgiaa

namespace Go.Proofs.Ytafnebpbfmbgiaa
open Go.RowKit Go.Sort
theorem instrOk_bd1 {op arg : Int} (h : instrOk op arg = true) : 1 ≤ op ∧ op ≤ 10 ∧ 0 ≤ arg ∧ arg ≤ 1000000000000 := by
  rcases op_cases op with rfl | rfl | rfl | rfl | rfl | rfl | rfl | rfl | rfl | rfl | h1
  rotate_right 1
  · rw [instrOk_else h1] at h; cases h
  all_goals
    simp [instrOk, betB] at h
    omega
theorem Ev.mono {L : List Ins} {t : Task} {s s' : RS} {b : Bool} (h : Ev L t s s' b) : s.done ≤ s'.done := by
  induction h with
  | s0 => exact Nat.le_refl _
  | sFull h => simp [RS.tick]
  | sStep h he ih => simp only [] at ih; omega
  | rEnd h => exact Nat.le_refl _
  | rCode hi h => exact Nat.le_refl _
  | rSetFull hi hl hc ho h => simp [RS.tick]
  | rSetBad hi hl hc ho h hf => simp
  | rSet hi hl hc ho h hf he ih => simp only [] at ih; omega
  | rLoop hi hl hc ho hm h1 he ih1 ih2 => omega
  | rStr hi hl hc ho h1' h1 he ih1 ih2 => omega
  | lEnd h8 hk => exact Nat.le_refl _
  | lFull h8 h => simp [RS.tick]
  | lOut h8 h h1 ho ih => simp only [] at ih; omega
  | lStep h8 h h1 ho he ih1 ih2 => simp only [] at ih1; omega
/-- what holds at the head of a round of a loop -/
def AtRound (L : List Ins) (x : Ins) (i e : Nat) (s : RS) (k : Nat) (s1 : RS) : Prop :=
  (s1.code = 0 ∧ (x.op = 8 → (k : Int) ≤ x.arg) ∧ ∀ s' b', Ev L (.loop x.op x.arg i e k) s1 s' b' → Ev L (.loop x.op x.arg i e 0) s s' false) ∨ (¬ s1.code = 0 ∧ Ev L (.loop x.op x.arg i e 0) s s1 false)
theorem AtRound.next {L : List Ins} {x : Ins} {i e : Nat} {s s1 s3 : RS} {k : Nat} {b3 : Bool} (HE : ∀ s' b', Ev L (.loop x.op x.arg i e k) s1 s' b' → Ev L (.loop x.op x.arg i e 0) s s' false) (hne : ¬ (x.op = 8 ∧ x.arg ≤ (k : Int))) (hd : ¬ s1.done = 3000)
    (he : Ev L (.run i e) ⟨s1.m, s1.tr, s1.done + 1, 0⟩ s3 b3) (h9 : ¬ (x.op = 9 ∧ b3 = true)) (h8 : x.op = 8 → (k : Int) + 1 ≤ x.arg) : AtRound L x i e s (k + 1) s3 := by
  by_cases hc : s3.code = 0
  · exact .inl ⟨hc, fun h => by have := h8 h; omega, fun s' b' h => HE s' false (Ev.lStep hne hd he ⟨hc, h9⟩ h)⟩
  · exact .inr ⟨hc, HE s3 false (Ev.lOut hne hd he (.inl hc))⟩
end Go.Proofs.Ytafnebpbfmbgiaa

namespace Go.Proofs.Ytafnebpbfmbgiaa
open Go.RowKit Go.Sort
theorem l00Max_any (a b : Int) (w : World) : Calls Try.prog 98 #[.int .i64 a, .int .i64 b] w fun e w' => e = .returned (.int .i64 (max a b)) ∧ w = w' := by
  by_cases h : b < a
  · go_enter Try.func98, Try.ntmps98
    go_wp2
    go_ret
    exact ⟨ret_int (by omega), rfl⟩
  · go_enter Try.func98, Try.ntmps98
    go_wp2
    go_ret
    exact ⟨ret_int (by omega), rfl⟩
theorem Ev.stop {L : List Ins} {j tt : Nat} {s s' : RS} {b : Bool} (h : Ev L (.run j tt) s s' b) (hc : ¬ s.code = 0) : s' = s ∧ b = false := by
  cases h <;> first | exact ⟨rfl, rfl⟩ | contradiction
end Go.Proofs.Ytafnebpbfmbgiaa

namespace Go.Proofs.Ytafnebpbfmbgiaa
open Go.RowKit Go.Sort
end Go.Proofs.Ytafnebpbfmbgiaa

namespace Go.Proofs.Ytafnebpbfmbgiaa
open Go.RowKit Go.Sort
end Go.Proofs.Ytafnebpbfmbgiaa

namespace Go.Proofs.Ytafnebpbfmbgiaa
open Go.RowKit Go.Sort
theorem box8 {w0 w : World} {m : List Ent} {g g' : Nat} {v0 v1 v2 v3 v4 v5 v6 y0 y1 : Value} {l : List Value} {r1 r2 r3 r4 : Ent} {T T' : TypeId} (h : Kn w0 (.blk g (v0 :: v1 :: v2 :: v3 :: v4 :: v5 :: v6 :: l) T :: r1 :: r2 :: r3 :: r4 :: .blk g' [y0, y1] T' :: m) w) :
    w.cell? ⟨g, 0, none⟩ = some v0 ∧ w.cell? ⟨g, 1, none⟩ = some v1 ∧ w.cell? ⟨g, 2, none⟩ = some v2 ∧ w.cell? ⟨g, 3, none⟩ = some v3 ∧ w.cell? ⟨g, 4, none⟩ = some v4 ∧ w.cell? ⟨g, 5, none⟩ = some v5 ∧ w.cell? ⟨g, 6, none⟩ = some v6 ∧ w.cell? ⟨g', 1, none⟩ = some y1 :=
  ⟨h.blkAt.1 0, h.blkAt.1 1, h.blkAt.1 2, h.blkAt.1 3, h.blkAt.1 4, h.blkAt.1 5, h.blkAt.1 6, h.drop.drop.drop.drop.drop.blkAt.1 1⟩
end Go.Proofs.Ytafnebpbfmbgiaa

namespace Go.Proofs.Ytafnebpbfmbgiaa
open Go.RowKit Go.Sort
/-- how a run begins -/
def startR (t : Tri) : RS := ⟨t, [], 0, 0⟩
theorem startR_good {t : Tri} (h : vmach t = true) : (startR t).Good := ⟨h, Nat.le_refl _, fun _ => by simp [startR], by simp [startR]⟩
theorem sized_of {t : Tri} (h : vmach t = true) : Sized t := by
  obtain ⟨q1, q2, q3, -⟩ := vmach_all h
  obtain ⟨-, ⟨n1, n2⟩, -⟩ := vreg_iff.1 q1
  obtain ⟨-, ⟨n3, n4⟩, -⟩ := vreg_iff.1 q2
  obtain ⟨-, ⟨n5, n6⟩, -⟩ := vreg_iff.1 q3
  exact ⟨n1, n3, n5, n2, n4, n6⟩
end Go.Proofs.Ytafnebpbfmbgiaa

namespace Go.Proofs.Ytafnebpbfmbgiaa
open Go.RowKit Go.Sort
instance : Inhabited RS := ⟨⟨default, [], 0, 0⟩⟩
/-- where a run ends -/
noncomputable def endR (L : List Ins) (t : Tri) : RS := Classical.epsilon (fun s' => ∃ b', Ev L (.run 0 L.length) (startR t) s' b')
theorem endR_eq {L : List Ins} {t : Tri} {s' : RS} {b' : Bool} (h : Ev L (.run 0 L.length) (startR t) s' b') : endR L t = s' := by
  obtain ⟨b2, h2⟩ := Classical.epsilon_spec (p := fun s' => ∃ b', Ev L (.run 0 L.length) (startR t) s' b') ⟨s', b', h⟩
  exact (h2.one h).1
noncomputable def rpC (L : List Ins) (t : Tri) : Int := if vmach t && vprog L then (endR L t).code else 1
noncomputable def rpM (L : List Ins) (t : Tri) : Tri := if rpC L t = 0 ∧ vmach (endR L t).m = true then (endR L t).m else zTri
noncomputable def rpT (L : List Ins) (t : Tri) : List Int := if rpC L t = 0 ∧ (endR L t).tr.length ≤ 3001 then (endR L t).tr else []
theorem rp_bad {L : List Ins} {t : Tri} (h : (vmach t && vprog L) = false) : rpC L t = 1 ∧ rpM L t = zTri ∧ rpT L t = [] := by
  have h1 : rpC L t = 1 := by unfold rpC; rw [h]; rfl
  refine ⟨h1, ?_, ?_⟩
  · unfold rpM; rw [h1, if_neg (fun h => absurd h.1 (by decide))]
  · unfold rpT; rw [h1, if_neg (fun h => absurd h.1 (by decide))]
theorem rp_code {L : List Ins} {t : Tri} (h1 : vmach t = true) (h2 : vprog L = true) {s' : RS} {b' : Bool} (h : Ev L (.run 0 L.length) (startR t) s' b') (hc : ¬ s'.code = 0) : rpC L t = s'.code ∧ rpM L t = zTri ∧ rpT L t = [] := by
  have h3 : rpC L t = s'.code := by unfold rpC; rw [h1, h2, endR_eq h]; rfl
  refine ⟨h3, ?_, ?_⟩
  · unfold rpM; rw [h3, if_neg (fun h => hc h.1)]
  · unfold rpT; rw [h3, if_neg (fun h => hc h.1)]
theorem rp_fine {L : List Ins} {t : Tri} (h1 : vmach t = true) (h2 : vprog L = true) {s' : RS} {b' : Bool} (h : Ev L (.run 0 L.length) (startR t) s' b') (hg : s'.Good) (hc : s'.code = 0) : rpC L t = 0 ∧ rpM L t = s'.m ∧ rpT L t = s'.tr := by
  have h3 : rpC L t = 0 := by unfold rpC; rw [h1, h2, endR_eq h]; exact hc
  refine ⟨h3, ?_, ?_⟩
  · unfold rpM; rw [h3, endR_eq h, if_pos ⟨rfl, hg.m⟩]
  · unfold rpT; rw [h3, endR_eq h, if_pos ⟨rfl, by have := hg.tr; have := hg.top; omega⟩]
theorem rpM_len (L : List Ins) (t : Tri) : (rpM L t).a.digits.length ≤ 16 ∧ (rpM L t).b.digits.length ≤ 16 ∧ (rpM L t).s.digits.length ≤ 16 := by
  unfold rpM
  split
  · rename_i h
    have := sized_of h.2
    exact ⟨this.a, this.b, this.s⟩
  · simp [zTri]
theorem rpT_len (L : List Ins) (t : Tri) : (rpT L t).length ≤ 3001 := by
  unfold rpT
  split
  · rename_i h; exact h.2
  · simp
/-- what RunProgram returns -/
def RPRet (L : List Ins) (t : Tri) (w : World) (e : Ending) (w' : World) : Prop := ∃ A1 c1 A2 c2 A3 c3, e = .returned (.tuple #[.agg #[.int .i64 (rpM L t).a.base, .slice A1 (rpM L t).a.digits.length c1, .int .i64 (rpM L t).b.base, .slice A2 (rpM L t).b.digits.length c2, .int .i64 (rpM L t).s.base, .slice A3 (rpM L t).s.digits.length c3, .int .i64 (rpM L t).carry], .int .i64 ((rpT L t).length : Int), .int .i64 (rpC L t)]) ∧
  Kn w [rowI A3 c3 (rpM L t).s.digits, rowI A2 c2 (rpM L t).b.digits, rowI A1 c1 (rpM L t).a.digits] w'
/-- what TraceProgram returns -/
def TPRet (L : List Ins) (t : Tri) (w : World) (e : Ending) (w' : World) : Prop := ∃ A c, e = .returned (.tuple #[.slice A (rpT L t).length c, .int .i64 (rpC L t)]) ∧ Kn w [rowI A c (rpT L t)] w'
end Go.Proofs.Ytafnebpbfmbgiaa

/- rows of instructions -/
namespace Go.Proofs.Ytafnebpbfmbgiaa
open Go.RowKit Go.Sort
def cellsIns (xs : List Ins) : List Value := xs.flatMap fun x => [.int .i64 x.op, .int .i64 x.arg]
theorem cellsIns_len (xs : List Ins) : (cellsIns xs).length = xs.length * 2 := by
  induction xs with
  | nil => rfl
  | cons x xs ih => unfold cellsIns at *; rw [List.flatMap_cons, List.length_append, ih]; simp; omega
theorem cellsIns_snoc (xs : List Ins) (x : Ins) : cellsIns (xs ++ [x]) = cellsIns xs ++ [.int .i64 x.op, .int .i64 x.arg] := by simp [cellsIns]
theorem cellsIns_get : ∀ (xs : List Ins) (k : Nat) (h : k < xs.length), (cellsIns xs)[k * 2]? = some (.int .i64 xs[k].op) ∧ (cellsIns xs)[k * 2 + 1]? = some (.int .i64 xs[k].arg)
  | [], k, h => by simp at h
  | x :: xs, 0, h => by simp [cellsIns]
  | x :: xs, k + 1, h => by
    have h1 := cellsIns_get xs k (by simpa using h)
    have h2 : cellsIns (x :: xs) = .int .i64 x.op :: .int .i64 x.arg :: cellsIns xs := by simp [cellsIns]
    rw [h2, show (k + 1) * 2 = k * 2 + 1 + 1 by omega]
    simp only [List.getElem?_cons_succ, List.getElem_cons_succ]
    exact h1
theorem cellsIns_one (xs : List Ins) : ∀ u ∈ cellsIns xs, u.oneCell' = true := by
  intro u hu
  obtain ⟨x, -, h⟩ := List.mem_flatMap.1 hu
  simp at h
  rcases h with rfl | rfl <;> rfl
end Go.Proofs.Ytafnebpbfmbgiaa

namespace Go.Proofs.Ytafnebpbfmbgiaa
open Go.RowKit Go.Sort
theorem cellsIns_app (xs ys : List Ins) : cellsIns (xs ++ ys) = cellsIns xs ++ cellsIns ys := by simp [cellsIns]
/-- the program that divides -/
def divHead (p : Nat) : List Ins := if 1 < p then [⟨4, (p : Int) - 1⟩] else []
def divPart (p j : Nat) : List Ins := [⟨9, 0⟩, ⟨3, 1⟩, ⟨10, 0⟩, ⟨2, 1⟩] ++ (if j + 1 < p then [⟨5, 1⟩] else [])
def divUpto (p : Nat) : Nat → List Ins
  | 0 => divHead p
  | j + 1 => divUpto p j ++ divPart p j
def divProg (p : Nat) : List Ins := divUpto p p
theorem divUpto_len (p j : Nat) : (divUpto p j).length ≤ 1 + 5 * j := by
  induction j with
  | zero => simp only [divUpto, divHead]; split <;> simp
  | succ j ih => simp only [divUpto, divPart, List.length_append]; split <;> simp <;> omega
theorem divProg_ok {p : Nat} (h1 : 1 ≤ p) (h2 : p ≤ 16) : vprog (divProg p) = true := by
  have H : ∀ p : Fin 17, 1 ≤ p.val → vprog (divProg p.val) = true := by decide +kernel
  exact H ⟨p, by omega⟩ h1
end Go.Proofs.Ytafnebpbfmbgiaa

namespace Go.Proofs.Ytafnebpbfmbgiaa
open Go.RowKit Go.Sort
/-- a fresh machine of a base and widths -/
def newT (b : Int) (n1 n2 n3 : Nat) : Tri := ⟨⟨b, digD b n1 0⟩, ⟨b, digD b n2 0⟩, ⟨b, digD b n3 0⟩, 0⟩
end Go.Proofs.Ytafnebpbfmbgiaa

namespace Go.Proofs.Ytafnebpbfmbgiaa
open Go.RowKit Go.Sort
/-- a base and widths are those of machines -/
def nmOk (b n1 n2 n3 : Int) : Bool := (betB b 2 16 && betB n1 1 16 && betB n2 1 16 && betB n3 1 16) && vmach (newT b n1.toNat n2.toNat n3.toNat)
theorem regWidth_any (n : Int) (w : World) : Calls Try.prog 74 #[.int .i64 n] w fun e w' => e = .returned (.bool (betB n 1 16)) ∧ w = w' := by
  go_enter Try.func74, Try.ntmps74
  go_wp2_with (go_at_call 91; refine (between_any _ _ _ _).mono ?_; rintro e w' ⟨rfl, rfl⟩)
  go_ret
  exact ⟨rfl, rfl⟩
theorem l07Size_any (n : Int) (w : World) : Calls Try.prog 106 #[.int .i64 n] w fun e w' => e = .returned (.bool (betB n 1 16)) ∧ w = w' := by
  go_enter Try.func106, Try.ntmps106
  go_wp2_with (go_at_call 48; refine (l00In_any _ _ _ _).mono ?_; rintro e w' ⟨rfl, rfl⟩)
  go_ret
  exact ⟨rfl, rfl⟩
/-- what NewMachine returns for widths in range -/
def NMRet (b : Int) (n1 n2 n3 : Nat) (v : Bool) (w : World) (e : Ending) (w' : World) : Prop :=
  (v = true ∧ ∃ E1 g1 E2 g2 E3 g3, e = .returned (.tuple #[.agg #[.int .i64 b, .slice E1 (digD b n1 0).length g1, .int .i64 b, .slice E2 (digD b n2 0).length g2, .int .i64 b, .slice E3 (digD b n3 0).length g3, .int .i64 0], .int .i64 0]) ∧ Kn w [rowI E3 g3 (digD b n3 0), rowI E2 g2 (digD b n2 0), rowI E1 g1 (digD b n1 0)] w') ∨
  (v = false ∧ e = .returned (.tuple #[.agg #[.int .i64 0, .slice none 0 0, .int .i64 0, .slice none 0 0, .int .i64 0, .slice none 0 0, .int .i64 0], .int .i64 2]) ∧ Below w.heap.size w w')
end Go.Proofs.Ytafnebpbfmbgiaa

namespace Go.Proofs.Ytafnebpbfmbgiaa
open Go.RowKit Go.Sort
/-- accumulators: which registers they are, and what they show -/
def aOk (b : Int) (ds : List Int) : Bool := vreg b ds && decide (pw b ds.length ≤ 1000000000001)
def aSize (b : Int) (ds : List Int) : Int := if aOk b ds = true then pw b ds.length else 0
def isNm (n x : Int) : Bool := betB x (-(n.tdiv 2)) (n - 1 - n.tdiv 2)
def aNum (b : Int) (ds : List Int) : Int := if valL b ds ≤ pw b ds.length - 1 - (pw b ds.length).tdiv 2 then valL b ds else valL b ds - pw b ds.length
def aNorm (n x : Int) : Int := (x.tmod n + n).tmod n
def aSet (b : Int) (k : Nat) (x : Int) : List Int := digD b k (aNorm (pw b k) x)
theorem aOk_iff {b : Int} {ds : List Int} : aOk b ds = true ↔ vreg b ds = true ∧ pw b ds.length ≤ 1000000000001 := by
  unfold aOk; rw [Bool.and_eq_true, decide_eq_true_eq]
theorem aNorm_bd {n x : Int} (hn : 1 ≤ n) : 0 ≤ aNorm n x ∧ aNorm n x < n := by
  unfold aNorm
  have h1 : -n < x.tmod n ∧ x.tmod n < n := by
    rcases Int.le_total 0 x with h | h
    · rw [Int.tmod_eq_emod_of_nonneg h]
      have := Int.emod_nonneg x (show n ≠ 0 by omega)
      have := Int.emod_lt_of_pos x (show 0 < n by omega)
      omega
    · have h2 := Int.neg_tmod (-x) n
      rw [Int.neg_neg] at h2
      rw [h2, Int.tmod_eq_emod_of_nonneg (by omega)]
      have := Int.emod_nonneg (-x) (show n ≠ 0 by omega)
      have := Int.emod_lt_of_pos (-x) (show 0 < n by omega)
      omega
  rw [Int.tmod_eq_emod_of_nonneg (by omega)]
  exact ⟨Int.emod_nonneg _ (by omega), Int.emod_lt_of_pos _ (by omega)⟩
theorem half_bd {n : Int} (hn : 0 ≤ n) : 0 ≤ n.tdiv 2 ∧ 2 * n.tdiv 2 ≤ n ∧ n ≤ 2 * n.tdiv 2 + 1 := by
  rw [Int.tdiv_eq_ediv_of_nonneg hn]; omega
theorem valL_in {b : Int} {ds : List Int} (h : aOk b ds = true) : 0 ≤ valL b ds ∧ valL b ds < pw b ds.length ∧ 1 ≤ pw b ds.length ∧ pw b ds.length ≤ 1000000000001 := by
  obtain ⟨h1, h2⟩ := aOk_iff.1 h
  obtain ⟨⟨b1, b2⟩, -, hd, -⟩ := vreg_iff.1 h1
  exact ⟨(valL_bd b b1 ds (fun d hd' => (hd d hd').1)).1, valL_lt b b1 ds hd, pw_pos b b1 _, h2⟩
theorem aNum_bd {b : Int} {ds : List Int} (h : aOk b ds = true) : -1000000000001 ≤ aNum b ds ∧ aNum b ds ≤ 1000000000001 := by
  have := valL_in h
  unfold aNum
  split <;> omega
end Go.Proofs.Ytafnebpbfmbgiaa

namespace Go.Proofs.Ytafnebpbfmbgiaa
open Go.RowKit Go.Sort
/-- what a function that adds a number returns -/
def anuC (b : Int) (ds : List Int) (x : Int) : Int := if aOk b ds = false then 1 else if betB x (-1000000000000) 1000000000000 = false then 2 else 0
def ANRet (b : Int) (ds : List Int) (x : Int) (w : World) (e : Ending) (w' : World) : Prop :=
  (anuC b ds x ≠ 0 ∧ e = .returned (.tuple #[.agg #[.int .i64 0, .slice none 0 0], .bool false, .int .i64 (anuC b ds x)]) ∧ Below w.heap.size w w') ∨
  (anuC b ds x = 0 ∧ ∃ E g, e = .returned (.tuple #[.agg #[.int .i64 b, .slice E (aSet b ds.length (aNum b ds + x)).length g], .bool (!isNm (pw b ds.length) (aNum b ds + x)), .int .i64 0]) ∧ Kn w [rowI E g (aSet b ds.length (aNum b ds + x))] w')
end Go.Proofs.Ytafnebpbfmbgiaa

namespace Go.Proofs.Ytafnebpbfmbgiaa
open Go.RowKit Go.Sort
/-- a register in a block -/
def RegB (w : World) (g : Nat) (b : Int) (A : Option Addr) (c : Nat) (ds : List Int) : Prop := (w.cell? ⟨g, 0, none⟩ = some (.int .i64 b) ∧ w.cell? ⟨g, 1, none⟩ = some (.slice A ds.length c)) ∧ RI w A ds.length ds
theorem RegB.below {w w' : World} {g : Nat} {b : Int} {A : Option Addr} {c : Nat} {ds : List Int} (h : RegB w g b A c ds) (hb : Below w.heap.size w w') : RegB w' g b A c ds := by
  have hlt : g < w.heap.size := World.block_lt_of_cell? w _ h.1.1
  exact ⟨⟨(hb.cell (p := ⟨g, 0, none⟩) hlt).trans h.1.1, (hb.cell (p := ⟨g, 1, none⟩) hlt).trans h.1.2⟩, h.2.below hb⟩
theorem tmod_bd {n x : Int} (hn : 1 ≤ n) : -n < x.tmod n ∧ x.tmod n < n := by
  rcases Int.le_total 0 x with h | h
  · rw [Int.tmod_eq_emod_of_nonneg h]
    have := Int.emod_nonneg x (show n ≠ 0 by omega)
    have := Int.emod_lt_of_pos x (show 0 < n by omega)
    omega
  · have h2 := Int.neg_tmod (-x) n
    rw [Int.neg_neg] at h2
    rw [h2, Int.tmod_eq_emod_of_nonneg (by omega)]
    have := Int.emod_nonneg (-x) (show n ≠ 0 by omega)
    have := Int.emod_lt_of_pos (-x) (show 0 < n by omega)
    omega
end Go.Proofs.Ytafnebpbfmbgiaa

namespace Go.Proofs.Ytafnebpbfmbgiaa
open Go.RowKit Go.Sort
theorem isNm_val {n v : Int} (hn : 1 ≤ n) (h0 : 0 ≤ v) : isNm n v = decide (v ≤ n - 1 - n.tdiv 2) := by
  have hh := half_bd (n := n) (by omega)
  unfold isNm
  rw [Bool.eq_iff_iff, betB_iff, decide_eq_true_eq]
  omega
end Go.Proofs.Ytafnebpbfmbgiaa

namespace Go.Proofs.Ytafnebpbfmbgiaa
open Go.RowKit Go.Sort
/-- how far each wheel is turned to come to 0 -/
def ctL (b : Int) (ds : List Int) : List Int := ds.map (fun d => (b - d).tmod b)
def ctR (b : Int) (ds : List Int) : List Int := if vreg b ds then ctL b ds else []
def CTRet (b : Int) (ds : List Int) (w : World) (e : Ending) (w' : World) : Prop := ∃ E k, e = .returned (.tuple #[.slice E (ctR b ds).length k, .int .i64 (if vreg b ds then 0 else 1)]) ∧ Kn w [rowI E k (ctR b ds)] w'
theorem ctL_take {b : Int} {ds : List Int} {k : Nat} (h : k < ds.length) : ctL b (ds.take (k + 1)) = ctL b (ds.take k) ++ [(b - ds[k]).tmod b] := by
  unfold ctL; rw [List.take_succ_eq_append_getElem h, List.map_append]; rfl
theorem ctL_len (b : Int) (ds : List Int) : (ctL b ds).length = ds.length := by unfold ctL; rw [List.length_map]
end Go.Proofs.Ytafnebpbfmbgiaa

namespace Go.Proofs.Ytafnebpbfmbgiaa
open Go.RowKit Go.Sort
def tfC (b : Int) (ds : List Int) (b' : Int) (es : List Int) : Int := if (aOk b ds && aOk b' es) = false then 1 else if b ≠ b' then 6 else 0
/-- what a transfer returns -/
def TFRet (b : Int) (ds : List Int) (b' : Int) (es : List Int) (w : World) (e : Ending) (w' : World) : Prop :=
  (tfC b ds b' es ≠ 0 ∧ e = .returned (.tuple #[.agg #[.int .i64 0, .slice none 0 0], .agg #[.int .i64 0, .slice none 0 0], .bool false, .int .i64 (tfC b ds b' es)]) ∧ Below w.heap.size w w') ∨
  (tfC b ds b' es = 0 ∧ ∃ E1 k1 E2 k2, e = .returned (.tuple #[.agg #[.int .i64 b, .slice E1 (digD b ds.length 0).length k1], .agg #[.int .i64 b', .slice E2 (aSet b' es.length (aNum b' es + aNum b ds)).length k2], .bool (!isNm (pw b' es.length) (aNum b' es + aNum b ds)), .int .i64 0]) ∧
    Kn w [rowI E2 k2 (aSet b' es.length (aNum b' es + aNum b ds)), rowI E1 k1 (digD b ds.length 0)] w')
theorem tfC_bad {b b' : Int} {ds es : List Int} (h : (aOk b ds && aOk b' es) = false) : tfC b ds b' es = 1 := by unfold tfC; rw [if_pos h]
end Go.Proofs.Ytafnebpbfmbgiaa

namespace Go.Proofs.Ytafnebpbfmbgiaa
open Go.RowKit Go.Sort
def accD (b : Int) (ds xs : List Int) : Nat → List Int
  | 0 => ds
  | k + 1 => aSet b ds.length (aNum b (accD b ds xs k) + xs.getD k 0)
def accB (b : Int) (ds xs : List Int) : Nat → List Int
  | 0 => []
  | k + 1 => if isNm (pw b ds.length) (aNum b (accD b ds xs k) + xs.getD k 0) = true then accB b ds xs k else accB b ds xs k ++ [(k : Int)]
def inA (xs : List Int) : Bool := xs.all (fun x => betB x (-1000000000000) 1000000000000)
def aaC (b : Int) (ds xs : List Int) : Int := if aOk b ds = false then 1 else if inA xs = false then 2 else 0
theorem aSet_len (b : Int) (k : Nat) (x : Int) : (aSet b k x).length = k := digD_len ..
theorem accD_len (b : Int) (ds xs : List Int) (k : Nat) : (accD b ds xs k).length = ds.length := by
  cases k with
  | zero => rfl
  | succ k => exact aSet_len ..
theorem accB_len (b : Int) (ds xs : List Int) (k : Nat) : (accB b ds xs k).length ≤ k := by
  induction k with
  | zero => simp [accB]
  | succ k ih => unfold accB; split; omega; rw [List.length_append]; simp; omega
theorem aSet_ok {b : Int} {ds : List Int} (h : aOk b ds = true) (x : Int) : aOk b (aSet b ds.length x) = true := by
  obtain ⟨h1, h2⟩ := aOk_iff.1 h
  obtain ⟨⟨b1, b2⟩, ⟨n1, n2⟩, -⟩ := vreg_iff.1 h1
  have hp := pw_pos b b1 ds.length
  have hb := aNorm_bd (n := pw b ds.length) (x := x) hp
  refine aOk_iff.2 ⟨?_, by rw [aSet_len]; exact h2⟩
  exact digD_vreg b b1 b2 _ n1 n2 _ hb.1 hb.2 (by omega)
theorem accD_ok {b : Int} {ds : List Int} (h : aOk b ds = true) (xs : List Int) (k : Nat) : aOk b (accD b ds xs k) = true := by
  cases k with
  | zero => exact h
  | succ k => exact aSet_ok h _
theorem inA_take_succ {xs : List Int} {k : Nat} (h : k < xs.length) : inA (xs.take (k + 1)) = (inA (xs.take k) && betB xs[k] (-1000000000000) 1000000000000) := by
  unfold inA; rw [List.take_succ_eq_append_getElem h, List.all_append]; simp only [List.all_cons, List.all_nil, Bool.and_true]
theorem inA_not {xs : List Int} {k : Nat} (h : k < xs.length) (h1 : betB xs[k] (-1000000000000) 1000000000000 = false) : inA xs = false := by
  simp only [inA, List.all_eq_false]; exact ⟨xs[k], List.getElem_mem _, by simp [h1]⟩
/-- what the adding of numbers returns -/
def AARet (b : Int) (ds xs : List Int) (w : World) (e : Ending) (w' : World) : Prop :=
  (aaC b ds xs ≠ 0 ∧ e = .returned (.tuple #[.agg #[.int .i64 0, .slice none 0 0], .slice none 0 0, .int .i64 (aaC b ds xs)]) ∧ Below w.heap.size w w') ∨
  (aaC b ds xs = 0 ∧ ∃ E k B m, e = .returned (.tuple #[.agg #[.int .i64 b, .slice E (accD b ds xs xs.length).length k], .slice B (accB b ds xs xs.length).length m, .int .i64 0]) ∧
    Kn w [rowI B m (accB b ds xs xs.length), rowI E k (accD b ds xs xs.length)] w')
theorem accD_succ (b : Int) (ds : List Int) {xs : List Int} {i : Nat} (h : i < xs.length) : accD b ds xs (i + 1) = aSet b ds.length (aNum b (accD b ds xs i) + xs[i]) := by rw [← getD_of h]; rfl
theorem accB_succ (b : Int) (ds : List Int) {xs : List Int} {i : Nat} (h : i < xs.length) : accB b ds xs (i + 1) = if isNm (pw b ds.length) (aNum b (accD b ds xs i) + xs[i]) = true then accB b ds xs i else accB b ds xs i ++ [(i : Int)] := by rw [← getD_of h]; rfl
theorem inA_get {xs : List Int} (h : inA xs = true) {i : Nat} (hi : i < xs.length) : betB xs[i] (-1000000000000) 1000000000000 = true := by
  unfold inA at h
  exact List.all_eq_true.1 h _ (List.getElem_mem _)
end Go.Proofs.Ytafnebpbfmbgiaa

namespace Go.Proofs.Ytafnebpbfmbgiaa
open Go.RowKit Go.Sort
end Go.Proofs.Ytafnebpbfmbgiaa

namespace Go.Proofs.Ytafnebpbfmbgiaa
open Go.RowKit Go.Sort
/-- what the drawing of a good register returns -/
def DReg (b M : Nat) (w : World) (e : Ending) (w' : World) : Prop := ∃ (bs : Int) (A : Option Addr) (c : Nat) (ds : List Int), e = .returned (.agg #[.int .i64 bs, .slice A ds.length c]) ∧ (2 ≤ bs ∧ bs ≤ 12 ∧ 1 ≤ ds.length ∧ ds.length ≤ 6) ∧ DR b M w [rowI A c ds] w'
theorem min6 {q k : Nat} (h : 0 ≤ (q : Int) ∧ ((q : Int) < min 6 (k : Int) ∨ min 6 (k : Int) ≤ 1 ∧ (q : Int) = 0)) : q ≤ 5 := by omega
theorem wrapQ {q : Nat} (h : q ≤ 5) : IntKind.i64.wrap (1 + (q : Int)) = ((q + 1 : Nat) : Int) := by rw [wrapI64 (by omega)]; omega
set_option maxRecDepth 100000 in
set_option maxHeartbeats 1600000 in
theorem l02Draw_dr (b N : Nat) (w : World) (h : Src w b N) (hN : N ≤ 800000) :
    Calls Try.prog 59 #[.pointer (some ⟨b, 0, none⟩), .int .i64 6] w (DReg b (N + 40) w) := by
  unfold DReg
  have D0 := DR.nil h
  clear h
  go_enter Try.func59, Try.ntmps59
  go_wp2_with fail
  refine Calls.dr (D0.al [.int .i64 0, .slice none 0 0] 28) ?_; intro w1 D1
  refine (pick_dr b N 11 w1 D1.src (by omega)).mono ?_; rintro e w2 ⟨x, rfl, hx, h2⟩
  have D2 := D1.add h2
  clear D0 D1 h2
  obtain ⟨x0, hx1⟩ := hx
  have x1 : x < 11 := by omega
  clear hx1
  obtain ⟨g0, hg0⟩ : ∃ g, w.heap.size = g := ⟨_, rfl⟩
  rw [hg0] at D2 ⊢
  go_wp2_with fail
  refine Calls.dr (D2.al [.int .i64 (2 + x), .slice none 0 0] 28) ?_; intro w3 D3
  obtain ⟨g, hg⟩ : ∃ g, w2.heap.size = g := ⟨_, rfl⟩
  rw [hg] at D3 ⊢
  clear hg D2
  refine (one_dr b _ 2 w3 D3.src (by omega)).mono ?_; rintro e w4 ⟨y, rfl, h4⟩
  have D4 := D3.add h4
  clear D3 h4
  obtain ⟨bs, hbs⟩ : ∃ z, 2 + x = z := ⟨_, rfl⟩
  rw [hbs] at D4
  have b1 : 2 ≤ bs := by omega
  have b2 : bs ≤ 12 := by omega
  clear hbs
  obtain ⟨a1, a2, a3, -⟩ := D4.cells
  rcases y with _ | _
  · go_wp2_with fail
    have HG := Lib.hid (D4.drew.box2.1)
    have HT := HG
    go_region_held3 (fun W => W.cell? ⟨g, 0, none⟩ = some (.int .i64 bs)) (first | with_reducible exact HG.out | with_reducible exact HT.out | exact HG.out | exact HT.out) (first
      | (go_at_call 101; (with_reducible refine (l02Most_any _ _).mono ?_); rintro e w5 ⟨⟨k, rfl, k1, k2⟩, rfl⟩)
      | (go_at_call 99; (with_reducible refine (l00Min_any _ _ _).mono ?_); rintro e w5 ⟨rfl, rfl⟩)
      | (go_at_call 38; (with_reducible refine (pick_dr b _ _ _ D4.drew.src (by omega)).mono ?_); rintro e w5 ⟨y, rfl, hy, h5⟩; have D5 := D4.drew.add h5; clear HG; have HG := Lib.hid (D5.box2.1); obtain ⟨q, rfl⟩ : ∃ q : Nat, y = q := ⟨y.toNat, by omega⟩; have hq := min6 hy; have hq1 := wrapQ hq)
      | (go_at_call 39; rw [show (q : Int) + 1 = ((q + 1 : Nat) : Int) from rfl]; refine (digits_dr b _ _ (q + 1) _ D5.src (by omega) (by omega) (by omega) (by omega)).mono ?_; rintro e w6 ⟨A, c, ds, rfl, hl, hd, h6⟩; have D6 := D5.add h6; clear HG; have HG := Lib.hid ((D6.front 1 rfl).box2.1); obtain ⟨x1, x2, x3, -⟩ := (D6.front 1 rfl).cells; have D8 := (D6.front 1 rfl).st 1 (.slice A (q + 1) c); clear HT; have HT := Lib.hid (D8.box2.1)))
    all_goals
      clear D5 D6 HG HT
      try clear x1 x2 x3
      try clear a1 a2 a3
      generalize w6.setCell ⟨g, 1, none⟩ (.slice A (q + 1) c) = w8 at D8 ⊢
      obtain ⟨a1, a2, a3, -⟩ := D8.cells
      obtain ⟨d1, d2, d3, -⟩ := (D8.front 2 rfl).cells
      go_wp2_with fail
      refine bodyPost.dr (((D8.front 2 rfl).st 0 (.int .i64 bs)).st 1 (.slice A (q + 1) c)) ?_; intro w9 D9
      clear a1 a2 a3 d1 d2 d3
      obtain ⟨a1, a2, a3, -⟩ := D9.cells
      refine bodyPost_ret (v := .agg #[.int .i64 bs, .slice A (q + 1) c]) (by simp [results, Try.results59, go_sem, a1]) rfl ⟨bs, A, c, ds, by rw [hl], by omega, ?_⟩
      have hq' := hq
      exact (D9.sel [2] 99 (by decide) (by decide)).mono (by omega)
  · go_upto_region 4 with fail
    refine Code.wp.dr ((D4.front 0 rfl).st 0 (.int .i64 10)) ?_; intro w4 D4
    clear a1 a2 a3
    obtain ⟨a1, a2, a3, -⟩ := D4.cells
    have HG := Lib.hid (D4.drew.box2.1)
    have HT := HG
    go_region_held3 (fun W => W.cell? ⟨g, 0, none⟩ = some (.int .i64 10)) (first | with_reducible exact HG.out | with_reducible exact HT.out | exact HG.out | exact HT.out) (first
      | (go_at_call 101; (with_reducible refine (l02Most_any _ _).mono ?_); rintro e w5 ⟨⟨k, rfl, k1, k2⟩, rfl⟩)
      | (go_at_call 99; (with_reducible refine (l00Min_any _ _ _).mono ?_); rintro e w5 ⟨rfl, rfl⟩)
      | (go_at_call 38; (with_reducible refine (pick_dr b _ _ _ D4.drew.src (by omega)).mono ?_); rintro e w5 ⟨y, rfl, hy, h5⟩; have D5 := D4.drew.add h5; clear HG; have HG := Lib.hid (D5.box2.1); obtain ⟨q, rfl⟩ : ∃ q : Nat, y = q := ⟨y.toNat, by omega⟩; have hq := min6 hy; have hq1 := wrapQ hq)
      | (go_at_call 39; rw [show (q : Int) + 1 = ((q + 1 : Nat) : Int) from rfl]; refine (digits_dr b _ _ (q + 1) _ D5.src (by omega) (by omega) (by omega) (by omega)).mono ?_; rintro e w6 ⟨A, c, ds, rfl, hl, hd, h6⟩; have D6 := D5.add h6; clear HG; have HG := Lib.hid ((D6.front 1 rfl).box2.1); obtain ⟨x1, x2, x3, -⟩ := (D6.front 1 rfl).cells; have D8 := (D6.front 1 rfl).st 1 (.slice A (q + 1) c); clear HT; have HT := Lib.hid (D8.box2.1)))
    all_goals
      clear D5 D6 HG HT
      try clear x1 x2 x3
      try clear a1 a2 a3
      generalize w6.setCell ⟨g, 1, none⟩ (.slice A (q + 1) c) = w8 at D8 ⊢
      obtain ⟨a1, a2, a3, -⟩ := D8.cells
      obtain ⟨d1, d2, d3, -⟩ := (D8.front 2 rfl).cells
      go_wp2_with fail
      refine bodyPost.dr (((D8.front 2 rfl).st 0 (.int .i64 10)).st 1 (.slice A (q + 1) c)) ?_; intro w9 D9
      clear a1 a2 a3 d1 d2 d3
      obtain ⟨a1, a2, a3, -⟩ := D9.cells
      refine bodyPost_ret (v := .agg #[.int .i64 10, .slice A (q + 1) c]) (by simp [results, Try.results59, go_sem, a1]) rfl ⟨10, A, c, ds, by rw [hl], by omega, ?_⟩
      have hq' := hq
      exact (D9.sel [2] 99 (by decide) (by decide)).mono (by omega)
end Go.Proofs.Ytafnebpbfmbgiaa

namespace Go.Proofs.Ytafnebpbfmbgiaa
open Go.RowKit Go.Sort
end Go.Proofs.Ytafnebpbfmbgiaa

namespace Go.Proofs.Ytafnebpbfmbgiaa
open Go.RowKit Go.Sort
theorem DR.ad {b N : Nat} {w wi w' : World} {m m' : List Ent} (h : DR b N w m wi) (h1 : Kn wi m' w') : DR b N w (m' ++ m) w' := h.kn (fun _ hK => hK.join h1)
theorem pw_12 {b : Int} (b1 : 2 ≤ b) (b2 : b ≤ 12) (k : Nat) : pw b k ≤ pw 12 k := by
  induction k with
  | zero => exact Int.le_refl _
  | succ k ih =>
    rw [pw_succ, pw_succ]
    have := pw_pos b b1 k
    exact Int.mul_le_mul ih b2 (by omega) (by have := pw_pos 12 (by omega) k; omega)
theorem pw_small {b : Int} (b1 : 2 ≤ b) (b2 : b ≤ 12) {k : Nat} (hk : k ≤ 6) : pw b k ≤ 2985984 := by
  have h1 := pw_12 b1 b2 k
  have h2 := pw_mono 12 (by omega) k 6 hk
  have h3 : pw 12 6 = 2985984 := by decide
  omega
/-- what the drawing of a register returns -/
def DReg2 (b M : Nat) (w : World) (e : Ending) (w' : World) : Prop := ∃ (bs : Int) (A : Option Addr) (c : Nat) (ds : List Int), e = .returned (.agg #[.int .i64 bs, .slice A ds.length c]) ∧ ds.length ≤ 20 ∧ DR b M w [rowI A c ds] w'
end Go.Proofs.Ytafnebpbfmbgiaa

namespace Go.Proofs.Ytafnebpbfmbgiaa
open Go.RowKit Go.Sort
theorem DR.setI {b N : Nat} {w wi : World} {m : List Ent} {g c : Nat} {ds : List Int} (h : DR b N w (rowI (some ⟨g, 0, none⟩) c ds :: m) wi) (j : Nat) (v : Int) : DR b N w (rowI (some ⟨g, 0, none⟩) c (ds.set j v) :: m) (wi.setCell ⟨g, j, none⟩ (.int .i64 v)) := h.kn (fun _ hK => hK.setI j v)
theorem DR.rowCell {b N : Nat} {w wi : World} {m : List Ent} {g c : Nat} {ds : List Int} (h : DR b N w (rowI (some ⟨g, 0, none⟩) c ds :: m) wi) {j : Nat} (hj : j < ds.length) : wi.cell? ⟨g, j, none⟩ = some (.int .i64 ds[j]) ∧ wi.frozen? ⟨g, j, none⟩ = false ∧ g < wi.heap.size := by
  obtain ⟨v, -, -, hK⟩ := h
  have h1 := Kn.rowCell hK (j := j) (u := .int .i64 ds[j]) (by simp [hj])
  exact ⟨h1.1, h1.2, World.block_lt_of_cell? wi _ h1.1⟩
theorem DR.rowForm {b N : Nat} {w wi : World} {m : List Ent} {A : Option Addr} {c : Nat} {ds : List Int} (h : DR b N w (rowI A c ds :: m) wi) (hd : 0 < ds.length) : ∃ g, A = some ⟨g, 0, none⟩ := by
  obtain ⟨v, -, -, hK⟩ := h
  obtain ⟨g, c', he⟩ := Kn.rowForm hK hd
  injection he with he
  exact ⟨g, he⟩
theorem idxL {j L : Nat} (h : 0 ≤ (j : Int) ∧ ((j : Int) < (L : Int) ∨ (L : Int) ≤ 1 ∧ (j : Int) = 0)) (h1 : 1 ≤ L) : j < L := by omega
set_option maxRecDepth 100000 in
set_option maxHeartbeats 1600000 in
theorem l02Bent_dr (b N : Nat) (w : World) (h : Src w b N) (hN : N ≤ 600000) :
    Calls Try.prog 35 #[.pointer (some ⟨b, 0, none⟩)] w (DReg2 b (N + 150) w) := by
  unfold DReg2
  have D0 := DR.nil h
  clear h
  go_enter Try.func35, Try.ntmps35
  go_wp2_with fail
  refine Calls.dr (D0.al [.int .i64 0, .slice none 0 0] 28) ?_; intro w1 D1
  refine (l02Draw_dr b N w1 D1.src (by omega)).mono ?_; rintro e w2 ⟨bs, A, c, ds, rfl, ⟨b1, b2, n1, n2⟩, h2⟩
  have D2 := D1.add h2
  clear D0 D1 h2
  obtain ⟨g0, hg0⟩ : ∃ g, w.heap.size = g := ⟨_, rfl⟩
  rw [hg0] at D2 ⊢
  go_wp2_with fail
  refine Calls.dr (D2.al [.int .i64 bs, .slice A ds.length c] 28) ?_; intro w3 D3
  obtain ⟨g, hg⟩ : ∃ g, w2.heap.size = g := ⟨_, rfl⟩
  rw [hg] at D3 ⊢
  clear hg D2 hg0
  refine (pick_dr b _ 20 w3 D3.src (by omega)).mono ?_; rintro e w4 ⟨y, rfl, hy, h4⟩
  have D4 : DR b _ w [.blk g [.int .i64 bs, .slice A ds.length c] 28, rowI A c ds, .blk g0 [.int .i64 0, .slice none 0 0] 28] w4 := D3.add h4
  clear D3 h4
  have y0 : 0 ≤ y := hy.1
  clear hy
  by_cases h0 : y = 0
  · subst h0
    go_wp2_with fail
    refine Calls.dr (D4.al [.int .i64 1, .int .i64 2, .int .i64 16, .int .i64 17, .int .i64 (-9223372036854775808)] 2) ?_; intro w5 D5
    obtain ⟨hr, hA⟩ := DR.lit (ds := [1, 2, 16, 17, -9223372036854775808]) D5 (by decide)
    refine (among_dr b _ _ 5 5 _ w5 D5.src (by omega) hr hA (by omega) (by omega)).mono ?_; rintro e w6 ⟨x, rfl, hx, h6⟩
    have D6 := D5.add h6
    clear hr hA D4 D5 h6 hx
    obtain ⟨l1, l2, l3, a1, a2, a3, d1, d2, d3, -⟩ := D6.cells
    go_upto_region 16 with fail
    refine Code.wp.dr (((D6.front 1 rfl).st 0 (.int .i64 x)).sel [0, 2, 3] 99 (by decide) (by decide)) ?_; intro w8 D8
    clear D6 l1 l2 l3 a1 a2 a3 d1 d2 d3
    obtain ⟨a1, a2, a3, d1, d2, d3, -⟩ := D8.cells
    go_wp2_with fail
    refine bodyPost.dr (((D8.front 2 rfl).st 0 (.int .i64 x)).st 1 (.slice A ds.length c)) ?_; intro w9 D9
    clear a1 a2 a3 d1 d2 d3
    obtain ⟨a1, a2, a3, -⟩ := D9.cells
    refine bodyPost_ret (v := .agg #[.int .i64 x, .slice A ds.length c]) (by simp [results, Try.results35, go_sem, a1]) rfl ⟨x, A, c, ds, ?_, ?_, (D9.sel [2] 99 (by decide) (by decide)).mono (by omega)⟩
    · rfl
    · omega
  by_cases h1 : y = 1
  · subst h1
    obtain ⟨gA, rfl⟩ := (D4.front 1 rfl).rowForm (by omega)
    obtain ⟨L, hL⟩ : ∃ L, ds.length = L := ⟨_, rfl⟩
    have HL := Lib.hid hL
    rw [hL] at D4 n1 n2
    clear hL
    have wb : IntKind.i64.wrap (bs - 1) = bs - 1 := wrapI64 (by omega)
    obtain ⟨a1, a2, a3, d1, d2, d3, -⟩ := D4.cells
    go_upto_region 6 with fail
    have HG := Lib.hid (D4.drew.box2)
    have D5 := (D4.al [.int .i64 (-1), .int .i64 bs, .int .i64 (bs - 1), .int .i64 9223372036854775807] 2).drew
    have HT := Lib.hid ((D5.front 1 rfl).box2)
    go_region_held3 (fun W => W.cell? ⟨g, 0, none⟩ = some (.int .i64 bs) ∧ W.cell? ⟨g, 1, none⟩ = some (.slice (some ⟨gA, 0, none⟩) L c)) (first | with_reducible exact HG.out | with_reducible exact HT.out | exact HG.out | exact HT.out) (first
      | (go_at_call 38; (with_reducible refine (pick_dr b _ _ _ D5.src (by omega)).mono ?_); rintro e w5 ⟨y, rfl, hy, h5⟩; have D6 := D5.add h5; clear HG; have HG := Lib.hid ((D6.front 1 rfl).box2); obtain ⟨j, rfl⟩ : ∃ j : Nat, y = j := ⟨y.toNat, by omega⟩; have hj := idxL hy n1; have hj2 : (j : Int) < (L : Int) := by omega)
      | (go_at_call 38; (with_reducible refine (pick_dr b _ _ _ D4.drew.src (by omega)).mono ?_); rintro e w5 ⟨y, rfl, hy, h5⟩; have D5a := D4.drew.add h5; have D6 := D5a.al [.int .i64 (-1), .int .i64 bs, .int .i64 (bs - 1), .int .i64 9223372036854775807] 2; clear HG; have HG := Lib.hid (D5a.box2); clear HT; have HT := Lib.hid ((D6.front 1 rfl).box2); obtain ⟨j, rfl⟩ : ∃ j : Nat, y = j := ⟨y.toNat, by omega⟩; have hj := idxL hy n1; have hj2 : (j : Int) < (L : Int) := by omega)
      | (go_at_call 52; have hRA := DR.lit (ds := [-1, bs, bs - 1, 9223372036854775807]) D6 (by simp); refine (among_dr b _ _ 4 4 _ _ D6.src (by omega) hRA.1 hRA.2 (by omega) (by omega)).mono ?_; rintro e w7 ⟨x, rfl, hx, h7⟩; have D7 := D6.add h7; clear HG; have HG := Lib.hid ((D7.front 1 rfl).box2); have hrc := (D7.front 2 rfl).rowCell (j := j) (by rw [HL.out]; exact hj); obtain ⟨r1, r2, r3⟩ := hrc; have D8 := (D7.front 2 rfl).setI j x; clear HT; have HT := Lib.hid ((D8.front 2 rfl).box2)))
    all_goals
      clear HG HT D5 D6
      generalize w7.setCell ⟨gA, j, none⟩ (.int .i64 x) = w8 at D8 ⊢
      clear r1 r2 r3 hRA D7
      try clear D5a
      clear D4 a1 a2 a3 d1 d2 d3
      have D8 := D8.sel [2, 0, 3] 99 (by decide) (by decide)
      obtain ⟨a1, a2, a3, d1, d2, d3, -⟩ := D8.cells
      go_wp2_with fail
      refine bodyPost.dr (((D8.front 2 rfl).st 0 (.int .i64 bs)).st 1 (.slice (some ⟨gA, 0, none⟩) L c)) ?_; intro w9 D9
      clear a1 a2 a3 d1 d2 d3
      obtain ⟨a1, a2, a3, -⟩ := D9.cells
      refine bodyPost_ret (v := .agg #[.int .i64 bs, .slice (some ⟨gA, 0, none⟩) L c]) (by simp [results, Try.results35, go_sem, a1]) rfl ⟨bs, (some ⟨gA, 0, none⟩), c, (ds.set j x), ?_, ?_, (D9.sel [2] 99 (by decide) (by decide)).mono (by omega)⟩
      · rw [List.length_set, HL.out]
      · rw [List.length_set, HL.out]; omega
  by_cases h2 : y = 2
  · subst h2
    obtain ⟨a1, a2, a3, d1, d2, d3, -⟩ := D4.cells
    go_upto_region 16 with fail
    have D5 := (D4.st 1 (.slice (some ⟨w4.heap.size, 0, none⟩) 0 0)).al [] 2
    simp only [World.size_setCell] at D5
    refine Code.wp.dr ((D5.kn (m' := [rowI (some ⟨w4.heap.size, 0, none⟩) 0 [], .blk g [.int .i64 bs, .slice (some ⟨w4.heap.size, 0, none⟩) 0 0] 28, rowI A c ds, .blk g0 [.int .i64 0, .slice none 0 0] 28]) (fun v hK => hK.litRow (size := 1) (n := 0) rfl (by decide))).sel [1, 0, 3] 99 (by decide) (by decide)) ?_; intro w8 D8
    clear D4 D5 a1 a2 a3 d1 d2 d3
    obtain ⟨a1, a2, a3, d1, d2, d3, -⟩ := D8.cells
    go_wp2_with fail
    refine bodyPost.dr (((D8.front 2 rfl).st 0 (.int .i64 bs)).st 1 (.slice (some ⟨w4.heap.size, 0, none⟩) 0 0)) ?_; intro w9 D9
    clear a1 a2 a3 d1 d2 d3
    obtain ⟨a1, a2, a3, -⟩ := D9.cells
    refine bodyPost_ret (v := .agg #[.int .i64 bs, .slice (some ⟨w4.heap.size, 0, none⟩) 0 0]) (by simp [results, Try.results35, go_sem, a1]) rfl ⟨bs, (some ⟨w4.heap.size, 0, none⟩), 0, [], ?_, ?_, (D9.sel [2] 99 (by decide) (by decide)).mono (by omega)⟩
    · rfl
    · simp
  by_cases h3 : y = 3
  · subst h3
    obtain ⟨a1, a2, a3, d1, d2, d3, -⟩ := D4.cells
    go_wp2_with fail
    refine Calls.dr (D4.st 0 (.int .i64 5)) ?_; intro w5 D5
    clear a1 a2 a3 d1 d2 d3 D4
    refine (pick_dr b _ 2 w5 D5.src (by omega)).mono ?_; rintro e w6 ⟨x, rfl, hx, h6⟩
    have D6 := D5.add h6
    clear D5 h6
    obtain ⟨q, rfl⟩ : ∃ q : Nat, x = q := ⟨x.toNat, by omega⟩
    have hq : q ≤ 1 := by rcases hx.2 with h | h <;> omega
    have hq2 : IntKind.i64.wrap (16 + (q : Int)) = ((q + 16 : Nat) : Int) := by rw [wrapI64 (by omega)]; omega
    clear hx
    go_wp2_with fail
    rw [show (q : Int) + 16 = ((q + 16 : Nat) : Int) from rfl]
    refine (digits_dr b _ 5 (q + 16) w6 D6.src (by omega) (by omega) (by omega) (by omega)).mono ?_; rintro e w7 ⟨E, k, es, rfl, hl, -, h7⟩
    have D7 := D6.add h7
    clear D6 h7
    obtain ⟨a1, a2, a3, d1, d2, d3, -⟩ := D7.cells
    go_upto_region 16 with fail
    refine Code.wp.dr (((D7.front 1 rfl).st 1 (.slice E (q + 16) k)).sel [0, 1, 3] 99 (by decide) (by decide)) ?_; intro w8 D8
    clear D7 a1 a2 a3 d1 d2 d3
    obtain ⟨a1, a2, a3, d1, d2, d3, -⟩ := D8.cells
    go_wp2_with fail
    refine bodyPost.dr (((D8.front 2 rfl).st 0 (.int .i64 5)).st 1 (.slice E (q + 16) k)) ?_; intro w9 D9
    clear a1 a2 a3 d1 d2 d3
    obtain ⟨a1, a2, a3, -⟩ := D9.cells
    refine bodyPost_ret (v := .agg #[.int .i64 5, .slice E (q + 16) k]) (by simp [results, Try.results35, go_sem, a1]) rfl ⟨5, E, k, es, ?_, ?_, (D9.sel [2] 99 (by decide) (by decide)).mono (by omega)⟩
    · rw [hl]
    · omega
  by_cases h4 : y = 4
  · subst h4
    obtain ⟨a1, a2, a3, d1, d2, d3, -⟩ := D4.cells
    go_upto_region 15 with fail
    have D5 := ((D4.st 0 (.int .i64 10)).st 1 (.slice (some ⟨w4.heap.size, 0, none⟩) 13 13)).al [.int .i64 0, .int .i64 0, .int .i64 0, .int .i64 0, .int .i64 0, .int .i64 0, .int .i64 0, .int .i64 0, .int .i64 0, .int .i64 0, .int .i64 0, .int .i64 0, .int .i64 1] 2
    simp only [World.size_setCell] at D5
    refine Code.wp.dr D5 ?_; intro w5 D5
    obtain ⟨gl, hgl⟩ : ∃ g, w4.heap.size = g := ⟨_, rfl⟩
    rw [hgl] at D5
    clear a1 a2 a3 d1 d2 d3 D4 hgl
    obtain ⟨l1, l2, l3, a1, a2, a3, -⟩ := D5.cells
    have HG := Lib.hid ((D5.drew.front 1 rfl).box2.2)
    have HT := HG
    go_region_held3 (fun W => W.cell? ⟨g, 1, none⟩ = some (.slice (some ⟨gl, 0, none⟩) 13 13)) (first | with_reducible exact HG.out | with_reducible exact HT.out | exact HG.out | exact HT.out) (first
      | (go_at_call 38; (with_reducible refine (pick_dr b _ _ _ D5.drew.src (by omega)).mono ?_); rintro e w6 ⟨x, rfl, hx, h6⟩; have D6 := D5.drew.add h6; clear HG; have HG := Lib.hid ((D6.front 1 rfl).box2.2); obtain ⟨x1, x2, x3, -⟩ := D6.cells; have D7 := (D6.front 0 rfl).st 0 (.int .i64 x); clear HT; have HT := Lib.hid ((D7.front 1 rfl).box2.2)))
    all_goals
      clear HG HT D6
      try clear x1 x2 x3
      try clear l1 l2 l3 a1 a2 a3
      generalize w6.setCell ⟨gl, 0, none⟩ (.int .i64 x) = w7 at D7 ⊢
      have D8 := (D7.kn (m' := [rowI (some ⟨gl, 0, none⟩) 13 [x, 0, 0, 0, 0, 0, 0, 0, 0, 0, 0, 0, 1], .blk g [.int .i64 10, .slice (some ⟨gl, 0, none⟩) 13 13] 28, rowI A c ds, .blk g0 [.int .i64 0, .slice none 0 0] 28]) (fun v hK => hK.litRow (size := 1) (n := 13) rfl (by decide))).sel [1, 0, 3] 99 (by decide) (by decide)
      clear D7
      obtain ⟨a1, a2, a3, d1, d2, d3, -⟩ := D8.cells
      go_wp2_with fail
      refine bodyPost.dr (((D8.front 2 rfl).st 0 (.int .i64 10)).st 1 (.slice (some ⟨gl, 0, none⟩) 13 13)) ?_; intro w9 D9
      clear a1 a2 a3 d1 d2 d3
      obtain ⟨a1, a2, a3, -⟩ := D9.cells
      refine bodyPost_ret (v := .agg #[.int .i64 10, .slice (some ⟨gl, 0, none⟩) 13 13]) (by simp [results, Try.results35, go_sem, a1]) rfl ⟨10, (some ⟨gl, 0, none⟩), 13, [x, 0, 0, 0, 0, 0, 0, 0, 0, 0, 0, 0, 1], ?_, ?_, (D9.sel [2] 99 (by decide) (by decide)).mono (by omega)⟩
      · rfl
      · simp
  · go_upto_region 16 with fail
    refine Code.wp.dr D4 ?_; intro w8 D8
    clear D4
    obtain ⟨a1, a2, a3, d1, d2, d3, -⟩ := D8.cells
    go_wp2_with fail
    refine bodyPost.dr (((D8.front 2 rfl).st 0 (.int .i64 bs)).st 1 (.slice A ds.length c)) ?_; intro w9 D9
    clear a1 a2 a3 d1 d2 d3
    obtain ⟨a1, a2, a3, -⟩ := D9.cells
    refine bodyPost_ret (v := .agg #[.int .i64 bs, .slice A ds.length c]) (by simp [results, Try.results35, go_sem, a1]) rfl ⟨bs, A, c, ds, ?_, ?_, (D9.sel [2] 99 (by decide) (by decide)).mono (by omega)⟩
    · rfl
    · omega
end Go.Proofs.Ytafnebpbfmbgiaa

namespace Go.Proofs.Ytafnebpbfmbgiaa
open Go.RowKit Go.Sort
end Go.Proofs.Ytafnebpbfmbgiaa

namespace Go.Proofs.Ytafnebpbfmbgiaa
open Go.RowKit Go.Sort
/-- a register that a law's draw returns -/
def DrawsReg (w : World) (e : Ending) (w' : World) : Prop := ∃ (bs : Int) (A : Option Addr) (c : Nat) (ds : List Int), e = .returned (.agg #[.int .i64 bs, .slice A ds.length c]) ∧ ds.length ≤ 20 ∧ Kn w [rowI A c ds] w'
end Go.Proofs.Ytafnebpbfmbgiaa

namespace Go.Proofs.Ytafnebpbfmbgiaa
open Go.RowKit Go.Sort
end Go.Proofs.Ytafnebpbfmbgiaa

namespace Go.Proofs.Ytafnebpbfmbgiaa
open Go.RowKit Go.Sort
/-- what the draw of two registers returns -/
def Draws2 (w : World) (e : Ending) (w' : World) : Prop := ∃ (b : Int) (A : Option Addr) (c : Nat) (ds : List Int) (b2 : Int) (B : Option Addr) (k : Nat) (es : List Int), e = .returned (.tuple #[.agg #[.int .i64 b, .slice A ds.length c], .agg #[.int .i64 b2, .slice B es.length k]]) ∧ (ds.length ≤ 20 ∧ es.length ≤ 20) ∧ Kn w [rowI A c ds, rowI B k es] w'
theorem pick5 {q : Nat} (h : 0 ≤ (q : Int) ∧ ((q : Int) < 5 ∨ (5 : Int) ≤ 1 ∧ (q : Int) = 0)) : q ≤ 5 := by omega
end Go.Proofs.Ytafnebpbfmbgiaa

namespace Go.Proofs.Ytafnebpbfmbgiaa
open Go.RowKit Go.Sort
set_option maxHeartbeats 400000 in
theorem l00Same_any (A B : Option Addr) (n c m d : Nat) (ds es : List Int) (w : World) (hr : RI w A n ds) (hs : RI w B m es) (hm : n ≤ 9223372036854775807) (hm2 : m ≤ 9223372036854775807) :
    Calls Try.prog 100 #[.slice A n c, .slice B m d] w fun e w' => e = .returned (.bool (decide (ds = es))) ∧ ∃ q, w' = w.drewN q := by
  have HL := Lib.hid hr.1
  have HM := Lib.hid hs.1
  by_cases hnm : n = m
  · subst hnm
    go_enter Try.func100, Try.ntmps100
    go_wp2
    go_loopw [5] (fun i wr => ∃ k : Nat, k ≤ n ∧ i = .int .i64 k ∧ ds.take k = es.take k ∧ ∃ q, wr = w.drewN q) (fun i _ => n - (intOf i).toNat)
    case atStart => exact ⟨0, Nat.zero_le _, rfl, by simp, 0, rfl⟩
    case round =>
      obtain ⟨k, hk, rfl, hdg, q, rfl⟩ := hrel
      have HD := Lib.hid hdg; clear hdg
      by_cases hkn : k < n
      · obtain ⟨ad, hA, hlt, hkl, hc⟩ := hr.at_ hkn
        obtain ⟨ad2, hB, hlt2, hkl2, hc2⟩ := hs.at_ hkn
        subst hA; subst hB
        have hi0 : (0 : Int) ≤ (k : Int) := by omega
        have hi1 : (k : Int) < (n : Int) := by omega
        rcases hd : (ds[k] != es[k]) with _ | _
        · go_wp2
          go_quiet (fail)
          go_wp2
          have he : ds[k] = es[k] := by simpa using hd
          have HE := Lib.hid he; clear he
          go_roundw
          case rel => exact ⟨k + 1, by omega, by go_num, take_eq_of_succ HD.out hkl hkl2 HE.out, by first | exact ⟨_, rfl⟩ | exact ⟨_, World.drewN_drewN _ _ _⟩⟩
          case measure => simp [intOf]; omega
        · go_wp2
          go_quiet (fail)
          go_wp2
          go_ret
          refine ⟨ret_bool ?_, by first | exact ⟨_, rfl⟩ | exact ⟨_, World.drewN_drewN _ _ _⟩⟩
          have : ds ≠ es := by rintro rfl; simp at hd
          simp [this]
      · have HF : Hid (ds = es) := by
          have := HD.out
          rwa [List.take_of_length_le (by have := HL.out; omega), List.take_of_length_le (by have := HM.out; omega)] at this
        go_wp2
        go_ret
        exact ⟨ret_bool (by simp [HF.out]), q, rfl⟩
  · have HF : Hid (ds ≠ es) := by rintro rfl; exact hnm (hr.1.symm.trans hs.1)
    go_enter Try.func100, Try.ntmps100
    go_wp2
    go_ret
    exact ⟨ret_bool (by simp [HF.out]), 0, rfl⟩
def sameR (r s : Reg) : Bool := r.base == s.base && decide (r.digits = s.digits)
theorem l02Same_any (p q : Addr) (r s : Reg) (w : World) (hp : RegM w p r) (hq : RegM w q s) (hm : SmallReg r) (hm2 : SmallReg s) :
    Calls Try.prog 58 #[.pointer (some p), .pointer (some q)] w fun e w' => e = .returned (.bool (sameR r s)) ∧ ∃ m, w' = w.drewN m := by
  obtain ⟨A, c, ⟨ha, hb⟩, hr⟩ := hp
  obtain ⟨B, d, ⟨ha0, hb0⟩, hs⟩ := hq
  unfold SmallReg at hm hm2
  have K1 := Lib.hid (fun (m : Nat) => l00Same_any A B _ c _ d r.digits s.digits (w.drewN m) hr hs (by omega) (by omega))
  rcases k : (r.base == s.base) with _ | _
  · have HF : Hid (sameR r s = false) := by simp only [Hid, sameR]; rw [k]; rfl
    go_enter Try.func58, Try.ntmps58
    go_wp2_with fail
    go_quiet ((go_at_call 100; exact quiet_of_ex (K1.out _)))
    go_wp2
    go_ret
    exact ⟨ret_bool HF.out.symm, _, rfl⟩
  · have HF : Hid (sameR r s = decide (r.digits = s.digits)) := by simp only [Hid, sameR]; rw [k]; rfl
    go_enter Try.func58, Try.ntmps58
    go_wp2_with fail
    go_quiet ((go_at_call 100; exact quiet_of_ex (K1.out _)))
    go_wp2
    go_ret
    exact ⟨ret_bool HF.out.symm, _, rfl⟩
/-- the carry out of a digit with a kind of fault -/
def cstep (base t c kind : Int) : Int := if kind = 1 then 0 else if kind = 2 then 1 else if kind = 3 then (if t < base then 0 else 1) else if t + c < base then 0 else 1
set_option maxHeartbeats 400000 in
theorem l08Carry_any (base t c kind : Int) (w : World) (h1 : -100 ≤ t) (h2 : t ≤ 100) (h3 : 0 ≤ c) (h4 : c ≤ 1) :
    Calls Try.prog 119 #[.int .i64 base, .int .i64 t, .int .i64 c, .int .i64 kind] w fun e w' => e = .returned (.int .i64 (cstep base t c kind)) ∧ w = w' := by
  by_cases g1 : t + c < base
  all_goals by_cases k1 : kind = 1
  all_goals by_cases k2 : kind = 2
  all_goals by_cases k3 : kind = 3
  all_goals by_cases g2 : t < base
  all_goals try omega
  all_goals
    go_enter Try.func119, Try.ntmps119
    go_wp2
    go_ret
    exact ⟨ret_int (by unfold cstep; simp [*]), rfl⟩
end Go.Proofs.Ytafnebpbfmbgiaa

namespace Go.Proofs.Ytafnebpbfmbgiaa
open Go.RowKit Go.Sort
theorem f6big_any (A : Option Addr) (n c : Nat) (w : World) : Calls Try.prog 5 #[.slice A n c] w fun e w' => e = .returned (.bool (decide ((n : Int) > 4096))) ∧ w' = w := by
  go_enter Try.func5, Try.ntmps5
  go_wp2
  go_ret
  exact ⟨rfl, rfl⟩
theorem specSameRegister_same (b : Int) (A B : Option Addr) (c d : Nat) (ds : List Int) (w : World) (hr : RI w A ds.length ds) (hs : RI w B ds.length ds) (hm : ds.length ≤ 9223372036854775807) :
    Calls Try.prog 15 #[.agg #[.int .i64 b, .slice A ds.length c], .agg #[.int .i64 b, .slice B ds.length d]] w fun e w' => e = .returned (.bool true) ∧ Below w.heap.size w w' := by
  have HR := Lib.hid (fun W (hW : Below w.heap.size w W) => hr.below hW)
  have HS := Lib.hid (fun W (hW : Below w.heap.size w W) => hs.below hW)
  clear hr hs
  go_enter Try.func15, Try.ntmps15
  go_wp2_with fail
  refine Calls.kn (((Kn.nil w).al [.int .i64 b, .slice A ds.length c] 28).al [.int .i64 b, .slice B ds.length d] 28) ?_; intro w1 K1
  simp only [World.size_alloc] at K1
  refine (l02Same_any ⟨w.heap.size, 0, none⟩ ⟨w.heap.size + 1, 0, none⟩ ⟨b, ds⟩ ⟨b, ds⟩ w1 ⟨A, c, box2 (K1.front 1 rfl), HR.out _ K1.below⟩ ⟨B, d, box2 (K1.front 0 rfl), HS.out _ K1.below⟩ hm hm).mono ?_
  rintro e w2 ⟨rfl, q, rfl⟩
  have K2 := K1.drewN q
  go_wp2_with fail
  go_ret
  exact ⟨ret_bool (by simp [sameR]), K2.below⟩
end Go.Proofs.Ytafnebpbfmbgiaa

namespace Go.Proofs.Ytafnebpbfmbgiaa
open Go.RowKit Go.Sort
/-- the bytes of a string -/
def strB (s : ByteArray) : List UInt8 := s.data.toList
theorem strB_len (s : ByteArray) : (strB s).length = s.size := by simp [strB]
theorem strB_get (s : ByteArray) {k : Nat} (h : k < s.size) : s[k] = (strB s)[k]'(by rw [strB_len]; exact h) := by
  simp [strB]
  rfl
theorem strB_mk (bs : List UInt8) : strB ⟨bs.toArray⟩ = bs := by simp [strB]
theorem size_mk (bs : List UInt8) : (⟨bs.toArray⟩ : ByteArray).size = bs.length := by simp [ByteArray.size]
theorem strB_drop (s : ByteArray) (k : Nat) : strB (s.extract k s.size) = (strB s).drop k := by
  have h : (s.extract k s.size).data = s.data.extract k s.size := by simp
  unfold strB
  rw [h, Array.toList_extract, List.extract_eq_take_drop]
  rw [List.take_of_length_le]
  rw [List.length_drop, Array.length_toList]
  exact Nat.le_refl _
theorem size_zero {s : ByteArray} (h : s.size = 0) : s = ⟨#[]⟩ := by
  cases s with
  | mk a =>
    congr 1
    exact Array.eq_empty_of_size_eq_zero h
theorem str_nonempty {s : ByteArray} (h : 0 < s.size) : s.toList.isEmpty = false := by
  rw [ByteArray.toList_eq]
  cases he : s.data.toList with
  | nil =>
    have : s.data.toList.length = 0 := by rw [he]; rfl
    have h2 : s.data.toList.length = s.size := by rw [Array.length_toList]; rfl
    omega
  | cons a l => rfl
theorem strB_cons {s : ByteArray} (h : 0 < s.size) : strB s = s[0] :: (strB s).drop 1 := by
  have h1 : 0 < (strB s).length := by rw [strB_len]; exact h
  have h2 := strB_get s h
  rw [h2]
  have h3 := List.drop_eq_getElem_cons (l := strB s) (i := 0) h1
  simpa using h3
theorem strB_nil {s : ByteArray} (h : s.size = 0) : strB s = [] := by
  apply List.eq_nil_of_length_eq_zero; rw [strB_len]; exact h
theorem str_eq {s : ByteArray} {bs : List UInt8} : (⟨bs.toArray⟩ : ByteArray) = s ↔ bs = strB s := by
  constructor
  · intro h; rw [← h]; simp [strB]
  · intro h; rw [h]; cases s; simp [strB]
theorem strB_toList (s : ByteArray) : s.toList = strB s := by rw [ByteArray.toList_eq]; rfl
theorem strB_tail {s : ByteArray} : strB (s.extract 1 s.size) = (strB s).drop 1 := strB_drop s 1
theorem extract_size (s : ByteArray) (k : Nat) : (s.extract k s.size).size = s.size - k := by simp [ByteArray.size_extract]
theorem strB_extract (s : ByteArray) (i j : Nat) : strB (s.extract i j) = ((strB s).drop i).take (j - i) := by
  have h : (s.extract i j).data = s.data.extract i j := by simp
  unfold strB
  rw [h, Array.toList_extract, List.extract_eq_take_drop]
theorem strB_getD (s : ByteArray) {k : Nat} (h : k < s.size) : (strB s).getD k 0 = s[k] := by
  rw [strB_get s h]; simp [List.getD, List.getElem?_eq_getElem (show k < (strB s).length by rw [strB_len]; exact h)]
theorem wrapI {n : Int} (h : -9223372036854775808 ≤ n ∧ n ≤ 9223372036854775807) : IntKind.i64.wrap n = n := by
  rw [IntKind.wrap_i64]; omega
theorem wrapB {n : Int} (h : 0 ≤ n ∧ n < 256) : IntKind.u8.wrap n = n := by
  simp [IntKind.wrap, IntKind.bits, IntKind.signed]; omega
theorem wrap64_of {n : Int} (h : -9223372036854775808 ≤ n ∧ n ≤ 9223372036854775807) : wrap64 n = n := by unfold wrap64; omega
end Go.Proofs.Ytafnebpbfmbgiaa

namespace Go.Proofs.Ytafnebpbfmbgiaa
open Go.RowKit Go.Sort
/-! drums, plainly -/
structure Dr where
  k : Int
  b : Int
  t : Int
  f : Int
def drOk (d : Dr) : Bool := betB d.k 1 3 && (betB d.b 2 16 && (betB d.t d.b 60 && (if d.k = 3 then decide (d.f = 0) else betB d.f 1 (d.t - d.b + 2))))
/-- the time of a turn at which the tooth j of a drum that is set to g makes its step -/
def dTime (d : Dr) (g : Int) (j : Nat) : Int := if d.k = 1 then d.f + d.b - 1 - g + j else if d.k = 2 then d.f + j else (((j : Int) + 1) * d.t + g - 1) / g
def dTimes (d : Dr) (g : Int) : List Int := (List.range g.toNat).map (dTime d g)
theorem drOk_iff {d : Dr} : drOk d = true ↔ (1 ≤ d.k ∧ d.k ≤ 3) ∧ (2 ≤ d.b ∧ d.b ≤ 16) ∧ (d.b ≤ d.t ∧ d.t ≤ 60) ∧ ((d.k = 3 ∧ d.f = 0) ∨ (d.k ≠ 3 ∧ 1 ≤ d.f ∧ d.f ≤ d.t - d.b + 2)) := by
  unfold drOk
  by_cases h3 : d.k = 3
  · rw [if_pos h3]
    simp only [betB, Bool.and_eq_true, decide_eq_true_eq]
    omega
  · rw [if_neg h3]
    simp only [betB, Bool.and_eq_true, decide_eq_true_eq]
    omega
/-- the rack's times lie in the turn -/
theorem rack_bd {t g j : Int} (ht : 1 ≤ t) (hg : 1 ≤ g) (hj : 0 ≤ j) (hjg : j < g) : 1 ≤ ((j + 1) * t + g - 1) / g ∧ ((j + 1) * t + g - 1) / g ≤ t := by
  constructor
  · rw [Int.le_ediv_iff_mul_le (by omega)]
    have : 1 * 1 ≤ (j + 1) * t := Int.mul_le_mul (by omega) (by omega) (by omega) (by omega)
    omega
  · have h1 : ((j + 1) * t + g - 1) / g < t + 1 := by
      rw [Int.ediv_lt_iff_lt_mul (by omega)]
      have h2 : (j + 1) * t ≤ g * t := Int.mul_le_mul_of_nonneg_right (by omega) (by omega)
      rw [Int.add_mul (a := t), Int.one_mul, Int.mul_comm t g]
      omega
    omega
theorem dTime_bd {d : Dr} (h : drOk d = true) {g : Int} {j : Nat} (hj : (j : Int) < g) (hg : g < d.b) : 1 ≤ dTime d g j ∧ dTime d g j ≤ d.t := by
  obtain ⟨⟨k1, k2⟩, ⟨b1, b2⟩, ⟨t1, t2⟩, h4⟩ := drOk_iff.1 h
  unfold dTime
  by_cases e1 : d.k = 1
  · rw [if_pos e1]; omega
  · rw [if_neg e1]
    by_cases e2 : d.k = 2
    · rw [if_pos e2]; omega
    · rw [if_neg e2]
      exact rack_bd (by omega) (by omega) (by omega) hj
/-- one tooth's step lies behind the step of the tooth ahead of it -/
theorem dTime_lt {d : Dr} (h : drOk d = true) {g : Int} {i j : Nat} (hij : i < j) (hj : (j : Int) < g) (hg : g < d.b) : dTime d g i < dTime d g j := by
  obtain ⟨⟨k1, k2⟩, ⟨b1, b2⟩, ⟨t1, t2⟩, h4⟩ := drOk_iff.1 h
  unfold dTime
  by_cases e1 : d.k = 1
  · rw [if_pos e1, if_pos e1]; omega
  · rw [if_neg e1, if_neg e1]
    by_cases e2 : d.k = 2
    · rw [if_pos e2, if_pos e2]; omega
    · rw [if_neg e2, if_neg e2]
      have hg0 : 0 < g := by omega
      have h1 : ((i : Int) + 1) * d.t + g - 1 + g ≤ ((j : Int) + 1) * d.t + g - 1 := by
        have h2 : ((i : Int) + 1 + 1) * d.t ≤ ((j : Int) + 1) * d.t := Int.mul_le_mul_of_nonneg_right (by omega) (by omega)
        rw [Int.add_mul, Int.one_mul] at h2
        omega
      have h3 := Int.ediv_le_ediv hg0 h1
      rw [Int.add_ediv_of_dvd_right (Int.dvd_refl g), Int.ediv_self (by omega)] at h3
      omega
/-! walks -/
/-- a drum in a block -/
def DrAt (w : World) (g : Nat) (d : Dr) : Prop := w.cell? ⟨g, 0, none⟩ = some (.int .i64 d.k) ∧ w.cell? ⟨g, 1, none⟩ = some (.int .i64 d.b) ∧ w.cell? ⟨g, 2, none⟩ = some (.int .i64 d.t) ∧ w.cell? ⟨g, 3, none⟩ = some (.int .i64 d.f)
theorem DrAt.below {w w' : World} {g : Nat} {d : Dr} (h : DrAt w g d) (hb : Below w.heap.size w w') : DrAt w' g d := by
  have hlt : g < w.heap.size := World.block_lt_of_cell? w _ h.1
  exact ⟨(hb.cell (p := ⟨g, 0, none⟩) hlt).trans h.1, (hb.cell (p := ⟨g, 1, none⟩) hlt).trans h.2.1, (hb.cell (p := ⟨g, 2, none⟩) hlt).trans h.2.2.1, (hb.cell (p := ⟨g, 3, none⟩) hlt).trans h.2.2.2⟩
set_option maxRecDepth 100000 in
set_option maxHeartbeats 1600000 in
theorem ValidDrum_any (k b t f : Int) (w : World) : Calls Try.prog 41 #[.agg #[.int .i64 k, .int .i64 b, .int .i64 t, .int .i64 f]] w fun e w' => e = .returned (.bool (drOk ⟨k, b, t, f⟩)) ∧ Below w.heap.size w w' := by
  have K1 := (fun W => between_any k 1 3 W)
  have K2 := (fun W => isBase_any b W)
  have K3 := (fun W => between_any t b 60 W)
  have K4 := (fun W => between_any f 1 (t - b + 2) W)
  have HD := Lib.hid (show drOk ⟨k, b, t, f⟩ = (betB k 1 3 && (betB b 2 16 && (betB t b 60 && (if k = 3 then decide (f = 0) else betB f 1 (t - b + 2))))) from rfl)
  obtain ⟨v, hv⟩ : ∃ v, drOk ⟨k, b, t, f⟩ = v := ⟨_, rfl⟩
  rw [hv] at HD ⊢
  clear hv
  have HB := Lib.hid (fun (W : World) (hW : W = W) => True.intro)
  rcases h1 : betB k 1 3 with _ | _
  · rw [h1] at K1 HD
    replace K1 := Lib.hid K1
    clear K2 K3 K4 HB
    go_enter Try.func41, Try.ntmps41
    go_wp2_with (go_at_call 91; refine (K1.out _).mono ?_; rintro e w' ⟨rfl, rfl⟩)
    go_ret
    exact ⟨ret_bool HD.out.symm, (Below.refl _ _).alloc (Nat.le_refl _) _⟩
  rw [h1] at K1 HD
  rcases h2 : betB b 2 16 with _ | _
  · rw [h2] at K2 HD
    replace K1 := Lib.hid K1
    replace K2 := Lib.hid K2
    clear K3 K4 HB
    go_enter Try.func41, Try.ntmps41
    go_wp2_with (first
      | (go_at_call 91; refine (K1.out _).mono ?_; rintro e w' ⟨rfl, rfl⟩)
      | (go_at_call 69; refine (K2.out _).mono ?_; rintro e w' ⟨rfl, rfl⟩))
    go_ret
    exact ⟨ret_bool HD.out.symm, (Below.refl _ _).alloc (Nat.le_refl _) _⟩
  rw [h2] at K2 HD
  rcases h3 : betB t b 60 with _ | _
  · rw [h3] at K3 HD
    replace K1 := Lib.hid K1
    replace K2 := Lib.hid K2
    replace K3 := Lib.hid K3
    clear K4 HB
    go_enter Try.func41, Try.ntmps41
    go_wp2_with (first
      | (go_at_call 91; first | (with_reducible refine (K1.out _).mono ?_; rintro e w' ⟨rfl, rfl⟩) | (with_reducible refine (K3.out _).mono ?_; rintro e w' ⟨rfl, rfl⟩))
      | (go_at_call 69; refine (K2.out _).mono ?_; rintro e w' ⟨rfl, rfl⟩))
    go_ret
    exact ⟨ret_bool HD.out.symm, (Below.refl _ _).alloc (Nat.le_refl _) _⟩
  rw [h3] at K3 HD
  have b2 := betB_iff.1 h2
  have b3 := betB_iff.1 h3
  have x1 : IntKind.i64.wrap (t - b) = t - b := wrapI (by omega)
  have x2 : IntKind.i64.wrap (t - b + 2) = t - b + 2 := wrapI (by omega)
  clear h1 h2 h3 b2 b3 HB
  replace K1 := Lib.hid K1
  replace K2 := Lib.hid K2
  replace K3 := Lib.hid K3
  by_cases h4 : k = 3
  · rw [if_pos h4] at HD
    subst h4
    clear K4
    go_enter Try.func41, Try.ntmps41
    go_wp2_with (first
      | (go_at_call 91; first | (with_reducible refine (K1.out _).mono ?_; rintro e w' ⟨rfl, rfl⟩) | (with_reducible refine (K3.out _).mono ?_; rintro e w' ⟨rfl, rfl⟩))
      | (go_at_call 69; refine (K2.out _).mono ?_; rintro e w' ⟨rfl, rfl⟩))
    go_ret
    exact ⟨ret_bool (HD.out.trans (by rw [Bool.true_and, Bool.true_and, Bool.true_and]; first | rfl | simp)).symm, (Below.refl _ _).alloc (Nat.le_refl _) _⟩
  · rw [if_neg h4] at HD
    have h5 : (k == 3) = false := beq_eq_false_iff_ne.2 h4
    replace K4 := Lib.hid K4
    obtain ⟨y, hy⟩ : ∃ y, betB f 1 (t - b + 2) = y := ⟨_, rfl⟩
    rw [hy] at K4 HD
    clear hy
    go_enter Try.func41, Try.ntmps41
    go_wp2_with (first
      | (go_at_call 91; first | (with_reducible refine (K1.out _).mono ?_; rintro e w' ⟨rfl, rfl⟩) | (with_reducible refine (K3.out _).mono ?_; rintro e w' ⟨rfl, rfl⟩) | (with_reducible refine (K4.out _).mono ?_; rintro e w' ⟨rfl, rfl⟩))
      | (go_at_call 69; refine (K2.out _).mono ?_; rintro e w' ⟨rfl, rfl⟩))
    go_ret
    exact ⟨ret_bool HD.out.symm, (Below.refl _ _).alloc (Nat.le_refl _) _⟩
end Go.Proofs.Ytafnebpbfmbgiaa
