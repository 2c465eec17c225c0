/- Part 5: lemmas and contracts of the claim's functions. -/
import Derived.Test.YtkaaiocbiknipaaZC1
import Derived.Test.YtkaaiocbiknipaaZC2
import Derived.Test.YtkaaiocbiknipaaZC3
import Derived.Test.YtkaaiocbiknipaaZC4
import Derived.ProofKit
import Derived.Carry
import Derived.Deep.Slices
namespace Go.Proofs.Ytkaaiocbiknipaa
open Go.RowKit Go.Sort
theorem ownI_ri {w : World} {base n c : Nat} {A : Option Addr} {ds : List Int} (h : OwnI w base (.slice A n c) ds) : RI w A n ds := by
  obtain ⟨A', c', h1, h2, -⟩ := h.reads
  injection h1 with h1 h3 h4
  rw [h1, h3]; exact h2
theorem row_below {w w' : World} {base : Nat} {e : TypeId} {size : Nat} {v : Value} {n : Nat} {xs : List Value} (h : w.ownsRow base e size v n xs) (hb : Below w.heap.size w w') : w'.ownsRow base e size v n xs := by
  refine ⟨h.1, ?_⟩
  rcases h.2 with hn | ⟨g, cap, cur, rfl, hbg, hg, rest⟩
  · exact .inl hn
  · exact .inr ⟨g, cap, cur, rfl, hbg, by rw [hb.block g (Array.getElem?_eq_some_iff.1 hg).1]; exact hg, rest⟩
/-- trial i in the cells xs of an own row, its digits in own rows from block b on -/
def TriX (w : World) (b : Nat) (xs : List Value) (i : Nat) (t : Tri) : Prop := ∃ X1 x1 X2 x2 X3 x3, (xs[i * 7]? = some (.int .i64 t.a.base) ∧ xs[i * 7 + 1]? = some (.slice X1 t.a.digits.length x1) ∧ xs[i * 7 + 2]? = some (.int .i64 t.b.base) ∧ xs[i * 7 + 3]? = some (.slice X2 t.b.digits.length x2) ∧
    xs[i * 7 + 4]? = some (.int .i64 t.s.base) ∧ xs[i * 7 + 5]? = some (.slice X3 t.s.digits.length x3) ∧ xs[i * 7 + 6]? = some (.int .i64 t.carry)) ∧ OwnI w b (.slice X1 t.a.digits.length x1) t.a.digits ∧ OwnI w b (.slice X2 t.b.digits.length x2) t.b.digits ∧ OwnI w b (.slice X3 t.s.digits.length x3) t.s.digits
theorem TriX.below {w w' : World} {b : Nat} {xs : List Value} {i : Nat} {t : Tri} (h : TriX w b xs i t) (hb : Below w.heap.size w w') : TriX w' b xs i t := by
  obtain ⟨X1, x1, X2, x2, X3, x3, h1, h2, h3, h4⟩ := h
  exact ⟨X1, x1, X2, x2, X3, x3, h1, h2.below hb, h3.below hb, h4.below hb⟩
theorem TriX.setBelow {w : World} {b : Nat} {xs : List Value} {i : Nat} {t : Tri} (h : TriX w b xs i t) {a : Addr} (ha : a.block < b) (u : Value) : TriX (w.setCell a u) b xs i t := by
  obtain ⟨X1, x1, X2, x2, X3, x3, h1, h2, h3, h4⟩ := h
  exact ⟨X1, x1, X2, x2, X3, x3, h1, h2.setBelow ha u, h3.setBelow ha u, h4.setBelow ha u⟩
theorem row7 {w : World} {g n k : Nat} {T : TypeId} {xs : List Value} (h : w.ownsRow g T 7 (.slice (some ⟨g, 0, none⟩) n n) n xs) (hk : k < n) :
    (∃ u, w.cell? ⟨g, k * 7, none⟩ = some u) ∧ (∃ u, w.cell? ⟨g, k * 7 + 1, none⟩ = some u) ∧ (∃ u, w.cell? ⟨g, k * 7 + 2, none⟩ = some u) ∧ (∃ u, w.cell? ⟨g, k * 7 + 3, none⟩ = some u) ∧ (∃ u, w.cell? ⟨g, k * 7 + 4, none⟩ = some u) ∧ (∃ u, w.cell? ⟨g, k * 7 + 5, none⟩ = some u) ∧ (∃ u, w.cell? ⟨g, k * 7 + 6, none⟩ = some u) := by
  have hl := h.1
  have H : ∀ j, j < n * 7 → ∃ u, w.cell? ⟨g, j, none⟩ = some u := fun j hj => ⟨xs[j]'(by omega), (h.cellAt j (by omega)).trans (List.getElem?_eq_getElem (by omega))⟩
  exact ⟨H _ (by omega), H _ (by omega), H _ (by omega), H _ (by omega), H _ (by omega), H _ (by omega), H _ (by omega)⟩
def set7 (xs : List Value) (o : Nat) (v0 v1 v2 v3 v4 v5 v6 : Value) : List Value := ((((((xs.set o v0).set (o + 1) v1).set (o + 2) v2).set (o + 3) v3).set (o + 4) v4).set (o + 5) v5).set (o + 6) v6
theorem set7_ne {xs : List Value} {o i : Nat} {v0 v1 v2 v3 v4 v5 v6 : Value} (h : i < o) : (set7 xs o v0 v1 v2 v3 v4 v5 v6)[i]? = xs[i]? := by
  unfold set7
  rw [List.getElem?_set_ne (by omega), List.getElem?_set_ne (by omega), List.getElem?_set_ne (by omega), List.getElem?_set_ne (by omega), List.getElem?_set_ne (by omega), List.getElem?_set_ne (by omega), List.getElem?_set_ne (by omega)]
theorem set7_at {xs : List Value} {o : Nat} {v0 v1 v2 v3 v4 v5 v6 : Value} (h : o + 6 < xs.length) : (set7 xs o v0 v1 v2 v3 v4 v5 v6)[o]? = some v0 ∧ (set7 xs o v0 v1 v2 v3 v4 v5 v6)[o + 1]? = some v1 ∧ (set7 xs o v0 v1 v2 v3 v4 v5 v6)[o + 2]? = some v2 ∧ (set7 xs o v0 v1 v2 v3 v4 v5 v6)[o + 3]? = some v3 ∧
    (set7 xs o v0 v1 v2 v3 v4 v5 v6)[o + 4]? = some v4 ∧ (set7 xs o v0 v1 v2 v3 v4 v5 v6)[o + 5]? = some v5 ∧ (set7 xs o v0 v1 v2 v3 v4 v5 v6)[o + 6]? = some v6 := by
  unfold set7
  refine ⟨?_, ?_, ?_, ?_, ?_, ?_, ?_⟩ <;>
    (repeat rw [List.getElem?_set_ne (by omega)]) <;> rw [List.getElem?_set_self (by first | omega | (simp only [List.length_set]; omega))]
theorem stored7 {w : World} {g n : Nat} {T : TypeId} {xs : List Value} (h : w.ownsRow g T 7 (.slice (some ⟨g, 0, none⟩) n n) n xs) (o : Nat) (v0 v1 v2 v3 v4 v5 v6 : Value) :
    (((((((w.setCell ⟨g, o, none⟩ v0).setCell ⟨g, o + 1, none⟩ v1).setCell ⟨g, o + 2, none⟩ v2).setCell ⟨g, o + 3, none⟩ v3).setCell ⟨g, o + 4, none⟩ v4).setCell ⟨g, o + 5, none⟩ v5).setCell ⟨g, o + 6, none⟩ v6).ownsRow g T 7 (.slice (some ⟨g, 0, none⟩) n n) n (set7 xs o v0 v1 v2 v3 v4 v5 v6) :=
  ((((((((h.stored o v0).1.stored (o + 1) v1).1.stored (o + 2) v2).1.stored (o + 3) v3).1.stored (o + 4) v4).1.stored (o + 5) v5).1.stored (o + 6) v6)).1
end Go.Proofs.Ytkaaiocbiknipaa

namespace Go.Proofs.Ytkaaiocbiknipaa
open Go.RowKit Go.Sort
/-- numbers were stored into blocks of P -/
inductive Marks (P : Nat → Prop) : World → World → Prop
  | refl (w : World) : Marks P w w
  | step {w w' : World} {b : Nat} (h : Marks P w w') (hb : P b) (j : Nat) (u : Int) : Marks P w (w'.setCell ⟨b, j, none⟩ (.int .i64 u))
theorem Marks.trans {P : Nat → Prop} {a b c : World} (h1 : Marks P a b) (h2 : Marks P b c) : Marks P a c := by
  induction h2 with
  | refl => exact h1
  | step _ hb j u ih => exact ih.step hb j u
theorem Marks.weaken {P Q : Nat → Prop} {a b : World} (h : Marks P a b) (hq : ∀ k, P k → Q k) : Marks Q a b := by
  induction h with
  | refl => exact .refl _
  | step _ hb j u ih => exact ih.step (hq _ hb) j u
theorem Marks.under {P : Nat → Prop} {B : Nat} {a w w' : World} (h : Marks P w w') (hb : Below B a w) (hP : ∀ k, P k → B ≤ k) : Below B a w' := by
  induction h with
  | refl => exact hb
  | step _ hk j u ih => exact ih.setCell (hP _ hk) _
theorem Marks.size {P : Nat → Prop} {w w' : World} (h : Marks P w w') : w'.heap.size = w.heap.size := by
  induction h with
  | refl => rfl
  | step _ hk j u ih => rw [← ih]; simp [World.setCell]
theorem Marks.block {P : Nat → Prop} {w w' : World} (h : Marks P w w') {k : Nat} (hk : ¬ P k) : w'.heap[k]? = w.heap[k]? := by
  induction h with
  | refl => rfl
  | step _ hb j u ih => rw [← ih]; exact heap_setCell_other _ _ k _ (fun e => hk (by rw [e]; exact hb))
theorem map_set_int (ds : List Int) (j : Nat) (u : Int) : (ds.map (Value.int .i64)).set j (.int .i64 u) = (ds.set j u).map (Value.int .i64) := by
  rw [List.map_set]
theorem OwnI.setAny {w : World} {base : Nat} {v : Value} {ds : List Int} (h : OwnI w base v ds) (b j : Nat) (u : Int) : ∃ ds', ds'.length = ds.length ∧ OwnI (w.setCell ⟨b, j, none⟩ (.int .i64 u)) base v ds' := by
  have h' := h
  rcases h.2 with ⟨rfl, hn⟩ | ⟨g, cap, cur, rfl, hb, hg, rest⟩
  · exact ⟨ds, rfl, by simp [hn], .inl ⟨rfl, hn⟩⟩
  · by_cases hgb : g = b
    · subst hgb
      refine ⟨ds.set j u, by simp, ?_⟩
      have hs := (World.ownsRow.stored h j (.int .i64 u)).1
      rw [map_set_int] at hs
      unfold OwnI
      rw [List.length_set]
      exact hs
    · refine ⟨ds, rfl, h.1, .inr ⟨g, cap, cur, rfl, hb, ?_, rest⟩⟩
      rw [heap_setCell_other _ _ _ _ (by simpa using hgb)]
      exact hg
theorem Marks.ownI {P : Nat → Prop} {w w' : World} (h : Marks P w w') {base : Nat} {v : Value} {ds : List Int} (ho : OwnI w base v ds) : ∃ ds', ds'.length = ds.length ∧ OwnI w' base v ds' := by
  induction h with
  | refl => exact ⟨ds, rfl, ho⟩
  | step _ hb j u ih =>
    obtain ⟨d1, l1, o1⟩ := ih
    obtain ⟨d2, l2, o2⟩ := o1.setAny _ j u
    exact ⟨d2, l2.trans l1, o2⟩
/-- k, k + 1, .. -/
def upto (k : Int) (n : Nat) : List Int := (List.range n).map (fun (i : Nat) => k + (i : Int))
theorem upto_len (k : Int) (n : Nat) : (upto k n).length = n := by simp [upto]
theorem upto_get (k : Int) {n i : Nat} (h : i < n) : (upto k n)[i]? = some (k + i) := by simp [upto, h]
/-- the first j are marked -/
def marked (k : Int) (ds : List Int) (j : Nat) : List Int := upto k j ++ ds.drop j
theorem marked_len (k : Int) (ds : List Int) {j : Nat} (h : j ≤ ds.length) : (marked k ds j).length = ds.length := by simp [marked, upto_len]; omega
theorem marked_set (k : Int) (ds : List Int) {j : Nat} (h : j < ds.length) : (marked k ds j).set j (k + j) = marked k ds (j + 1) := by
  unfold marked
  rw [List.set_append_right _ _ (by rw [upto_len]; exact Nat.le_refl _), upto_len, Nat.sub_self, List.drop_eq_getElem_cons h, List.set_cons_zero]
  simp [upto, List.range_succ]
set_option maxHeartbeats 800000 in
theorem markInt64S_any (base : Nat) (A : Option Addr) (n c : Nat) (ds : List Int) (k : Int) (w : World) (ho : OwnI w base (.slice A n c) ds) (hl : ds.length = n) (h0 : 0 ≤ k) (hk : k + n ≤ 4611686018427387904) :
    Calls Try.prog 55 #[.slice A n c, .int .i64 k] w fun e w' => e = .returned (.int .i64 (k + n)) ∧ Marks (fun b => (Value.slice A n c).ownBlock = some b) w w' ∧ OwnI w' base (.slice A n c) (upto k n) := by
  have HL := Lib.hid hl
  rcases ho.2 with ⟨hv, hn⟩ | ⟨g, cap, cur, hv, hb, hg, rest⟩
  · injection hv with e1 e2 e3
    subst e1; subst e3
    have hn0 : n = 0 := by rw [← hl]; exact hn
    subst hn0
    go_enter Try.func55, Try.ntmps55
    go_wp2
    go_loopw [5, 1] (fun i kk wr => i = .int .i64 0 ∧ kk = .int .i64 k ∧ w = wr) (fun _ _ _ => 0)
    case atStart => exact ⟨rfl, rfl, rfl⟩
    case round =>
      obtain ⟨rfl, rfl, rfl⟩ := hrel
      have HN := Lib.hid (List.eq_nil_of_length_eq_zero HL.out)
      have HO := Lib.hid ho
      clear ho hl
      go_wp2
      go_ret
      exact ⟨ret_int (by simp), .refl _, by have h := HO.out; rw [HN.out] at h; simpa [upto] using h⟩
  · injection hv with e1 e2 e3
    subst e1; subst e3
    clear hg rest
    have hz : (marked k ds 0) = ds := by simp [marked, upto]
    have HO := Lib.hid ho
    have HZ := Lib.hid hz
    clear hz hl ho
    go_enter Try.func55, Try.ntmps55
    go_wp2
    go_loopw [5, 1] (fun i kk wr => ∃ j : Nat, j ≤ n ∧ i = .int .i64 j ∧ kk = .int .i64 (k + j) ∧ OwnI wr base (.slice (some ⟨g, 0, none⟩) n c) (marked k ds j) ∧ Marks (fun b => (some g : Option Nat) = some b) w wr) (fun i _ _ => n - (intOf i).toNat)
    case atStart => exact ⟨0, Nat.zero_le _, rfl, by simp, by rw [HZ.out]; exact HO.out, .refl _⟩
    case round =>
      obtain ⟨j, hj, rfl, rfl, hown, hmk⟩ := hrel
      by_cases hjn : j < n
      · have hlen := marked_len k ds (j := j) (by have := HL.out; omega)
        have hi0 : (0 : Int) ≤ (j : Int) := by omega
        have hi1 : (j : Int) < (n : Int) := by omega
        unfold OwnI at hown
        rw [hlen, HL.out] at hown
        obtain ⟨u, hu⟩ : ∃ u, ((marked k ds j).map (Value.int .i64))[j]? = some u := ⟨_, List.getElem?_eq_getElem (by rw [List.length_map]; have := HL.out; omega)⟩
        have hcell := (World.ownsRow.cellAt hown j (by have := HL.out; omega)).trans hu
        clear hu
        have hfz := World.ownsRow.frozenAt hown j
        have hst := (World.ownsRow.stored hown j (.int .i64 (k + j))).1
        rw [map_set_int, marked_set k ds (by have := HL.out; omega)] at hst
        have hst2 : OwnI (wr.setCell ⟨g, j, none⟩ (.int .i64 (k + j))) base (.slice (some ⟨g, 0, none⟩) n c) (marked k ds (j + 1)) := by
          unfold OwnI
          rw [marked_len k ds (by have := HL.out; omega), HL.out]
          exact hst
        have HST := Lib.hid hst2
        have HMK := Lib.hid hmk
        clear hst hst2 hown hmk hlen
        go_wp2
        go_roundw
        case rel => exact ⟨j + 1, by omega, by go_num, by go_num, HST.out, HMK.out.step rfl j (k + j)⟩
        case measure => simp [intOf]; omega
      · have HJ : Hid (j = n) := by simp only [Hid]; omega
        have HM : Hid (marked k ds j = upto k n) := by
          simp only [Hid]
          rw [HJ.out]
          simp [marked, List.drop_eq_nil_of_le (Nat.le_of_eq HL.out)]
        have HOWN := Lib.hid hown
        have HMK := Lib.hid hmk
        clear hown hmk
        go_wp2
        go_ret
        exact ⟨ret_int (by rw [HJ.out]), HMK.out, by rw [← HM.out]; exact HOWN.out⟩
set_option maxHeartbeats 800000 in
theorem heldInt64S_any (A : Option Addr) (n c : Nat) (k : Int) (w : World) (hr : RI w A n (upto k n)) (h0 : 0 ≤ k) (hk : k + n ≤ 4611686018427387904) :
    Calls Try.prog 56 #[.slice A n c, .int .i64 k] w fun e w' => e = .returned (.int .i64 (k + n)) ∧ w = w' := by
  go_enter Try.func56, Try.ntmps56
  go_wp2
  go_loopw [5, 1] (fun i kk wr => ∃ j : Nat, j ≤ n ∧ i = .int .i64 j ∧ kk = .int .i64 (k + j) ∧ w = wr) (fun i _ _ => n - (intOf i).toNat)
  case atStart => exact ⟨0, Nat.zero_le _, rfl, by simp, rfl⟩
  case round =>
    obtain ⟨j, hj, rfl, rfl, rfl⟩ := hrel
    by_cases hjn : j < n
    · obtain ⟨ad, hA, hlt, hkl, hc⟩ := hr.at_ hjn
      have hv : (upto k n)[j] = k + j := by have h := upto_get k hjn; rw [List.getElem?_eq_getElem hkl] at h; exact Option.some.inj h
      rw [hv] at hc
      have hi0 : (0 : Int) ≤ (j : Int) := by omega
      have hi1 : (j : Int) < (n : Int) := by omega
      subst hA
      clear hv
      go_wp2
      go_roundw
      case rel => exact ⟨j + 1, by omega, by go_num, by go_num, by simp⟩
      case measure => simp [intOf]; omega
    · have HJ : Hid (j = n) := by simp only [Hid]; omega
      go_wp2
      go_ret
      exact ⟨ret_int (by rw [HJ.out]), rfl⟩
end Go.Proofs.Ytkaaiocbiknipaa

namespace Go.Proofs.Ytkaaiocbiknipaa
open Go.RowKit Go.Sort
theorem Marks.chg {P : Nat → Prop} {w w' : World} (h : Marks P w w') : Chg P w w' := by
  induction h with
  | refl => exact ⟨rfl, rfl, rfl, Nat.le_refl _, fun _ _ _ => rfl⟩
  | step h hb j u ih =>
    refine ⟨ih.os, ih.tape, ih.output, Nat.le_trans ih.size (by simp [World.setCell]), fun k hk hn => ?_⟩
    rw [Below.heap_setCell _ _ _ _ (fun e => hn (by rw [e]; exact hb))]
    exact ih.block k hk hn
def rowN (A : Option Addr) (n c : Nat) (ds : List Int) : Ent := .row (.slice A n c) 2 1 n (ds.map (Value.int .i64))
theorem Kn.marks {w0 w w' : World} {m : List Ent} {A : Option Addr} {n c : Nat} {ds ds' : List Int} (h : Kn w0 (rowN A n c ds :: m) w) (hm : Marks (fun b => (Value.slice A n c).ownBlock = some b) w w') (ho : OwnI w' 0 (.slice A n c) ds') (hl : ds'.length = n) : Kn w0 (rowN A n c ds' :: m) w' := by
  subst hl
  exact h.upd (e' := rowN A ds'.length c ds') hm.chg ho (fun k hk => .inl hk)
theorem Kn.ownN {w0 w : World} {m : List Ent} {A : Option Addr} {n c : Nat} {ds : List Int} (h : Kn w0 (rowN A n c ds :: m) w) : OwnI w 0 (.slice A n c) ds ∧ ds.length = n := by
  have h1 : w.ownsRow 0 2 1 (.slice A n c) n (ds.map (Value.int .i64)) := h.at0
  have h2 := h1.1
  rw [List.length_map, Nat.mul_one] at h2
  subst h2
  exact ⟨h1, rfl⟩
theorem Kn.riN {w0 w : World} {m : List Ent} {A : Option Addr} {n c : Nat} {ds : List Int} (h : Kn w0 (rowN A n c ds :: m) w) : RI w A n ds := h.ownN.1.ri
theorem Kn.tail3 {w0 w : World} {m : List Ent} {a b c d : Ent} (h : Kn w0 (a :: b :: c :: d :: m) w) : Kn w0 (b :: c :: d :: a :: m) w := h.perm (List.perm_middle (a := a) (l₁ := [b, c, d]) (l₂ := m)).symm
theorem Kn.rot3 {w0 w : World} {m : List Ent} {b c d : Ent} (h : Kn w0 (b :: c :: d :: m) w) : Kn w0 (c :: d :: b :: m) w := h.perm (List.perm_middle (a := b) (l₁ := [c, d]) (l₂ := m)).symm
theorem markRegister_kn (w0 : World) (m : List Ent) (b : Int) (A : Option Addr) (n c : Nat) (ds : List Int) (k : Int) (w : World) (hK : Kn w0 (rowN A n c ds :: m) w) (h0 : 0 ≤ k) (hk : k + n ≤ 4611686018427387904) :
    Calls Try.prog 141 #[.agg #[.int .i64 b, .slice A n c], .int .i64 k] w fun e w' => e = .returned (.int .i64 (k + n)) ∧ Kn w0 (rowN A n c (upto k n) :: m) w' := by
  have hKa := hK.al_ (.cells #[.int .i64 b, .slice A n c] 26)
  go_enter Try.func141, Try.ntmps141
  go_wp2_with fail
  refine Calls.kn hKa ?_; intro w1 hK1
  obtain ⟨ho, hl⟩ := hK1.ownN
  refine (markInt64S_any 0 A n c ds k w1 ho hl h0 hk).mono ?_; rintro e w2 ⟨rfl, hm, ho2⟩
  have hK2 := hK1.marks hm ho2 (upto_len k n)
  clear ho hl hm ho2 hKa
  go_wp2_with fail
  go_ret
  exact ⟨rfl, hK2⟩
theorem heldRegister_any (b : Int) (A : Option Addr) (n c : Nat) (k : Int) (w : World) (hr : RI w A n (upto k n)) (h0 : 0 ≤ k) (hk : k + n ≤ 4611686018427387904) :
    Calls Try.prog 142 #[.agg #[.int .i64 b, .slice A n c], .int .i64 k] w fun e w' => e = .returned (.int .i64 (k + n)) ∧ Below w.heap.size w w' := by
  have hK := (Kn.nil w).al [.int .i64 b, .slice A n c] 26
  have hr' := hr.below hK.below
  have i0 : ¬ k + (n : Int) < 0 := by omega
  go_enter Try.func142, Try.ntmps142
  go_wp2_with fail
  refine (heldInt64S_any A n c k _ hr' h0 hk).mono ?_; rintro e w2 ⟨rfl, rfl⟩
  go_wp2_with fail
  go_ret
  exact ⟨rfl, hK.below⟩
set_option maxHeartbeats 800000 in
theorem markMachine_kn (w0 : World) (m : List Ent) (b1 b2 b3 cy : Int) (A1 A2 A3 : Option Addr) (n1 n2 n3 c1 c2 c3 : Nat) (d1 d2 d3 : List Int) (k : Int) (w : World) (hK : Kn w0 (rowN A3 n3 c3 d3 :: rowN A2 n2 c2 d2 :: rowN A1 n1 c1 d1 :: m) w) (h0 : 0 ≤ k) (hk : k + n1 + n2 + n3 ≤ 4611686018427387904) :
    Calls Try.prog 53 #[.agg #[.int .i64 b1, .slice A1 n1 c1, .int .i64 b2, .slice A2 n2 c2, .int .i64 b3, .slice A3 n3 c3, .int .i64 cy], .int .i64 k] w fun e w' => e = .returned (.int .i64 (k + n1 + n2 + n3)) ∧ Kn w0 (rowN A3 n3 c3 (upto (k + n1 + n2) n3) :: rowN A2 n2 c2 (upto (k + n1) n2) :: rowN A1 n1 c1 (upto k n1) :: m) w' := by
  have hKb := (hK.al [.int .i64 b1, .slice A1 n1 c1, .int .i64 b2, .slice A2 n2 c2, .int .i64 b3, .slice A3 n3 c3, .int .i64 cy] 65).sw3
  go_enter Try.func53, Try.ntmps53
  go_wp2_with fail
  refine (markRegister_kn w0 _ b1 A1 n1 c1 d1 k _ hKb h0 (by omega)).mono ?_; rintro e w1 ⟨rfl, hK1⟩
  obtain ⟨a1, a2, a3, -⟩ := hK1.cells
  go_wp2_with fail
  refine (markRegister_kn w0 _ b2 A2 n2 c2 d2 _ _ hK1.sw3 (by omega) (by omega)).mono ?_; rintro e w2 ⟨rfl, hK2⟩
  clear a1 a2 a3
  obtain ⟨a1, a2, a3, -⟩ := hK2.cells
  go_wp2_with fail
  refine (markRegister_kn w0 _ b3 A3 n3 c3 d3 _ _ hK2.sw3 (by omega) (by omega)).mono ?_; rintro e w3 ⟨rfl, hK3⟩
  go_wp2_with fail
  go_ret
  exact ⟨rfl, hK3.sw3.drop⟩
set_option maxHeartbeats 800000 in
theorem heldMachine_any (b1 b2 b3 cy : Int) (A1 A2 A3 : Option Addr) (n1 n2 n3 c1 c2 c3 : Nat) (k : Int) (w : World) (r1 : RI w A1 n1 (upto k n1)) (r2 : RI w A2 n2 (upto (k + n1) n2)) (r3 : RI w A3 n3 (upto (k + n1 + n2) n3)) (h0 : 0 ≤ k) (hk : k + n1 + n2 + n3 ≤ 4611686018427387904) :
    Calls Try.prog 59 #[.agg #[.int .i64 b1, .slice A1 n1 c1, .int .i64 b2, .slice A2 n2 c2, .int .i64 b3, .slice A3 n3 c3, .int .i64 cy], .int .i64 k] w fun e w' => e = .returned (.int .i64 (k + n1 + n2 + n3)) ∧ Below w.heap.size w w' := by
  have R1 := Lib.hid (fun W (hW : Below w.heap.size w W) => heldRegister_any b1 A1 n1 c1 k W (r1.below hW) h0 (by omega))
  have R2 := Lib.hid (fun W (hW : Below w.heap.size w W) => heldRegister_any b2 A2 n2 c2 (k + n1) W (r2.below hW) (by omega) (by omega))
  have R3 := Lib.hid (fun W (hW : Below w.heap.size w W) => heldRegister_any b3 A3 n3 c3 (k + n1 + n2) W (r3.below hW) (by omega) (by omega))
  have i1 : ¬ k + (n1 : Int) < 0 := by omega
  have i2 : ¬ k + (n1 : Int) + (n2 : Int) < 0 := by omega
  have i3 : ¬ k + (n1 : Int) + (n2 : Int) + (n3 : Int) < 0 := by omega
  have hKb := (Kn.nil w).al [.int .i64 b1, .slice A1 n1 c1, .int .i64 b2, .slice A2 n2 c2, .int .i64 b3, .slice A3 n3 c3, .int .i64 cy] 65
  clear r1 r2 r3
  go_enter Try.func59, Try.ntmps59
  go_wp2_with fail
  refine (R1.out _ hKb.below).mono ?_; rintro e w1 ⟨rfl, hw⟩
  have hK1 := hKb.keep hw
  clear hw hKb
  obtain ⟨a1, a2, a3, -⟩ := hK1.cells
  go_wp2_with fail
  refine (R2.out _ hK1.below).mono ?_; rintro e w2 ⟨rfl, hw⟩
  have hK2 := hK1.keep hw
  clear hw hK1 a1 a2 a3
  obtain ⟨a1, a2, a3, -⟩ := hK2.cells
  go_wp2_with fail
  refine (R3.out _ hK2.below).mono ?_; rintro e w3 ⟨rfl, hw⟩
  have hK3 := hK2.keep hw
  clear hw hK2 a1 a2 a3
  go_wp2_with fail
  go_ret
  exact ⟨rfl, hK3.below⟩
theorem eqM_same (b1 b2 b3 cy : Int) (A1 A2 A3 B1 B2 B3 : Option Addr) (n1 n2 n3 c1 c2 c3 e1 e2 e3 : Nat) (d1 d2 d3 : List Int) (w : World)
    (r1 : RI w A1 n1 d1) (r2 : RI w A2 n2 d2) (r3 : RI w A3 n3 d3) (s1 : RI w B1 n1 d1) (s2 : RI w B2 n2 d2) (s3 : RI w B3 n3 d3)
    (hm1 : n1 ≤ 1048576) (hm2 : n2 ≤ 1048576) (hm3 : n3 ≤ 1048576) :
    Calls Try.prog 46 #[.agg #[.int .i64 b1, .slice A1 n1 c1, .int .i64 b2, .slice A2 n2 c2, .int .i64 b3, .slice A3 n3 c3, .int .i64 cy], .agg #[.int .i64 b1, .slice B1 n1 e1, .int .i64 b2, .slice B2 n2 e2, .int .i64 b3, .slice B3 n3 e3, .int .i64 cy]] w fun e w' => e = .returned (.bool true) ∧ Below w.heap.size w w' :=
  (eqMachine_any b1 b2 b3 cy b1 b2 b3 cy A1 A2 A3 B1 B2 B3 n1 n2 n3 c1 c2 c3 n1 n2 n3 e1 e2 e3 d1 d2 d3 d1 d2 d3 w r1 r2 r3 s1 s2 s3 hm1 hm2 hm3 hm1 hm2 hm3).mono fun e w' ⟨h, hb⟩ => ⟨by rw [h]; simp, hb⟩
theorem Kn.addN {w0 w w' : World} {m : List Ent} {A : Option Addr} {n c : Nat} {ds : List Int} (h : Kn w0 m w) (hb : Below w.heap.size w w') (ho : OwnI w' w.heap.size (.slice A n c) ds) (hl : ds.length = n) : Kn w0 (rowN A n c ds :: m) w' := by
  subst hl
  exact h.addI hb ho
theorem toInt64S_kn (A : Option Addr) (n c : Nat) (ds : List Int) (w : World) (hr : RI w A n ds) (hm : n ≤ 1048576) :
    Calls Try.prog 61 #[.slice A n c] w fun e w' => ∃ X x, e = .returned (.slice X n x) ∧ Kn w [rowN X n x ds] w' :=
  (toInt64S_any A n c ds w hr hm).mono fun _ _ ⟨X, x, h1, ho, hb⟩ => ⟨X, x, h1, (Kn.nil w).addN hb ho hr.1⟩
theorem lf_small {left n : Int} (h : ¬ lft left n < 0) (hl : left ≤ 1048576) : n ≤ 1048576 := by unfold lft at h; split at h <;> omega
theorem lf3_small {n1 n2 n3 : Int} (p1 : 0 ≤ n1) (p2 : 0 ≤ n2) (_p3 : 0 ≤ n3) (h : ¬ lft3 1048576 n1 n2 n3 < 0) : n1 ≤ 1048576 ∧ n2 ≤ 1048576 ∧ n3 ≤ 1048576 := by
  unfold lft3 at h
  split at h
  · omega
  · rename_i k1
    split at h
    · omega
    · rename_i k2
      have h1 := lf_small k1 (Int.le_refl _)
      have b1 := lft_bd 1048576 n1 (by omega) p1
      have h2 := lf_small k2 b1.2
      have b2 := lft_bd _ n2 b1.1 p2
      have h3 := lf_small h (by omega)
      exact ⟨h1, h2, h3⟩
theorem lf3_lo (n1 n2 n3 : Int) (p1 : 0 ≤ n1) (p2 : 0 ≤ n2) (p3 : 0 ≤ n3) : lft3 1048576 n1 n2 n3 ≤ 1048576 ∧ -1 ≤ lft3 1048576 n1 n2 n3 := by
  unfold lft3
  have b1 := lft_bd 1048576 n1 (by omega) p1
  have b2 := lft_bd _ n2 b1.1 p2
  have b3 := lft_bd _ n3 b2.1 p3
  split
  · omega
  · split <;> omega
theorem eqI_same (A B : Option Addr) (n c d : Nat) (ds : List Int) (w : World) (hr : RI w A n ds) (hs : RI w B n ds) (hm : n ≤ 1048576) :
    Calls Try.prog 51 #[.slice A n c, .slice B n d] w fun e w' => e = .returned (.bool true) ∧ Below w.heap.size w w' :=
  (eqInt64S_any A B n c n d ds ds w hr hs (by omega) (by omega)).mono fun e w' ⟨h, q, hq⟩ => ⟨by rw [h]; simp, by rw [hq]; exact drewN_below q⟩
theorem markI_kn (w0 : World) (m : List Ent) (A : Option Addr) (n c : Nat) (ds : List Int) (k : Int) (w : World) (hK : Kn w0 (rowN A n c ds :: m) w) (h0 : 0 ≤ k) (hk : k + n ≤ 4611686018427387904) :
    Calls Try.prog 55 #[.slice A n c, .int .i64 k] w fun e w' => e = .returned (.int .i64 (k + n)) ∧ Kn w0 (rowN A n c (upto k n) :: m) w' := by
  obtain ⟨ho, hl⟩ := hK.ownN
  exact (markInt64S_any 0 A n c ds k w ho hl h0 hk).mono fun e w' ⟨h, hm, ho2⟩ => ⟨h, hK.marks hm ho2 (upto_len k n)⟩
set_option maxRecDepth 100000 in
set_option maxHeartbeats 1600000 in
theorem toMachine_kn (b1 b2 b3 cy : Int) (A1 A2 A3 : Option Addr) (n1 n2 n3 c1 c2 c3 : Nat) (d1 d2 d3 : List Int) (w : World) (r1 : RI w A1 n1 d1) (r2 : RI w A2 n2 d2) (r3 : RI w A3 n3 d3) (hm1 : n1 ≤ 1048576) (hm2 : n2 ≤ 1048576) (hm3 : n3 ≤ 1048576) :
    Calls Try.prog 44 #[.agg #[.int .i64 b1, .slice A1 n1 c1, .int .i64 b2, .slice A2 n2 c2, .int .i64 b3, .slice A3 n3 c3, .int .i64 cy]] w fun e w' => ∃ X1 x1 X2 x2 X3 x3, e = .returned (.agg #[.int .i64 b1, .slice X1 n1 x1, .int .i64 b2, .slice X2 n2 x2, .int .i64 b3, .slice X3 n3 x3, .int .i64 cy]) ∧
      Kn w [rowN X3 n3 x3 d3, rowN X2 n2 x2 d2, rowN X1 n1 x1 d1] w' := by
  have K1 := Lib.hid (fun W (hW : Below w.heap.size w W) => toRegister_any b1 A1 n1 c1 d1 W (r1.below hW) hm1)
  have K2 := Lib.hid (fun W (hW : Below w.heap.size w W) => toRegister_any b2 A2 n2 c2 d2 W (r2.below hW) hm2)
  have K3 := Lib.hid (fun W (hW : Below w.heap.size w W) => toRegister_any b3 A3 n3 c3 d3 W (r3.below hW) hm3)
  have L1 := Lib.hid r1.1
  have L2 := Lib.hid r2.1
  have L3 := Lib.hid r3.1
  clear r1 r2 r3
  go_enter Try.func44, Try.ntmps44
  go_wp2_with fail
  refine Calls.kn ((((Kn.nil w).al [.int .i64 b1, .slice A1 n1 c1, .int .i64 b2, .slice A2 n2 c2, .int .i64 b3, .slice A3 n3 c3, .int .i64 cy] 60).al [.int .i64 0, .slice none 0 0, .int .i64 0, .slice none 0 0, .int .i64 0, .slice none 0 0, .int .i64 0] 65).al [.int .i64 0, .slice none 0 0, .int .i64 0, .slice none 0 0, .int .i64 0, .slice none 0 0, .int .i64 0] 65) ?_; intro w1 hK1
  simp only [World.size_alloc] at hK1
  (with_reducible refine (K1.out _ hK1.below).mono ?_); rintro e w2 ⟨X1, x1, rfl, ho, hb⟩
  have hK2 := hK1.addN hb ho L1.out
  clear hK1 ho hb
  obtain ⟨a1, a2, a3, d1', d2', d3', e1, e2, e3, -⟩ := hK2.cells
  go_wp2_with fail
  refine Calls.kn ((hK2.sw1.st 0 (.int .i64 b1)).st 1 (.slice X1 n1 x1)) ?_; intro w3 hK3
  clear hK2 a1 a2 a3 d1' d2' d3' e1 e2 e3
  (with_reducible refine (K2.out _ hK3.below).mono ?_); rintro e w4 ⟨X2, x2, rfl, ho, hb⟩
  have hK4 := hK3.addN hb ho L2.out
  clear hK3 ho hb
  obtain ⟨a1, a2, a3, d1', d2', d3', e1, e2, e3, -⟩ := hK4.cells
  go_wp2_with fail
  refine Calls.kn ((hK4.sw1.st 2 (.int .i64 b2)).st 3 (.slice X2 n2 x2)) ?_; intro w5 hK5
  clear hK4 a1 a2 a3 d1' d2' d3' e1 e2 e3
  (with_reducible refine (K3.out _ hK5.below).mono ?_); rintro e w6 ⟨X3, x3, rfl, ho, hb⟩
  have hK6 := hK5.addN hb ho L3.out
  clear hK5 ho hb
  obtain ⟨a1, a2, a3, d1', d2', d3', e1, e2, e3, -⟩ := hK6.cells
  have ne1 := hK6.ne 1 5 rfl rfl (by decide)
  have ne2 := ne1.symm
  have ne3 := hK6.ne 1 4 rfl rfl (by decide)
  have ne4 := ne3.symm
  go_wp2_with fail
  refine bodyPost.kn ((((((((((hK6.sw1.st 4 (.int .i64 b3)).st 5 (.slice X3 n3 x3)).st 6 (.int .i64 cy)).front 4 rfl).st 0 (.int .i64 b1)).st 1 (.slice X1 n1 x1)).st 2 (.int .i64 b2)).st 3 (.slice X2 n2 x2)).st 4 (.int .i64 b3)).st 5 (.slice X3 n3 x3) |>.st 6 (.int .i64 cy)) ?_; intro w7 hK7
  clear a1 a2 a3 d1' d2' d3' e1 e2 e3
  obtain ⟨a1, a2, a3, -⟩ := hK7.cells
  refine bodyPost_ret (v := .agg #[.int .i64 b1, .slice X1 n1 x1, .int .i64 b2, .slice X2 n2 x2, .int .i64 b3, .slice X3 n3 x3, .int .i64 cy]) (by simp [results, Try.results44, go_sem, a1]) rfl ⟨X1, x1, X2, x2, X3, x3, rfl, ?_⟩
  exact hK7.sel [2, 3, 4] 99 (by decide) (by decide)
end Go.Proofs.Ytkaaiocbiknipaa

namespace Go.Proofs.Ytkaaiocbiknipaa
open Go.RowKit Go.Sort
theorem szInstrS_any (A : Option Addr) (n c : Nat) (left : Int) (w : World) (h1 : 0 ≤ left) (h2 : left ≤ 1048576) (hn : n ≤ 9223372036854775807) :
    Calls Try.prog 47 #[.slice A n c, .int .i64 left] w fun e w' => e = .returned (.int .i64 (if (n : Int) ≤ left then left - n else -1)) ∧ w = w' := by
  by_cases h : (n : Int) ≤ left
  · have hi : ¬ left - (n : Int) < 0 := by omega
    go_enter Try.func47, Try.ntmps47
    go_wp2
    go_ret
    exact ⟨ret_int (by first | rfl | (split <;> omega)), rfl⟩
  · have hi : left - (n : Int) < 0 := by omega
    go_enter Try.func47, Try.ntmps47
    go_wp2
    go_ret
    exact ⟨ret_int (by first | rfl | (split <;> omega)), rfl⟩
theorem toInstr_any (x : Ins) (w : World) : Calls Try.prog 138 #[.agg #[.int .i64 x.op, .int .i64 x.arg]] w fun e w' => e = .returned (.agg #[.int .i64 x.op, .int .i64 x.arg]) ∧ Below w.heap.size w w' := by
  go_enter Try.func138, Try.ntmps138
  go_wp2_with fail
  refine bodyPost.kn ((((Kn.nil w).al [.int .i64 x.op, .int .i64 x.arg] 158).al [.int .i64 x.op, .int .i64 x.arg] 156).al_ _) ?_; intro w7 hK7
  simp only [World.size_alloc] at hK7
  obtain ⟨a1, a2, a3, -⟩ := hK7.cells
  exact bodyPost_ret (v := .agg #[.int .i64 x.op, .int .i64 x.arg]) (by simp [results, Try.results138, go_sem, a1]) rfl ⟨rfl, hK7.below⟩
theorem eqInstr_any (x : Ins) (w : World) : Calls Try.prog 140 #[.agg #[.int .i64 x.op, .int .i64 x.arg], .agg #[.int .i64 x.op, .int .i64 x.arg]] w fun e w' => e = .returned (.bool true) ∧ Below w.heap.size w w' := by
  go_enter Try.func140, Try.ntmps140
  go_wp2_with fail
  go_ret
  exact ⟨rfl, ((Below.refl _ _).alloc (Nat.le_refl _) _).alloc (by simp) _⟩
theorem info_ins : (Try.prog.info? 156).map (fun i => (i.zero, i.size, i.bytes)) = some (some (.agg #[.int .i64 0, .int .i64 0]), 2, 16) := by kernel_rfl
theorem cellsIns_ext {xs : List Ins} {cs : List Value} (hl : cs.length = xs.length * 2) (h : ∀ (i : Nat) (h : i < xs.length), cs[i * 2]? = some (.int .i64 xs[i].op) ∧ cs[i * 2 + 1]? = some (.int .i64 xs[i].arg)) : cs = cellsIns xs := by
  apply List.ext_getElem?
  intro j
  by_cases hj : j < xs.length * 2
  · obtain ⟨h1, h2⟩ := h (j / 2) (by omega)
    obtain ⟨h3, h4⟩ := cellsIns_get xs (j / 2) (by omega)
    rcases Nat.mod_two_eq_zero_or_one j with he | he
    · have e : j / 2 * 2 = j := by omega
      rw [e] at h1 h3; rw [h1, h3]
    · have e : j / 2 * 2 + 1 = j := by omega
      rw [e] at h2 h4; rw [h2, h4]
  · rw [List.getElem?_eq_none (by omega), List.getElem?_eq_none (by rw [cellsIns_len]; omega)]
def rowInsN (A : Option Addr) (n c : Nat) (xs : List Ins) : Ent := .row (.slice A n c) 156 2 n (cellsIns xs)
theorem Kn.rlInsN {w0 w : World} {m : List Ent} {A : Option Addr} {n c : Nat} {xs : List Ins} (h : Kn w0 (rowInsN A n c xs :: m) w) (hl : xs.length = n) : RL InsM 2 w A n xs := by
  subst hl
  exact (Kn.rlIns (m := m) h).2
set_option maxRecDepth 100000 in
set_option maxHeartbeats 1600000 in
theorem toInstrS_kn (A : Option Addr) (n c : Nat) (xs : List Ins) (w : World) (hr : RL InsM 2 w A n xs) (hm : n ≤ 1048576) :
    Calls Try.prog 49 #[.slice A n c] w fun e w' => ∃ X x, e = .returned (.slice X n x) ∧ Kn w [rowInsN X n x xs] w' := by
  have HL := Lib.hid hr.1
  have HR := Lib.hid hr
  obtain ⟨i0, hi, hz0, hz1, hz2⟩ := info_parts info_ins
  clear hr
  go_enter Try.func49, Try.ntmps49
  go_wp2_with (at_make; refine wpList_make_full _ rfl _ _ 72 rfl w.heap.size 156 i0 _ 2 Try.underlying72 hi hz0 hz1 _ _ _ _ n rfl rfl rfl rfl (by rw [hz2]; omega) (by unfold maxLen; omega) (Nat.le_refl _) ?_; intro w1 hown1 hg1)
  have hb1 : Below w.heap.size w w1 := (Below.refl _ _).grown hg1 (Nat.le_refl _) (by simp)
  have hK1 : Kn w [.row (.slice (some ⟨w.heap.size, 0, none⟩) n n) 156 2 n _] w1 := (Kn.nil w).add (e := .row (.slice (some ⟨w.heap.size, 0, none⟩) n n) 156 2 n _) hb1 (by
    refine ⟨hown1.1, ?_⟩
    rcases hown1.2 with hn | ⟨g, cap, cur, e, hbg, rest⟩
    · exact .inl hn
    · exact .inr ⟨g, cap, cur, e, Nat.zero_le _, rest⟩) (fun k hk => by
    have hk' : (Value.slice (some ⟨w.heap.size, 0, none⟩) n n).ownBlock = some k := hk
    simp only [Value.ownBlock, Option.some.injEq] at hk'
    omega)
  clear hg1 hown1 hb1 hi hz0 hz1 hz2
  go_loopw [4] (fun i wr => ∃ (k : Nat) (cs : List Value), k ≤ n ∧ i = .int .i64 k ∧ Kn w [.row (.slice (some ⟨w.heap.size, 0, none⟩) n n) 156 2 n cs] wr ∧ (∀ (i : Nat) (h : i < xs.length), i < k → cs[i * 2]? = some (.int .i64 xs[i].op) ∧ cs[i * 2 + 1]? = some (.int .i64 xs[i].arg))) (fun i _ => n - (intOf i).toNat)
  case atStart => exact ⟨0, _, Nat.zero_le _, rfl, hK1, fun i h h' => by omega⟩
  case round =>
    clear hK1
    obtain ⟨k, cs, hk, rfl, hK, hcs⟩ := hrel
    have hcl : cs.length = n * 2 := (show wr.ownsRow 0 156 2 _ n cs from hK.at0).1
    have HCS := Lib.hid hcs
    have HCL := Lib.hid hcl
    by_cases hkn : k < n
    · obtain ⟨ad, hA, hlt, hkl, hx⟩ := (HR.out.below steady_InsM hK.below).at_ hkn
      obtain ⟨x1, x2⟩ := hx
      obtain ⟨x, hxe⟩ : ∃ x, xs[k] = x := ⟨_, rfl⟩
      rw [hxe] at x1 x2
      have HX := Lib.hid hxe
      have hi0 : (0 : Int) ≤ (k : Int) := by omega
      have hi1 : (k : Int) < (n : Int) := by omega
      have KT := Lib.hid (toInstr_any x wr)
      subst hA
      clear hxe hcs
      obtain ⟨u0, hu0⟩ : ∃ u, cs[k * 2]? = some u := ⟨_, List.getElem?_eq_getElem (by omega)⟩
      obtain ⟨u1, hu1⟩ : ∃ u, cs[k * 2 + 1]? = some u := ⟨_, List.getElem?_eq_getElem (by omega)⟩
      have HU0 := Lib.hid hu0
      have HU1 := Lib.hid hu1
      clear hu0 hu1 hcl
      go_wp2_with (go_at_call 138; refine KT.out.mono ?_; rintro e w2 ⟨rfl, hw⟩; have hK2 := hK.keep hw; obtain ⟨y1, y2⟩ := Kn.rowCell hK2 HU0.out; obtain ⟨y3, y4⟩ := Kn.rowCell hK2 HU1.out; clear x1 x2)
      go_roundw
      case rel =>
        refine ⟨k + 1, _, by omega, by go_num, (hK2.rowSt (k * 2) (.int .i64 x.op)).rowSt (k * 2 + 1) (.int .i64 x.arg), fun i h h' => ?_⟩
        have hcl := HCL.out
        rcases Nat.lt_or_ge i k with h1 | h1
        · rw [List.getElem?_set_ne (by omega), List.getElem?_set_ne (by omega), List.getElem?_set_ne (by omega), List.getElem?_set_ne (by omega)]
          exact HCS.out i h h1
        · obtain rfl : i = k := by omega
          have hx := HX.out
          rw [hx]
          refine ⟨?_, ?_⟩
          · rw [List.getElem?_set_ne (by omega), List.getElem?_set_self (by omega)]
          · rw [List.getElem?_set_self (by rw [List.length_set]; omega)]
      case measure => simp [intOf]; omega
    · have hce := cellsIns_ext (xs := xs) (cs := cs) (by rw [HL.out]; exact hcl) (fun i h => hcs i h (by have := HL.out; omega))
      have HCE := Lib.hid hce
      have hi1 : ¬ (k : Int) < (n : Int) := by omega
      clear hcs hcl hce
      go_wp2_with fail
      go_ret
      exact ⟨_, _, rfl, by unfold rowInsN; rw [← HCE.out]; exact hK⟩
set_option maxRecDepth 100000 in
set_option maxHeartbeats 1600000 in
theorem eqInstrS_same (A B : Option Addr) (n c d : Nat) (xs : List Ins) (w : World) (hr : RL InsM 2 w A n xs) (hs : RL InsM 2 w B n xs) (hm : n ≤ 1048576) :
    Calls Try.prog 52 #[.slice A n c, .slice B n d] w fun e w' => e = .returned (.bool true) ∧ Below w.heap.size w w' := by
  have HR := Lib.hid hr
  have HS := Lib.hid hs
  clear hr hs
  go_enter Try.func52, Try.ntmps52
  go_wp2_with fail
  go_loopw [5] (fun i wr => ∃ (k : Nat), k ≤ n ∧ i = .int .i64 k ∧ Kn w [] wr) (fun i _ => n - (intOf i).toNat)
  case atStart => exact ⟨0, Nat.zero_le _, rfl, Kn.nil w⟩
  case round =>
    obtain ⟨k, hk, rfl, hK⟩ := hrel
    by_cases hkn : k < n
    · obtain ⟨ad, hA, hlt, hkl, hx⟩ := (HR.out.below steady_InsM hK.drew.below).at_ hkn
      obtain ⟨bd, hB, hlt2, hkl2, hy⟩ := (HS.out.below steady_InsM hK.drew.below).at_ hkn
      obtain ⟨x, hxe⟩ : ∃ x, xs[k] = x := ⟨_, rfl⟩
      rw [hxe] at hx hy
      have HG := Lib.hid (show (_ ∧ _) ∧ _ ∧ _ from ⟨hx, hy⟩)
      have HP := Lib.hid (fun W (hW : Below wr.drew.heap.size wr.drew W) => (show (_ ∧ _) ∧ _ ∧ _ from ⟨steady_InsM _ _ _ _ (by rw [block_of_add]; exact hlt) hW hx, steady_InsM _ _ _ _ (by rw [block_of_add]; exact hlt2) hW hy⟩))
      have hi0 : (0 : Int) ≤ (k : Int) := by omega
      have hi1 : (k : Int) < (n : Int) := by omega
      have KT := Lib.hid (fun W => eqInstr_any x W)
      subst hA
      subst hB
      clear hxe hx hy hlt hlt2
      go_wp2_with fail
      go_region_held3 (fun W => (W.cell? (ad.add (k * 2)) = some (.int .i64 x.op) ∧ W.cell? ⟨(ad.add (k * 2)).block, (ad.add (k * 2)).off + 1, none⟩ = some (.int .i64 x.arg)) ∧ W.cell? (bd.add (k * 2)) = some (.int .i64 x.op) ∧ W.cell? ⟨(bd.add (k * 2)).block, (bd.add (k * 2)).off + 1, none⟩ = some (.int .i64 x.arg)) (first | exact HG.out) (first
        | (go_at_call 140; (with_reducible refine (KT.out _).mono ?_); rintro e w3 ⟨rfl, hw⟩; have hK2 := hK.drew.keep hw; clear HG; have hq := HP.out _ hw; have HG := Lib.hid hq))
      all_goals
        go_wp2_with fail
        go_roundw
        case rel => exact ⟨k + 1, by omega, by go_num, hK2⟩
        case measure => simp [intOf]; omega
    · have hi1 : ¬ (k : Int) < (n : Int) := by omega
      go_wp2_with fail
      go_ret
      exact ⟨rfl, hK.below⟩
/-- the first j cells are marked -/
def markedV (k : Int) (cs : List Value) (j : Nat) : List Value := (upto k j).map (Value.int .i64) ++ cs.drop j
theorem markedV_set (k : Int) (cs : List Value) {j : Nat} (h : j < cs.length) : (markedV k cs j).set j (.int .i64 (k + j)) = markedV k cs (j + 1) := by
  unfold markedV
  rw [List.set_append_right _ _ (by rw [List.length_map, upto_len]; exact Nat.le_refl _), List.length_map, upto_len, Nat.sub_self, List.drop_eq_getElem_cons h, List.set_cons_zero]
  simp [upto, List.range_succ]
theorem markedV_len (k : Int) (cs : List Value) {j : Nat} (h : j ≤ cs.length) : (markedV k cs j).length = cs.length := by simp [markedV, upto_len]; omega
set_option maxRecDepth 100000 in
set_option maxHeartbeats 1600000 in
theorem markInstrS_kn (w0 : World) (m : List Ent) (A : Option Addr) (n c : Nat) (cs : List Value) (k : Int) (w : World) (hK : Kn w0 (.row (.slice A n c) 156 2 n cs :: m) w) (h0 : 0 ≤ k) (hk : k + n * 2 ≤ 4611686018427387904) :
    Calls Try.prog 54 #[.slice A n c, .int .i64 k] w fun e w' => e = .returned (.int .i64 (k + n * 2)) ∧ Kn w0 (.row (.slice A n c) 156 2 n ((upto k (n * 2)).map (Value.int .i64)) :: m) w' := by
  have hcl : cs.length = n * 2 := (show w.ownsRow 0 156 2 _ n cs from hK.at0).1
  have HCL := Lib.hid hcl
  clear hcl
  rcases Nat.eq_zero_or_pos n with hn0 | hn0
  · subst hn0
    have hcs : cs = [] := List.eq_nil_of_length_eq_zero (by have := HCL.out; omega)
    subst hcs
    go_enter Try.func54, Try.ntmps54
    go_wp2
    go_loopw [5, 1] (fun i kk wr => i = .int .i64 0 ∧ kk = .int .i64 k ∧ w = wr) (fun _ _ _ => 0)
    case atStart => exact ⟨rfl, rfl, rfl⟩
    case round =>
      obtain ⟨rfl, rfl, rfl⟩ := hrel
      go_wp2
      go_ret
      exact ⟨ret_int (by simp), hK⟩
  · obtain ⟨g, c', hA⟩ := Kn.rowForm hK hn0
    injection hA with hA hA2 hA3
    subst hA; subst hA3
    have hK0 : Kn w0 (.row (.slice (some ⟨g, 0, none⟩) n c) 156 2 n (markedV k cs 0) :: m) w := by simpa [markedV, upto] using hK
    clear hK
    go_enter Try.func54, Try.ntmps54
    go_wp2
    go_loopw [5, 1] (fun i kk wr => ∃ j : Nat, j ≤ n ∧ i = .int .i64 j ∧ kk = .int .i64 (k + j * 2) ∧ Kn w0 (.row (.slice (some ⟨g, 0, none⟩) n c) 156 2 n (markedV k cs (j * 2)) :: m) wr) (fun i _ _ => n - (intOf i).toNat)
    case atStart => exact ⟨0, Nat.zero_le _, rfl, by simp, hK0⟩
    case round =>
      clear hK0
      obtain ⟨j, hj, rfl, rfl, hK⟩ := hrel
      by_cases hjn : j < n
      · have hi0 : (0 : Int) ≤ (j : Int) := by omega
        have hi1 : (j : Int) < (n : Int) := by omega
        have hlc := HCL.out
        have hml := markedV_len k cs (j := j * 2) (by omega)
        obtain ⟨u, hu⟩ : ∃ u, (markedV k cs (j * 2))[j * 2]? = some u := ⟨_, List.getElem?_eq_getElem (by omega)⟩
        obtain ⟨u', hu'⟩ : ∃ u, (markedV k cs (j * 2))[j * 2 + 1]? = some u := ⟨_, List.getElem?_eq_getElem (by omega)⟩
        obtain ⟨y1, y2⟩ := Kn.rowCell hK hu
        obtain ⟨y3, y4⟩ := Kn.rowCell hK hu'
        have e1 := markedV_set k cs (j := j * 2) (by omega)
        have e2 := markedV_set k cs (j := j * 2 + 1) (by omega)
        rw [show ((j * 2 : Nat) : Int) = (j : Int) * 2 by omega] at e1
        rw [show ((j * 2 + 1 : Nat) : Int) = (j : Int) * 2 + 1 by omega, ← Int.add_assoc] at e2
        have hst := hK.rowSt (j * 2) (.int .i64 (k + j * 2))
        rw [e1] at hst
        have hst2 := hst.rowSt (j * 2 + 1) (.int .i64 (k + j * 2 + 1))
        rw [e2] at hst2
        have HST := Lib.hid hst2
        clear hst hst2 e1 e2 hlc hu hu' hml hK
        go_wp2
        go_roundw
        case rel => exact ⟨j + 1, by omega, by go_num, by congr 1; omega, by rw [show (j + 1) * 2 = j * 2 + 1 + 1 by omega]; exact HST.out⟩
        case measure => simp [intOf]; omega
      · have HJ := Lib.hid (show j = n by omega)
        have HM := Lib.hid (show markedV k cs (j * 2) = (upto k (n * 2)).map (Value.int .i64) by
          rw [HJ.out]
          simp [markedV, List.drop_eq_nil_of_le (Nat.le_of_eq HCL.out)])
        go_wp2
        go_ret
        exact ⟨ret_int (by rw [HJ.out]), by rw [← HM.out]; exact hK⟩
set_option maxHeartbeats 1600000 in
theorem heldInstrS_any (A : Option Addr) (n c : Nat) (k : Int) (w0 w : World) (m : List Ent) (hK : Kn w0 (.row (.slice A n c) 156 2 n ((upto k (n * 2)).map (Value.int .i64)) :: m) w) (h0 : 0 ≤ k) (hk : k + n * 2 ≤ 4611686018427387904) :
    Calls Try.prog 73 #[.slice A n c, .int .i64 k] w fun e w' => e = .returned (.int .i64 (k + n * 2)) ∧ w = w' := by
  have HK := Lib.hid hK
  clear hK
  go_enter Try.func73, Try.ntmps73
  go_wp2
  go_loopw [5, 1] (fun i kk wr => ∃ j : Nat, j ≤ n ∧ i = .int .i64 j ∧ kk = .int .i64 (k + j * 2) ∧ w = wr) (fun i _ _ => n - (intOf i).toNat)
  case atStart => exact ⟨0, Nat.zero_le _, rfl, by simp, rfl⟩
  case round =>
    obtain ⟨j, hj, rfl, rfl, rfl⟩ := hrel
    by_cases hjn : j < n
    · obtain ⟨g, c', hA⟩ := Kn.rowForm HK.out (by omega)
      injection hA with hA hA2 hA3
      subst hA; subst hA3
      have c1 := (Kn.rowCell HK.out (j := j * 2) (u := .int .i64 (k + j * 2)) (by rw [List.getElem?_map, upto_get k (show j * 2 < n * 2 by omega)]; simp)).1
      have c2 := (Kn.rowCell HK.out (j := j * 2 + 1) (u := .int .i64 (k + j * 2 + 1)) (by rw [List.getElem?_map, upto_get k (show j * 2 + 1 < n * 2 by omega)]; simp; omega)).1
      have hi0 : (0 : Int) ≤ (j : Int) := by omega
      have hi1 : (j : Int) < (n : Int) := by omega
      go_wp2
      go_roundw
      case rel => exact ⟨j + 1, by omega, by go_num, by congr 1; omega, by first | exact rfl | trivial⟩
      case measure => simp [intOf]; omega
    · have HJ := Lib.hid (show j = n by omega)
      go_wp2
      go_ret
      exact ⟨ret_int (by rw [HJ.out]), rfl⟩
end Go.Proofs.Ytkaaiocbiknipaa

namespace Go.Proofs.Ytkaaiocbiknipaa
open Go.RowKit Go.ChangeShapes Go.WideShapes Go.ChangeAt
section
variable {H : Type} {enc : TypeId × Value → H} {w : World} {base : Nat} {spare : Nat → Bool} {held : Bool} {fuel : Nat} {cs : List Value} {x : DataW H × List MemPlace}
theorem cellsI64 : Try.prog.cellsOf 2 = 1 := by kernel_rfl
theorem cellsInts : Try.prog.cellsOf 24 = 1 := by kernel_rfl
theorem rd_i64 (h : DataW.trod enc Try.prog w base spare held fuel 2 cs = some x) : ∃ n, cs = [.int .i64 n] ∧ -9223372036854775808 ≤ n ∧ n ≤ 9223372036854775807 := by
  obtain ⟨n, rfl, _, hw⟩ := DataW.trod_int Try.underlying2 h
  refine ⟨n, rfl, ?_⟩
  have h1 : IntKind.i64.min = -9223372036854775808 := by decide
  have h2 : IntKind.i64.max = 9223372036854775807 := by decide
  simp [Lit.wf] at hw
  omega
theorem rd_ints (h : DataW.trod enc Try.prog w base spare held fuel 24 cs = some x) : ∃ A n c ds, cs = [.slice A n c] ∧ RI w A n ds ∧ n ≤ 9223372036854775807 := by
  rcases open_ints Try.underlying24 Try.underlying2 cellsI64 h with ⟨rfl, _⟩ | ⟨a, len, cap, zs, rfl, _, hl, hm, hz, _, hcell, _⟩
  · exact ⟨none, 0, 0, [], rfl, ⟨rfl, fun h => absurd h (by omega)⟩, by omega⟩
  · have hlen : len ≤ zs.length := by rw [hz]; split <;> omega
    refine ⟨some a, len, cap, zs.take len, rfl, ⟨by simp; omega, fun h0 => ⟨a, rfl, ?_, fun j u hu => ?_⟩⟩, by simp only [maxLen] at hm; omega⟩
    · have := World.block_lt_of_cell? w _ (hcell 0 (by omega)); rwa [block_of_add] at this
    · rw [List.getElem?_take] at hu
      split at hu
      · rw [hcell j (by omega)]; simp [List.getD, hu]
      · cases hu
theorem cellsLR : Try.prog.cellsOf 58 = 2 := by kernel_rfl
set_option maxRecDepth 100000 in
theorem rd_lreg (h : DataW.trod enc Try.prog w base spare held fuel 58 cs = some x) : ∃ b A n c ds, cs = [.int .i64 b, .slice A n c] ∧ RI w A n ds ∧ n ≤ 9223372036854775807 ∧ -9223372036854775808 ≤ b ∧ b ≤ 9223372036854775807 := by
  obtain ⟨xs, m, _, _, hl, hxl, hf⟩ := DataW.trod_struct Try.underlying58 h
  rw [cellsLR] at hl
  match cs, hl with
  | [c0, c1], _ =>
    obtain ⟨y0, hy0⟩ : ∃ y, xs[0]? = some y := ⟨_, List.getElem?_eq_getElem (by rw [hxl]; decide)⟩
    obtain ⟨y1, hy1⟩ : ∃ y, xs[1]? = some y := ⟨_, List.getElem?_eq_getElem (by rw [hxl]; decide)⟩
    have h0 : DataW.trod enc Try.prog w base spare held m 2 (([c0, c1].drop 0).take (Try.prog.cellsOf 2)) = xs[0]? := hf 0 _ rfl
    have h1 : DataW.trod enc Try.prog w base spare held m 24 (([c0, c1].drop 1).take (Try.prog.cellsOf 24)) = xs[1]? := hf 1 _ rfl
    simp only [cellsI64, cellsInts, List.drop_zero, List.drop_succ_cons, List.take_succ_cons, List.take_zero] at h0 h1
    rw [hy0] at h0
    rw [hy1] at h1
    obtain ⟨b, e0, hb1, hb2⟩ := rd_i64 h0
    obtain ⟨A, n, c, ds, e1, hr, hn⟩ := rd_ints h1
    injection e0 with e0
    injection e1 with e1
    exact ⟨b, A, n, c, ds, by rw [e0, e1], hr, hn, hb1, hb2⟩
end
end Go.Proofs.Ytkaaiocbiknipaa

namespace Go.Proofs.Ytkaaiocbiknipaa
open Go.RowKit Go.ChangeShapes Go.WideShapes Go.ChangeAt
section
variable {H : Type} {enc : TypeId × Value → H} {w : World} {base : Nat} {spare : Nat → Bool} {held : Bool} {fuel : Nat} {cs : List Value} {x : DataW H × List MemPlace}
theorem cellsLM : Try.prog.cellsOf 60 = 7 := by kernel_rfl
set_option maxRecDepth 100000 in
theorem rd_lmachine (h : DataW.trod enc Try.prog w base spare held fuel 60 cs = some x) : ∃ b1 A1 n1 c1 d1 b2 A2 n2 c2 d2 b3 A3 n3 c3 d3 cy, cs = [.int .i64 b1, .slice A1 n1 c1, .int .i64 b2, .slice A2 n2 c2, .int .i64 b3, .slice A3 n3 c3, .int .i64 cy] ∧
    RI w A1 n1 d1 ∧ RI w A2 n2 d2 ∧ RI w A3 n3 d3 ∧ n1 ≤ 9223372036854775807 ∧ n2 ≤ 9223372036854775807 ∧ n3 ≤ 9223372036854775807 := by
  obtain ⟨xs, m, _, _, hl, hxl, hf⟩ := DataW.trod_struct Try.underlying60 h
  rw [cellsLM] at hl
  match cs, hl with
  | [c0, c1, c2, c3, c4, c5, c6], _ =>
    obtain ⟨y0, hy0⟩ : ∃ y, xs[0]? = some y := ⟨_, List.getElem?_eq_getElem (by rw [hxl]; decide)⟩
    obtain ⟨y1, hy1⟩ : ∃ y, xs[1]? = some y := ⟨_, List.getElem?_eq_getElem (by rw [hxl]; decide)⟩
    obtain ⟨y2, hy2⟩ : ∃ y, xs[2]? = some y := ⟨_, List.getElem?_eq_getElem (by rw [hxl]; decide)⟩
    obtain ⟨y3, hy3⟩ : ∃ y, xs[3]? = some y := ⟨_, List.getElem?_eq_getElem (by rw [hxl]; decide)⟩
    have h0 : DataW.trod enc Try.prog w base spare held m 58 (([c0, c1, c2, c3, c4, c5, c6].drop 0).take (Try.prog.cellsOf 58)) = xs[0]? := hf 0 _ rfl
    have h1 : DataW.trod enc Try.prog w base spare held m 58 (([c0, c1, c2, c3, c4, c5, c6].drop 2).take (Try.prog.cellsOf 58)) = xs[1]? := hf 1 _ rfl
    have h2 : DataW.trod enc Try.prog w base spare held m 58 (([c0, c1, c2, c3, c4, c5, c6].drop 4).take (Try.prog.cellsOf 58)) = xs[2]? := hf 2 _ rfl
    have h3 : DataW.trod enc Try.prog w base spare held m 2 (([c0, c1, c2, c3, c4, c5, c6].drop 6).take (Try.prog.cellsOf 2)) = xs[3]? := hf 3 _ rfl
    simp only [cellsI64, cellsLR, List.drop_zero, List.drop_succ_cons, List.take_succ_cons, List.take_zero] at h0 h1 h2 h3
    rw [hy0] at h0
    rw [hy1] at h1
    rw [hy2] at h2
    rw [hy3] at h3
    obtain ⟨b1, A1, n1, k1, d1, e1, r1, m1, -⟩ := rd_lreg h0
    obtain ⟨b2, A2, n2, k2, d2, e2, r2, m2, -⟩ := rd_lreg h1
    obtain ⟨b3, A3, n3, k3, d3, e3, r3, m3, -⟩ := rd_lreg h2
    obtain ⟨cy, e4, -⟩ := rd_i64 h3
    simp only [List.cons.injEq, and_true] at e1 e2 e3 e4
    obtain ⟨rfl, rfl⟩ := e1
    obtain ⟨rfl, rfl⟩ := e2
    obtain ⟨rfl, rfl⟩ := e3
    subst e4
    exact ⟨b1, A1, n1, k1, d1, b2, A2, n2, k2, d2, b3, A3, n3, k3, d3, cy, rfl, r1, r2, r3, m1, m2, m3⟩
end
end Go.Proofs.Ytkaaiocbiknipaa

namespace Go.Proofs.Ytkaaiocbiknipaa
open Go.RowKit Go.ChangeShapes Go.WideShapes Go.ChangeAt Go.Deep
section
variable {H : Type} {enc : TypeId × Value → H} {w : World} {base : Nat} {spare : Nat → Bool} {held : Bool} {fuel : Nat} {cs : List Value} {x : DataW H × List MemPlace}
instance : Inhabited Ins := ⟨⟨0, 0⟩⟩
theorem addr_pos (p : Addr) (j : Nat) (h : j ≠ 0) : p.add j = ⟨p.block, p.off + j, none⟩ := by unfold Addr.add; rw [if_neg h]
theorem cellsLI : Try.prog.cellsOf 158 = 2 := by kernel_rfl
set_option maxRecDepth 100000 in
theorem rd_linstr (h : DataW.trod enc Try.prog w base spare held fuel 158 cs = some x) : ∃ y : Ins, cs = [.int .i64 y.op, .int .i64 y.arg] := by
  obtain ⟨xs, m, _, _, hl, hxl, hf⟩ := DataW.trod_struct Try.underlying158 h
  rw [cellsLI] at hl
  match cs, hl with
  | [c0, c1], _ =>
    obtain ⟨y0, hy0⟩ : ∃ y, xs[0]? = some y := ⟨_, List.getElem?_eq_getElem (by rw [hxl]; decide)⟩
    obtain ⟨y1, hy1⟩ : ∃ y, xs[1]? = some y := ⟨_, List.getElem?_eq_getElem (by rw [hxl]; decide)⟩
    have h0 : DataW.trod enc Try.prog w base spare held m 2 (([c0, c1].drop 0).take (Try.prog.cellsOf 2)) = xs[0]? := hf 0 _ rfl
    have h1 : DataW.trod enc Try.prog w base spare held m 2 (([c0, c1].drop 1).take (Try.prog.cellsOf 2)) = xs[1]? := hf 1 _ rfl
    simp only [cellsI64, List.drop_zero, List.drop_succ_cons, List.take_succ_cons, List.take_zero] at h0 h1
    rw [hy0] at h0
    rw [hy1] at h1
    obtain ⟨a, e0, -⟩ := rd_i64 h0
    obtain ⟨b, e1, -⟩ := rd_i64 h1
    injection e0 with e0
    injection e1 with e1
    exact ⟨⟨a, b⟩, by rw [e0, e1]⟩
set_option maxRecDepth 100000 in
theorem rd_instrs (h : DataW.trod enc Try.prog w base spare held fuel 69 cs = some x) : ∃ A n c xs, cs = [.slice A n c] ∧ RL InsM 2 w A n xs ∧ n ≤ 9223372036854775807 := by
  rcases open_slice Try.underlying69 h with ⟨rfl, _⟩ | ⟨a, len, cap, m, n, D, Pl, rfl, hb, hl, hm, hmm, rfl, hx⟩
  · exact ⟨none, 0, 0, [], rfl, ⟨rfl, fun h => absurd h (by omega)⟩, by omega⟩
  · have hlm : len ≤ m := by rw [hmm]; split <;> omega
    have key : ∀ i, i < len → ∃ t : Ins, InsM w (a.add (i * 2)) t := by
      intro i hi
      obtain ⟨cs', h1, h2⟩ := hx i (by omega)
      rw [cellsLI] at h1
      obtain ⟨y, rfl⟩ := rd_linstr h2
      obtain ⟨_, _, hc⟩ := World.cells?_some h1
      have q0 := hc 0 (by omega)
      have q1 := hc 1 (by omega)
      rw [addr_add_zero] at q0
      rw [addr_pos _ _ (by decide)] at q1
      exact ⟨y, q0, q1⟩
    obtain ⟨T, hT⟩ := choose_lt key
    refine ⟨some a, len, cap, (List.range len).map T, rfl, ⟨by simp, fun hn => ⟨a, rfl, ?_, fun k hk => ?_⟩⟩, by simp only [maxLen] at hm; omega⟩
    · have g := (hT 0 hn).1
      rw [Nat.zero_mul, addr_add_zero] at g
      exact World.block_lt_of_cell? w _ g
    · have hk' : k < len := by simpa using hk
      simpa using hT k hk'
end
end Go.Proofs.Ytkaaiocbiknipaa

namespace Go.Proofs.Ytkaaiocbiknipaa
open Go.RowKit Go.Sort
theorem cellsIns_app (xs ys : List Ins) : cellsIns (xs ++ ys) = cellsIns xs ++ cellsIns ys := by simp [cellsIns]
theorem kn_pushIns {ops : Array Oper} {rest : List Oper} {o : Oper} {a : Act} {Q : Exit → Act → World → Prop} {w0 w : World} {m : List Ent} (hgd : o.guard = none) (s x : Operand) (ho : o.op = .call { callee := .builtin .append, args := #[s, x], argTypes := #[72, 72] })
    (v : Value) (xs ys : List Ins) (hs : a.eval s = v) {g c : Nat} {T' : TypeId} (hx : a.eval x = .slice (some ⟨g, 0, none⟩) ys.length c)
    (hK : Kn w0 (.blk g (cellsIns ys) T' :: rowIns v xs :: m) w) (hl : xs.length + ys.length ≤ 10000000)
    (h : ∀ v' w', Kn w0 (rowIns v' (xs ++ ys) :: m) w' → wpList Try.prog ops Q rest (a.put o.dst v') w') : wpList Try.prog ops Q (o :: rest) a w := by
  refine kn_app tpIns hgd s x ho v xs.length (cellsIns xs) hs hx hK (cellsIns_len ys) (cellsIns_one ys) (by omega) (by omega) (fun v' w' hK' => h v' w' ?_)
  unfold rowIns
  rw [List.length_append, cellsIns_app]
  exact hK'
/-- the program that divides -/
def divHead (p : Nat) : List Ins := if 1 < p then [⟨4, (p : Int) - 1⟩] else []
def divPart (p j : Nat) : List Ins := [⟨9, 0⟩, ⟨3, 1⟩, ⟨10, 0⟩, ⟨2, 1⟩] ++ (if j + 1 < p then [⟨5, 1⟩] else [])
def divUpto (p : Nat) : Nat → List Ins
  | 0 => divHead p
  | j + 1 => divUpto p j ++ divPart p j
def divProg (p : Nat) : List Ins := divUpto p p
theorem divUpto_len (p j : Nat) : (divUpto p j).length ≤ 1 + 5 * j := by
  induction j with
  | zero => simp only [divUpto, divHead]; split <;> simp
  | succ j ih => simp only [divUpto, divPart, List.length_append]; split <;> simp <;> omega
theorem divProg_ok {p : Nat} (h1 : 1 ≤ p) (h2 : p ≤ 16) : vprog (divProg p) = true := by
  have H : ∀ p : Fin 17, 1 ≤ p.val → vprog (divProg p.val) = true := by decide +kernel
  exact H ⟨p, by omega⟩ h1
set_option maxRecDepth 100000 in
set_option maxHeartbeats 1600000 in
theorem divideProgram_any (p : Nat) (w : World) (h1 : 1 ≤ p) (h2 : p ≤ 16) :
    Calls Try.prog 134 #[.int .i64 p] w fun e w' => ∃ A c, e = .returned (.slice A (divProg p).length c) ∧ Kn w [rowIns (.slice A (divProg p).length c) (divProg p)] w' := by
  have HD0 := Lib.hid (show divUpto p 0 = divHead p from rfl)
  have HDS := Lib.hid (fun j => show divUpto p (j + 1) = divUpto p j ++ divPart p j from rfl)
  have HLN := Lib.hid (divUpto_len p)
  have HPR := Lib.hid (show divProg p = divUpto p p from rfl)
  go_enter Try.func134, Try.ntmps134
  by_cases hp1 : 1 < p
  · have hi1 : (1 : Int) < (p : Int) := by omega
    have hhl : divHead p = [] ++ [⟨4, (p : Int) - 1⟩] := by unfold divHead; rw [if_pos hp1]; rfl
    have HHL := Lib.hid hhl
    clear hhl
    have hK1 := (((Kn.nil w).al [] 156).litRow (size := 2) (n := 0) rfl (by decide)).al [.int .i64 4, .int .i64 ((p : Int) - 1)] 156
    simp only [World.size_alloc] at hK1
    go_wp2_with (at_builtin; refine kn_pushIns (m := []) (xs := []) (ys := [⟨4, (p : Int) - 1⟩]) rfl _ _ rfl _ rfl rfl hK1 (by simp) ?_; intro v2 w2 hK2; rw [← HHL.out, ← HD0.out] at hK2)
    go_loopw [3, 15] (fun vv kk wr => ∃ (j : Nat), j ≤ p ∧ kk = .int .i64 (j : Int) ∧ Kn w [rowIns vv (divUpto p j)] wr) (fun _ kk _ => p - (intOf kk).toNat)
    case atStart => exact ⟨0, Nat.zero_le _, rfl, hK2⟩
    case round =>
      clear hK2
      obtain ⟨j, hj, rfl, hK⟩ := hrel
      have hln := HLN.out j
      obtain ⟨ds, hds⟩ : ∃ ds, divUpto p j = ds := ⟨_, rfl⟩
      have HDJ := Lib.hid hds
      have HNX := Lib.hid (HDS.out j)
      rw [hds] at hK hln
      obtain ⟨A0, c0, rfl⟩ := row_form hK.at0
      by_cases hjp : j < p
      · have hi2 : (j : Int) < (p : Int) := by omega
        by_cases hl : j + 1 < p
        · have hi3 : (j : Int) + 1 < (p : Int) := by omega
          have HP := Lib.hid (show divPart p j = [⟨9, 0⟩, ⟨3, 1⟩, ⟨10, 0⟩, ⟨2, 1⟩] ++ [⟨5, 1⟩] by unfold divPart; rw [if_pos hl])
          clear hds
          go_wp2_with (first
            | (at_builtin; refine kn_pushIns (m := []) (ys := [⟨9, 0⟩, ⟨3, 1⟩, ⟨10, 0⟩, ⟨2, 1⟩]) rfl _ _ rfl _ ds rfl rfl (hK.al [.int .i64 9, .int .i64 0, .int .i64 3, .int .i64 1, .int .i64 10, .int .i64 0, .int .i64 2, .int .i64 1] 156) (by simp; omega) ?_; intro v3 w3 hK3; clear hK)
            | (at_builtin; refine kn_pushIns (m := []) (ys := [⟨5, 1⟩]) rfl _ _ rfl _ (ds ++ [⟨9, 0⟩, ⟨3, 1⟩, ⟨10, 0⟩, ⟨2, 1⟩]) rfl rfl (hK3.al [.int .i64 5, .int .i64 1] 156) (by simp; omega) ?_; intro v4 w4 hK4))
          go_roundw
          case rel => exact ⟨j + 1, by omega, by go_num, by rw [HNX.out, HP.out, HDJ.out, ← List.append_assoc]; exact hK4⟩
          case measure => simp [intOf]; omega
        · have hi3 : ¬ (j : Int) + 1 < (p : Int) := by omega
          have HP := Lib.hid (show divPart p j = [⟨9, 0⟩, ⟨3, 1⟩, ⟨10, 0⟩, ⟨2, 1⟩] by unfold divPart; rw [if_neg hl]; rfl)
          clear hds
          go_wp2_with (first
            | (at_builtin; refine kn_pushIns (m := []) (ys := [⟨9, 0⟩, ⟨3, 1⟩, ⟨10, 0⟩, ⟨2, 1⟩]) rfl _ _ rfl _ ds rfl rfl (hK.al [.int .i64 9, .int .i64 0, .int .i64 3, .int .i64 1, .int .i64 10, .int .i64 0, .int .i64 2, .int .i64 1] 156) (by simp; omega) ?_; intro v3 w3 hK3; clear hK))
          go_roundw
          case rel => exact ⟨j + 1, by omega, by go_num, by rw [HNX.out, HP.out, HDJ.out]; exact hK3⟩
          case measure => simp [intOf]; omega
      · have hi2 : ¬ (j : Int) < (p : Int) := by omega
        obtain rfl : j = p := by omega
        clear hds
        go_wp2_with fail
        go_ret
        exact ⟨A0, c0, by (rw [HPR.out, HDJ.out]; try rfl), by rw [HPR.out, HDJ.out]; exact hK⟩
  · have hi1 : ¬ (1 : Int) < (p : Int) := by omega
    have hhl : divHead p = [] := by unfold divHead; rw [if_neg hp1]
    have HHL := Lib.hid hhl
    clear hhl
    go_wp2_with fail
    have hK1 := ((Kn.nil w).al [] 156).litRow (size := 2) (n := 0) rfl (by decide)
    have hK2 : Kn w [rowIns (.slice (some ⟨w.heap.size, 0, none⟩) 0 0) (divUpto p 0)] (w.alloc (.cells #[] 156)) := by rw [HD0.out, HHL.out]; exact hK1
    go_loopw [3, 15] (fun vv kk wr => ∃ (j : Nat), j ≤ p ∧ kk = .int .i64 (j : Int) ∧ Kn w [rowIns vv (divUpto p j)] wr) (fun _ kk _ => p - (intOf kk).toNat)
    case atStart => exact ⟨0, Nat.zero_le _, rfl, hK2⟩
    case round =>
      clear hK2
      obtain ⟨j, hj, rfl, hK⟩ := hrel
      have hln := HLN.out j
      obtain ⟨ds, hds⟩ : ∃ ds, divUpto p j = ds := ⟨_, rfl⟩
      have HDJ := Lib.hid hds
      have HNX := Lib.hid (HDS.out j)
      rw [hds] at hK hln
      obtain ⟨A0, c0, rfl⟩ := row_form hK.at0
      by_cases hjp : j < p
      · have hi2 : (j : Int) < (p : Int) := by omega
        by_cases hl : j + 1 < p
        · exfalso; omega
        · have hi3 : ¬ (j : Int) + 1 < (p : Int) := by omega
          have HP := Lib.hid (show divPart p j = [⟨9, 0⟩, ⟨3, 1⟩, ⟨10, 0⟩, ⟨2, 1⟩] by unfold divPart; rw [if_neg hl]; rfl)
          clear hds
          go_wp2_with (first
            | (at_builtin; refine kn_pushIns (m := []) (ys := [⟨9, 0⟩, ⟨3, 1⟩, ⟨10, 0⟩, ⟨2, 1⟩]) rfl _ _ rfl _ ds rfl rfl (hK.al [.int .i64 9, .int .i64 0, .int .i64 3, .int .i64 1, .int .i64 10, .int .i64 0, .int .i64 2, .int .i64 1] 156) (by simp; omega) ?_; intro v3 w3 hK3; clear hK))
          go_roundw
          case rel => exact ⟨j + 1, by omega, by go_num, by rw [HNX.out, HP.out, HDJ.out]; exact hK3⟩
          case measure => simp [intOf]; omega
      · have hi2 : ¬ (j : Int) < (p : Int) := by omega
        obtain rfl : j = p := by omega
        clear hds
        go_wp2_with fail
        go_ret
        exact ⟨A0, c0, by (rw [HPR.out, HDJ.out]; try rfl), by rw [HPR.out, HDJ.out]; exact hK⟩
set_option maxRecDepth 100000 in
set_option maxHeartbeats 1600000 in
theorem l12Divide_any (p : Nat) (w : World) (h1 : 1 ≤ p) (h2 : p ≤ 16) :
    Calls Try.prog 123 #[.int .i64 p] w fun e w' => ∃ A c, e = .returned (.slice A (divProg p).length c) ∧ Kn w [rowIns (.slice A (divProg p).length c) (divProg p)] w' := by
  have HD0 := Lib.hid (show divUpto p 0 = divHead p from rfl)
  have HDS := Lib.hid (fun j => show divUpto p (j + 1) = divUpto p j ++ divPart p j from rfl)
  have HLN := Lib.hid (divUpto_len p)
  have HPR := Lib.hid (show divProg p = divUpto p p from rfl)
  go_enter Try.func123, Try.ntmps123
  by_cases hp1 : 1 < p
  · have hi1 : (1 : Int) < (p : Int) := by omega
    have hhl : divHead p = [] ++ [⟨4, (p : Int) - 1⟩] := by unfold divHead; rw [if_pos hp1]; rfl
    have HHL := Lib.hid hhl
    clear hhl
    have hK1 := (((Kn.nil w).al [] 156).litRow (size := 2) (n := 0) rfl (by decide)).al [.int .i64 4, .int .i64 ((p : Int) - 1)] 156
    simp only [World.size_alloc] at hK1
    go_wp2_with (at_builtin; refine kn_pushIns (m := []) (xs := []) (ys := [⟨4, (p : Int) - 1⟩]) rfl _ _ rfl _ rfl rfl hK1 (by simp) ?_; intro v2 w2 hK2; rw [← HHL.out, ← HD0.out] at hK2)
    go_loopw [3, 4] (fun vv kk wr => ∃ (j : Nat), j ≤ p ∧ kk = .int .i64 ((p - j : Nat) : Int) ∧ Kn w [rowIns vv (divUpto p j)] wr) (fun _ kk _ => (intOf kk).toNat)
    case atStart => exact ⟨0, Nat.zero_le _, rfl, hK2⟩
    case round =>
      clear hK2
      obtain ⟨j, hj, rfl, hK⟩ := hrel
      have hln := HLN.out j
      obtain ⟨ds, hds⟩ : ∃ ds, divUpto p j = ds := ⟨_, rfl⟩
      have HDJ := Lib.hid hds
      have HNX := Lib.hid (HDS.out j)
      rw [hds] at hK hln
      obtain ⟨A0, c0, rfl⟩ := row_form hK.at0
      by_cases hjp : j < p
      · have hi2 : (0 : Int) < ((p - j : Nat) : Int) := by omega
        by_cases hl : j + 1 < p
        · have hi3 : (1 : Int) < ((p - j : Nat) : Int) := by omega
          have HP := Lib.hid (show divPart p j = [⟨9, 0⟩, ⟨3, 1⟩, ⟨10, 0⟩, ⟨2, 1⟩] ++ [⟨5, 1⟩] by unfold divPart; rw [if_pos hl])
          clear hds
          go_wp2_with (first
            | (at_builtin; refine kn_pushIns (m := []) (ys := [⟨9, 0⟩, ⟨3, 1⟩, ⟨10, 0⟩, ⟨2, 1⟩]) rfl _ _ rfl _ ds rfl rfl (hK.al [.int .i64 9, .int .i64 0, .int .i64 3, .int .i64 1, .int .i64 10, .int .i64 0, .int .i64 2, .int .i64 1] 156) (by simp; omega) ?_; intro v3 w3 hK3; clear hK)
            | (at_builtin; refine kn_pushIns (m := []) (ys := [⟨5, 1⟩]) rfl _ _ rfl _ (ds ++ [⟨9, 0⟩, ⟨3, 1⟩, ⟨10, 0⟩, ⟨2, 1⟩]) rfl rfl (hK3.al [.int .i64 5, .int .i64 1] 156) (by simp; omega) ?_; intro v4 w4 hK4))
          go_roundw
          case rel => exact ⟨j + 1, by omega, by (congr 1; omega), by rw [HNX.out, HP.out, HDJ.out, ← List.append_assoc]; exact hK4⟩
          case measure => simp [intOf]; omega
        · have hi3 : ¬ (1 : Int) < ((p - j : Nat) : Int) := by omega
          have HP := Lib.hid (show divPart p j = [⟨9, 0⟩, ⟨3, 1⟩, ⟨10, 0⟩, ⟨2, 1⟩] by unfold divPart; rw [if_neg hl]; rfl)
          clear hds
          go_wp2_with (first
            | (at_builtin; refine kn_pushIns (m := []) (ys := [⟨9, 0⟩, ⟨3, 1⟩, ⟨10, 0⟩, ⟨2, 1⟩]) rfl _ _ rfl _ ds rfl rfl (hK.al [.int .i64 9, .int .i64 0, .int .i64 3, .int .i64 1, .int .i64 10, .int .i64 0, .int .i64 2, .int .i64 1] 156) (by simp; omega) ?_; intro v3 w3 hK3; clear hK))
          go_roundw
          case rel => exact ⟨j + 1, by omega, by (congr 1; omega), by rw [HNX.out, HP.out, HDJ.out]; exact hK3⟩
          case measure => simp [intOf]; omega
      · have hi2 : ¬ (0 : Int) < ((p - j : Nat) : Int) := by omega
        obtain rfl : j = p := by omega
        clear hds
        go_wp2_with fail
        go_ret
        exact ⟨A0, c0, by (rw [HPR.out, HDJ.out]; try rfl), by rw [HPR.out, HDJ.out]; exact hK⟩
  · have hi1 : ¬ (1 : Int) < (p : Int) := by omega
    have hhl : divHead p = [] := by unfold divHead; rw [if_neg hp1]
    have HHL := Lib.hid hhl
    clear hhl
    go_wp2_with fail
    have hK1 := ((Kn.nil w).al [] 156).litRow (size := 2) (n := 0) rfl (by decide)
    have hK2 : Kn w [rowIns (.slice (some ⟨w.heap.size, 0, none⟩) 0 0) (divUpto p 0)] (w.alloc (.cells #[] 156)) := by rw [HD0.out, HHL.out]; exact hK1
    go_loopw [3, 4] (fun vv kk wr => ∃ (j : Nat), j ≤ p ∧ kk = .int .i64 ((p - j : Nat) : Int) ∧ Kn w [rowIns vv (divUpto p j)] wr) (fun _ kk _ => (intOf kk).toNat)
    case atStart => exact ⟨0, Nat.zero_le _, rfl, hK2⟩
    case round =>
      clear hK2
      obtain ⟨j, hj, rfl, hK⟩ := hrel
      have hln := HLN.out j
      obtain ⟨ds, hds⟩ : ∃ ds, divUpto p j = ds := ⟨_, rfl⟩
      have HDJ := Lib.hid hds
      have HNX := Lib.hid (HDS.out j)
      rw [hds] at hK hln
      obtain ⟨A0, c0, rfl⟩ := row_form hK.at0
      by_cases hjp : j < p
      · have hi2 : (0 : Int) < ((p - j : Nat) : Int) := by omega
        by_cases hl : j + 1 < p
        · exfalso; omega
        · have hi3 : ¬ (1 : Int) < ((p - j : Nat) : Int) := by omega
          have HP := Lib.hid (show divPart p j = [⟨9, 0⟩, ⟨3, 1⟩, ⟨10, 0⟩, ⟨2, 1⟩] by unfold divPart; rw [if_neg hl]; rfl)
          clear hds
          go_wp2_with (first
            | (at_builtin; refine kn_pushIns (m := []) (ys := [⟨9, 0⟩, ⟨3, 1⟩, ⟨10, 0⟩, ⟨2, 1⟩]) rfl _ _ rfl _ ds rfl rfl (hK.al [.int .i64 9, .int .i64 0, .int .i64 3, .int .i64 1, .int .i64 10, .int .i64 0, .int .i64 2, .int .i64 1] 156) (by simp; omega) ?_; intro v3 w3 hK3; clear hK))
          go_roundw
          case rel => exact ⟨j + 1, by omega, by (congr 1; omega), by rw [HNX.out, HP.out, HDJ.out]; exact hK3⟩
          case measure => simp [intOf]; omega
      · have hi2 : ¬ (0 : Int) < ((p - j : Nat) : Int) := by omega
        obtain rfl : j = p := by omega
        clear hds
        go_wp2_with fail
        go_ret
        exact ⟨A0, c0, by (rw [HPR.out, HDJ.out]; try rfl), by rw [HPR.out, HDJ.out]; exact hK⟩
end Go.Proofs.Ytkaaiocbiknipaa

namespace Go.Proofs.Ytkaaiocbiknipaa
open Go.RowKit Go.Sort
theorem l12Room_any (p : Addr) (b : Int) (A : Option Addr) (n c : Nat) (w : World) (hp : RegAt w p b A n c) (b1 : 2 ≤ b) (b2 : b ≤ 16) (hn : n ≤ 9223372036854775807) :
    Calls Try.prog 118 #[.pointer (some p)] w fun e w' => e = .returned (.int .i64 (powS b n)) ∧ ∃ q, w' = w.drewN q := by
  obtain ⟨q1, q2⟩ := hp
  have KP := Lib.hid (fun W => l10Power_any b n W b1 b2 hn)
  go_enter Try.func118, Try.ntmps118
  go_wp2_with fail
  go_quiet ((go_at_call 120; exact quiet_left (KP.out _)))
  go_wp2
  go_ret
  exact ⟨rfl, _, rfl⟩
/-- a fresh machine of a base and widths -/
def newT (b : Int) (n1 n2 n3 : Nat) : Tri := ⟨⟨b, digD b n1 0⟩, ⟨b, digD b n2 0⟩, ⟨b, digD b n3 0⟩, 0⟩
set_option maxRecDepth 100000 in
set_option maxHeartbeats 1600000 in
theorem l10New_any (b : Int) (n1 n2 n3 : Nat) (w : World) (b1 : 2 ≤ b) (b2 : b ≤ 16) (h1 : n1 ≤ 1000000) (h2 : n2 ≤ 1000000) (h3 : n3 ≤ 1000000) :
    Calls Try.prog 181 #[.int .i64 b, .int .i64 n1, .int .i64 n2, .int .i64 n3] w fun e w' => ∃ E1 g1 E2 g2 E3 g3, e = .returned (.agg #[.int .i64 b, .slice E1 (digD b n1 0).length g1, .int .i64 b, .slice E2 (digD b n2 0).length g2, .int .i64 b, .slice E3 (digD b n3 0).length g3, .int .i64 0]) ∧
      Kn w [rowI E3 g3 (digD b n3 0), rowI E2 g2 (digD b n2 0), rowI E1 g1 (digD b n1 0)] w' := by
  have K1 := (fun W => l02NewV_any b n1 0 W b1 b2 h1 (by decide) (by decide))
  have K2 := (fun W => l02NewV_any b n2 0 W b1 b2 h2 (by decide) (by decide))
  have K3 := (fun W => l02NewV_any b n3 0 W b1 b2 h3 (by decide) (by decide))
  obtain ⟨x1, hx1⟩ : ∃ x, digD b n1 0 = x := ⟨_, rfl⟩
  obtain ⟨x2, hx2⟩ : ∃ x, digD b n2 0 = x := ⟨_, rfl⟩
  obtain ⟨x3, hx3⟩ : ∃ x, digD b n3 0 = x := ⟨_, rfl⟩
  rw [hx1] at K1 ⊢
  rw [hx2] at K2 ⊢
  rw [hx3] at K3 ⊢
  have K1 := Lib.hid K1
  have K2 := Lib.hid K2
  have K3 := Lib.hid K3
  clear hx1 hx2 hx3
  go_enter Try.func181, Try.ntmps181
  go_wp2_with fail
  refine Calls.kn ((Kn.nil w).al [.int .i64 0, .slice none 0 0, .int .i64 0, .slice none 0 0, .int .i64 0, .slice none 0 0, .int .i64 0] 65) ?_; intro w1 hK1
  (with_reducible refine (K1.out _).mono ?_); rintro e w2 ⟨E1, g1, rfl, hKn⟩
  have hK2 := hK1.join hKn
  go_wp2_with fail
  refine Calls.kn (hK2.al [.int .i64 b, .slice E1 x1.length g1] 26) ?_; intro w3 hK3
  (with_reducible refine (K2.out _).mono ?_); rintro e w4 ⟨E2, g2, rfl, hKm⟩
  have hK4 := hK3.join hKm
  go_wp2_with fail
  refine Calls.kn (hK4.al [.int .i64 b, .slice E2 x2.length g2] 26) ?_; intro w5 hK5
  (with_reducible refine (K3.out _).mono ?_); rintro e w6 ⟨E3, g3, rfl, hKo⟩
  have hK6 := hK5.join hKo
  clear hK1 hK2 hK3 hK4 hK5 hKn hKm hKo
  obtain ⟨a1, a2, a3, d1, d2, d3, c1, c2, c3, -⟩ := hK6.cells
  go_wp2_with fail
  refine bodyPost.kn ((((((((hK6.front 5 rfl).st 0 (.int .i64 b)).st 1 (.slice E1 x1.length g1)).st 2 (.int .i64 b)).st 3 (.slice E2 x2.length g2)).st 4 (.int .i64 b)).st 5 (.slice E3 x3.length g3)).st 6 (.int .i64 0) |>.al_ _) ?_; intro w7 hK7
  clear a1 a2 a3 d1 d2 d3 c1 c2 c3
  obtain ⟨a1, a2, a3, -⟩ := hK7.cells
  refine bodyPost_ret (v := .agg #[.int .i64 b, .slice E1 x1.length g1, .int .i64 b, .slice E2 x2.length g2, .int .i64 b, .slice E3 x3.length g3, .int .i64 0]) (by simp [results, Try.results181, go_sem, a1]) rfl ⟨E1, g1, E2, g2, E3, g3, rfl, ?_⟩
  exact hK7.sel [1, 3, 5] 99 (by decide) (by decide)
end Go.Proofs.Ytkaaiocbiknipaa

namespace Go.Proofs.Ytkaaiocbiknipaa
open Go.RowKit Go.Sort
/-- a base and widths are those of machines -/
def nmOk (b n1 n2 n3 : Int) : Bool := (betB b 2 16 && betB n1 1 16 && betB n2 1 16 && betB n3 1 16) && vmach (newT b n1.toNat n2.toNat n3.toNat)
theorem regWidth_any (n : Int) (w : World) : Calls Try.prog 173 #[.int .i64 n] w fun e w' => e = .returned (.bool (betB n 1 16)) ∧ w = w' := by
  go_enter Try.func173, Try.ntmps173
  go_wp2_with (go_at_call 81; refine (between_any _ _ _ _).mono ?_; rintro e w' ⟨rfl, rfl⟩)
  go_ret
  exact ⟨rfl, rfl⟩
theorem l07Size_any (n : Int) (w : World) : Calls Try.prog 202 #[.int .i64 n] w fun e w' => e = .returned (.bool (betB n 1 16)) ∧ w = w' := by
  go_enter Try.func202, Try.ntmps202
  go_wp2_with (go_at_call 107; refine (l00In_any _ _ _ _).mono ?_; rintro e w' ⟨rfl, rfl⟩)
  go_ret
  exact ⟨rfl, rfl⟩
theorem NewMachine_range (b n1 n2 n3 : Int) (w : World) (h : (betB b 2 16 && betB n1 1 16 && betB n2 1 16 && betB n3 1 16) = false) :
    Calls Try.prog 203 #[.int .i64 b, .int .i64 n1, .int .i64 n2, .int .i64 n3] w fun e w' => e = .returned (.tuple #[.agg #[.int .i64 0, .slice none 0 0, .int .i64 0, .slice none 0 0, .int .i64 0, .slice none 0 0, .int .i64 0], .int .i64 2]) ∧ Below w.heap.size w w' := by
  have KB := (fun W => isBase_any b W)
  have K1 := (fun W => regWidth_any n1 W)
  have K2 := (fun W => regWidth_any n2 W)
  have K3 := (fun W => regWidth_any n3 W)
  rcases chain4 (betB b 2 16) (betB n1 1 16) (betB n2 1 16) (betB n3 1 16) with h1 | ⟨h1, h2⟩ | ⟨h1, h2, h3⟩ | ⟨h1, h2, h3, h4⟩ | ⟨h1, h2, h3, h4⟩
  case inr.inr.inr.inr => rw [h1, h2, h3, h4] at h; cases h
  all_goals
    rw [h1] at KB
    try rw [h2] at K1
    try rw [h3] at K2
    try rw [h4] at K3
    clear h h1
    try clear h2
    try clear h3
    try clear h4
    have KB := Lib.hid KB
    have K1 := Lib.hid K1
    have K2 := Lib.hid K2
    have K3 := Lib.hid K3
    go_enter Try.func203, Try.ntmps203
    go_wp2_with (first | (go_at_call 172; refine (KB.out _).mono ?_; rintro e w' ⟨rfl, rfl⟩) | (go_at_call 173; first | (with_reducible refine (K1.out _).mono ?_; rintro e w' ⟨rfl, rfl⟩) | (with_reducible refine (K2.out _).mono ?_; rintro e w' ⟨rfl, rfl⟩) | (with_reducible refine (K3.out _).mono ?_; rintro e w' ⟨rfl, rfl⟩)))
    refine bodyPost.kn ((Kn.nil w).al [.int .i64 0, .slice none 0 0, .int .i64 0, .slice none 0 0, .int .i64 0, .slice none 0 0, .int .i64 0] 65) ?_; intro w6 hK6
    obtain ⟨a1, a2, a3, -⟩ := hK6.cells
    exact bodyPost_ret (v := .tuple #[.agg #[.int .i64 0, .slice none 0 0, .int .i64 0, .slice none 0 0, .int .i64 0, .slice none 0 0, .int .i64 0], .int .i64 2]) (by simp [results, Try.results203, go_sem, a1]) rfl ⟨rfl, hK6.below⟩
theorem specNewMachine_range (b n1 n2 n3 : Int) (w : World) (h : (betB b 2 16 && betB n1 1 16 && betB n2 1 16 && betB n3 1 16) = false) :
    Calls Try.prog 157 #[.int .i64 b, .int .i64 n1, .int .i64 n2, .int .i64 n3] w fun e w' => e = .returned (.tuple #[.agg #[.int .i64 0, .slice none 0 0, .int .i64 0, .slice none 0 0, .int .i64 0, .slice none 0 0, .int .i64 0], .int .i64 2]) ∧ Below w.heap.size w w' := by
  have KB := (fun W => l02Base_any b W)
  have K1 := (fun W => l07Size_any n1 W)
  have K2 := (fun W => l07Size_any n2 W)
  have K3 := (fun W => l07Size_any n3 W)
  rcases chain4 (betB b 2 16) (betB n1 1 16) (betB n2 1 16) (betB n3 1 16) with h1 | ⟨h1, h2⟩ | ⟨h1, h2, h3⟩ | ⟨h1, h2, h3, h4⟩ | ⟨h1, h2, h3, h4⟩
  case inr.inr.inr.inr => rw [h1, h2, h3, h4] at h; cases h
  all_goals
    rw [h1] at KB
    try rw [h2] at K1
    try rw [h3] at K2
    try rw [h4] at K3
    clear h h1
    try clear h2
    try clear h3
    try clear h4
    have KB := Lib.hid KB
    have K1 := Lib.hid K1
    have K2 := Lib.hid K2
    have K3 := Lib.hid K3
    go_enter Try.func157, Try.ntmps157
    go_wp2_with (first | (go_at_call 174; refine (KB.out _).mono ?_; rintro e w' ⟨rfl, rfl⟩) | (go_at_call 202; first | (with_reducible refine (K1.out _).mono ?_; rintro e w' ⟨rfl, rfl⟩) | (with_reducible refine (K2.out _).mono ?_; rintro e w' ⟨rfl, rfl⟩) | (with_reducible refine (K3.out _).mono ?_; rintro e w' ⟨rfl, rfl⟩)))
    refine bodyPost.kn ((Kn.nil w).al [.int .i64 0, .slice none 0 0, .int .i64 0, .slice none 0 0, .int .i64 0, .slice none 0 0, .int .i64 0] 65) ?_; intro w6 hK6
    obtain ⟨a1, a2, a3, -⟩ := hK6.cells
    exact bodyPost_ret (v := .tuple #[.agg #[.int .i64 0, .slice none 0 0, .int .i64 0, .slice none 0 0, .int .i64 0, .slice none 0 0, .int .i64 0], .int .i64 2]) (by simp [results, Try.results157, go_sem, a1]) rfl ⟨rfl, hK6.below⟩
/-- what NewMachine returns for widths in range -/
def NMRet (b : Int) (n1 n2 n3 : Nat) (v : Bool) (w : World) (e : Ending) (w' : World) : Prop :=
  (v = true ∧ ∃ E1 g1 E2 g2 E3 g3, e = .returned (.tuple #[.agg #[.int .i64 b, .slice E1 (digD b n1 0).length g1, .int .i64 b, .slice E2 (digD b n2 0).length g2, .int .i64 b, .slice E3 (digD b n3 0).length g3, .int .i64 0], .int .i64 0]) ∧ Kn w [rowI E3 g3 (digD b n3 0), rowI E2 g2 (digD b n2 0), rowI E1 g1 (digD b n1 0)] w') ∨
  (v = false ∧ e = .returned (.tuple #[.agg #[.int .i64 0, .slice none 0 0, .int .i64 0, .slice none 0 0, .int .i64 0, .slice none 0 0, .int .i64 0], .int .i64 2]) ∧ Below w.heap.size w w')
set_option maxRecDepth 100000 in
set_option maxHeartbeats 3200000 in
theorem specNewMachine_any (b : Int) (n1 n2 n3 : Nat) (v : Bool) (w : World) (hb1 : 2 ≤ b) (hb2 : b ≤ 16) (h1 : 1 ≤ n1) (h1' : n1 ≤ 16) (h2 : 1 ≤ n2) (h2' : n2 ≤ 16) (h3 : 1 ≤ n3) (h3' : n3 ≤ 16) (hv : vmach (newT b n1 n2 n3) = v) :
    Calls Try.prog 157 #[.int .i64 b, .int .i64 n1, .int .i64 n2, .int .i64 n3] w (NMRet b n1 n2 n3 v w) := by
  have B0 : betB b 2 16 = true := betB_iff.2 (by omega)
  have B1 : betB n1 1 16 = true := betB_iff.2 (by omega)
  have B2 : betB n2 1 16 = true := betB_iff.2 (by omega)
  have B3 : betB n3 1 16 = true := betB_iff.2 (by omega)
  have KB := Lib.hid (fun W => calls_val (l02Base_any b W) (congrArg Value.bool B0))
  have KW1 := Lib.hid (fun W => calls_val (l07Size_any n1 W) (congrArg Value.bool B1))
  have KW2 := Lib.hid (fun W => calls_val (l07Size_any n2 W) (congrArg Value.bool B2))
  have KW3 := Lib.hid (fun W => calls_val (l07Size_any n3 W) (congrArg Value.bool B3))
  unfold newT at hv
  have l1 := digD_len b n1 0
  have l2 := digD_len b n2 0
  have l3 := digD_len b n3 0
  unfold NMRet
  have KN := (fun W => l10New_any b n1 n2 n3 W hb1 hb2 (by omega) (by omega) (by omega))
  obtain ⟨x1, hx1⟩ : ∃ x, digD b n1 0 = x := ⟨_, rfl⟩
  obtain ⟨x2, hx2⟩ : ∃ x, digD b n2 0 = x := ⟨_, rfl⟩
  obtain ⟨x3, hx3⟩ : ∃ x, digD b n3 0 = x := ⟨_, rfl⟩
  rw [hx1] at KN hv l1 ⊢
  rw [hx2] at KN hv l2 ⊢
  rw [hx3] at KN hv l3 ⊢
  have KN := Lib.hid KN
  have KO := Lib.hid (fun (g : Nat) (E1 E2 E3 : Option Addr) (g1 g2 g3 : Nat) (W : World) (m : List Ent) (hK : Kn w (.blk g [.int .i64 b, .slice E1 x1.length g1, .int .i64 b, .slice E2 x2.length g2, .int .i64 b, .slice E3 x3.length g3, .int .i64 0] 65 :: rowI E3 g3 x3 :: rowI E2 g2 x2 :: rowI E1 g1 x1 :: m) W) =>
    calls_val (l10Ok_any ⟨g, 0, none⟩ ⟨⟨b, x1⟩, ⟨b, x2⟩, ⟨b, x3⟩, 0⟩ W (TriC.tri (A1 := E1) (c1 := g1) (A2 := E2) (c2 := g2) (A3 := E3) (c3 := g3) ⟨box7' hK, Kn.riv (hK.sel [3] 99 (by decide) (by decide)), Kn.riv (hK.sel [2] 99 (by decide) (by decide)), Kn.riv (hK.sel [1] 99 (by decide) (by decide))⟩) ⟨by unfold SmallReg; simp only []; omega, by unfold SmallReg; simp only []; omega, by unfold SmallReg; simp only []; omega⟩) (congrArg Value.bool hv))
  clear hx1 hx2 hx3 l1 l2 l3 B0 B1 B2 B3
  rcases v with _ | _
  all_goals
    clear hv
    go_enter Try.func157, Try.ntmps157
    go_wp2_with (first | (go_at_call 174; refine (KB.out _).mono ?_; rintro e w' ⟨rfl, rfl⟩) | (go_at_call 202; first | (with_reducible refine (KW1.out _).mono ?_; rintro e w' ⟨rfl, rfl⟩) | (with_reducible refine (KW2.out _).mono ?_; rintro e w' ⟨rfl, rfl⟩) | (with_reducible refine (KW3.out _).mono ?_; rintro e w' ⟨rfl, rfl⟩)))
    refine Calls.kn ((Kn.nil w).al [.int .i64 0, .slice none 0 0, .int .i64 0, .slice none 0 0, .int .i64 0, .slice none 0 0, .int .i64 0] 65) ?_; intro w1 hK1
    (with_reducible refine (KN.out _).mono ?_); rintro e w2 ⟨E1, g1, E2, g2, E3, g3, rfl, hKn⟩
    have hK2 := hK1.join hKn
    clear hK1 hKn
    go_wp2_with fail
    refine Calls.kn (hK2.al [.int .i64 b, .slice E1 x1.length g1, .int .i64 b, .slice E2 x2.length g2, .int .i64 b, .slice E3 x3.length g3, .int .i64 0] 65) ?_; intro w3 hK3
    refine (KO.out _ _ _ _ _ _ _ _ _ hK3).mono ?_; rintro e w4 ⟨rfl, q, rfl⟩
    have hK4 := hK3.drewN q
    generalize w3.drewN q = w4 at hK4 ⊢
    clear hK2 hK3
    obtain ⟨a1, a2, a3, d1, d2, d3, -⟩ := hK4.cells
    go_wp2_with fail
  · refine bodyPost.kn (((((((hK4.front 4 rfl).st 0 (.int .i64 0)).st 1 (.slice none 0 0)).st 2 (.int .i64 0)).st 3 (.slice none 0 0)).st 4 (.int .i64 0)).st 5 (.slice none 0 0) |>.st 6 (.int .i64 0)) ?_; intro w6 hK6
    clear a1 a2 a3 d1 d2 d3
    obtain ⟨a1, a2, a3, -⟩ := hK6.cells
    exact bodyPost_ret (v := .tuple #[.agg #[.int .i64 0, .slice none 0 0, .int .i64 0, .slice none 0 0, .int .i64 0, .slice none 0 0, .int .i64 0], .int .i64 2]) (by simp [results, Try.results157, go_sem, a1]) rfl (.inr ⟨by simp, by simp, hK6.below⟩)
  · refine bodyPost.kn (((((((hK4.front 4 rfl).st 0 (.int .i64 b)).st 1 (.slice E1 x1.length g1)).st 2 (.int .i64 b)).st 3 (.slice E2 x2.length g2)).st 4 (.int .i64 b)).st 5 (.slice E3 x3.length g3) |>.st 6 (.int .i64 0)) ?_; intro w6 hK6
    clear a1 a2 a3 d1 d2 d3
    obtain ⟨a1, a2, a3, -⟩ := hK6.cells
    exact bodyPost_ret (v := .tuple #[.agg #[.int .i64 b, .slice E1 x1.length g1, .int .i64 b, .slice E2 x2.length g2, .int .i64 b, .slice E3 x3.length g3, .int .i64 0], .int .i64 0]) (by simp [results, Try.results157, go_sem, a1]) rfl (.inl ⟨by simp, E1, g1, E2, g2, E3, g3, rfl, hK6.sel [2, 3, 4] 99 (by decide) (by decide)⟩)
set_option maxRecDepth 100000 in
set_option maxHeartbeats 3200000 in
theorem NewMachine_any (b : Int) (n1 n2 n3 : Nat) (v : Bool) (w : World) (hb1 : 2 ≤ b) (hb2 : b ≤ 16) (h1 : 1 ≤ n1) (h1' : n1 ≤ 16) (h2 : 1 ≤ n2) (h2' : n2 ≤ 16) (h3 : 1 ≤ n3) (h3' : n3 ≤ 16) (hv : vmach (newT b n1 n2 n3) = v) :
    Calls Try.prog 203 #[.int .i64 b, .int .i64 n1, .int .i64 n2, .int .i64 n3] w (NMRet b n1 n2 n3 v w) := by
  have B0 : betB b 2 16 = true := betB_iff.2 (by omega)
  have B1 : betB n1 1 16 = true := betB_iff.2 (by omega)
  have B2 : betB n2 1 16 = true := betB_iff.2 (by omega)
  have B3 : betB n3 1 16 = true := betB_iff.2 (by omega)
  have KB := Lib.hid (fun W => calls_val (isBase_any b W) (congrArg Value.bool B0))
  have KW1 := Lib.hid (fun W => calls_val (regWidth_any n1 W) (congrArg Value.bool B1))
  have KW2 := Lib.hid (fun W => calls_val (regWidth_any n2 W) (congrArg Value.bool B2))
  have KW3 := Lib.hid (fun W => calls_val (regWidth_any n3 W) (congrArg Value.bool B3))
  unfold newT at hv
  have l1 := digD_len b n1 0
  have l2 := digD_len b n2 0
  have l3 := digD_len b n3 0
  unfold NMRet
  have KR1 := (fun W => registerOf_any b n1 0 W hb1 hb2 (by omega) (by decide) (by decide))
  have KR2 := (fun W => registerOf_any b n2 0 W hb1 hb2 (by omega) (by decide) (by decide))
  have KR3 := (fun W => registerOf_any b n3 0 W hb1 hb2 (by omega) (by decide) (by decide))
  obtain ⟨x1, hx1⟩ : ∃ x, digD b n1 0 = x := ⟨_, rfl⟩
  obtain ⟨x2, hx2⟩ : ∃ x, digD b n2 0 = x := ⟨_, rfl⟩
  obtain ⟨x3, hx3⟩ : ∃ x, digD b n3 0 = x := ⟨_, rfl⟩
  rw [hx1] at KR1 hv l1 ⊢
  rw [hx2] at KR2 hv l2 ⊢
  rw [hx3] at KR3 hv l3 ⊢
  have KR1 := Lib.hid KR1
  have KR2 := Lib.hid KR2
  have KR3 := Lib.hid KR3
  have KO := Lib.hid (fun (E1 E2 E3 : Option Addr) (g1 g2 g3 : Nat) (W : World) (m : List Ent) (hK : Kn w (rowI E3 g3 x3 :: rowI E2 g2 x2 :: rowI E1 g1 x1 :: m) W) =>
    calls_val (ValidMachine_any ⟨⟨b, x1⟩, ⟨b, x2⟩, ⟨b, x3⟩, 0⟩ E1 E2 E3 g1 g2 g3 W (Kn.riv (hK.sel [2] 99 (by decide) (by decide))) (Kn.riv (hK.sel [1] 99 (by decide) (by decide))) (Kn.riv hK) ⟨by unfold SmallReg; simp only []; omega, by unfold SmallReg; simp only []; omega, by unfold SmallReg; simp only []; omega⟩) (congrArg Value.bool hv))
  clear hx1 hx2 hx3 l1 l2 l3 B0 B1 B2 B3
  rcases v with _ | _
  all_goals
    clear hv
    go_enter Try.func203, Try.ntmps203
    go_wp2_with (first | (go_at_call 172; refine (KB.out _).mono ?_; rintro e w' ⟨rfl, rfl⟩) | (go_at_call 173; first | (with_reducible refine (KW1.out _).mono ?_; rintro e w' ⟨rfl, rfl⟩) | (with_reducible refine (KW2.out _).mono ?_; rintro e w' ⟨rfl, rfl⟩) | (with_reducible refine (KW3.out _).mono ?_; rintro e w' ⟨rfl, rfl⟩)))
    refine Calls.kn (((Kn.nil w).al [.int .i64 0, .slice none 0 0, .int .i64 0, .slice none 0 0, .int .i64 0, .slice none 0 0, .int .i64 0] 65).al [.int .i64 0, .slice none 0 0, .int .i64 0, .slice none 0 0, .int .i64 0, .slice none 0 0, .int .i64 0] 65) ?_; intro w1 hK1
    simp only [World.size_alloc] at hK1
    (with_reducible refine (KR1.out _).mono ?_); rintro e w2 ⟨E1, g1, rfl, hKn⟩
    have hK2 := hK1.join hKn
    clear hK1 hKn
    obtain ⟨a1, a2, a3, d1, d2, d3, -⟩ := hK2.cells
    go_wp2_with fail
    refine Calls.kn (((hK2.front 1 rfl).st 0 (.int .i64 b)).st 1 (.slice E1 x1.length g1)) ?_; intro w3 hK3
    (with_reducible refine (KR2.out _).mono ?_); rintro e w4 ⟨E2, g2, rfl, hKn⟩
    have hK4 := hK3.join hKn
    clear hK2 hK3 hKn a1 a2 a3 d1 d2 d3
    obtain ⟨a1, a2, a3, d1, d2, d3, -⟩ := hK4.cells
    go_wp2_with fail
    refine Calls.kn (((hK4.front 1 rfl).st 2 (.int .i64 b)).st 3 (.slice E2 x2.length g2)) ?_; intro w5 hK5
    (with_reducible refine (KR3.out _).mono ?_); rintro e w6 ⟨E3, g3, rfl, hKn⟩
    have hK6 := hK5.join hKn
    clear hK4 hK5 hKn a1 a2 a3 d1 d2 d3
    obtain ⟨a1, a2, a3, d1, d2, d3, -⟩ := hK6.cells
    go_wp2_with fail
    refine Calls.kn (((hK6.front 1 rfl).st 4 (.int .i64 b)).st 5 (.slice E3 x3.length g3)) ?_; intro w7 hK7
    have hK7 := hK7.sel [1, 2, 3, 0, 4] 5 (by decide) (by decide)
    refine (KO.out _ _ _ _ _ _ _ _ hK7).mono ?_; rintro e w8 ⟨rfl, hw⟩
    have hK8 := hK7.keep hw
    clear hK6 hK7 hw a1 a2 a3 d1 d2 d3
    obtain ⟨a1, a2, a3, d1, d2, d3, -⟩ := hK8.cells
    go_wp2_with fail
  · refine bodyPost.kn (((((((hK8.front 4 rfl).st 0 (.int .i64 0)).st 1 (.slice none 0 0)).st 2 (.int .i64 0)).st 3 (.slice none 0 0)).st 4 (.int .i64 0)).st 5 (.slice none 0 0) |>.st 6 (.int .i64 0)) ?_; intro w9 hK9
    clear a1 a2 a3 d1 d2 d3
    obtain ⟨a1, a2, a3, -⟩ := hK9.cells
    exact bodyPost_ret (v := .tuple #[.agg #[.int .i64 0, .slice none 0 0, .int .i64 0, .slice none 0 0, .int .i64 0, .slice none 0 0, .int .i64 0], .int .i64 2]) (by simp [results, Try.results203, go_sem, a1]) rfl (.inr ⟨by simp, by simp, hK9.below⟩)
  · refine bodyPost.kn (((((((hK8.front 4 rfl).st 0 (.int .i64 b)).st 1 (.slice E1 x1.length g1)).st 2 (.int .i64 b)).st 3 (.slice E2 x2.length g2)).st 4 (.int .i64 b)).st 5 (.slice E3 x3.length g3) |>.st 6 (.int .i64 0)) ?_; intro w9 hK9
    clear a1 a2 a3 d1 d2 d3
    obtain ⟨a1, a2, a3, -⟩ := hK9.cells
    exact bodyPost_ret (v := .tuple #[.agg #[.int .i64 b, .slice E1 x1.length g1, .int .i64 b, .slice E2 x2.length g2, .int .i64 b, .slice E3 x3.length g3, .int .i64 0], .int .i64 0]) (by simp [results, Try.results203, go_sem, a1]) rfl (.inl ⟨by simp, E1, g1, E2, g2, E3, g3, rfl, hK9.sel [1, 2, 3] 99 (by decide) (by decide)⟩)
end Go.Proofs.Ytkaaiocbiknipaa

namespace Go.Proofs.Ytkaaiocbiknipaa
open Go.RowKit Go.Sort
/-- the code of the widths of machines whose inputs are counted -/
def inC (b n1 n2 n3 : Int) : Int := if nmOk b n1 n2 n3 = false then 2 else if 256 < pw b n1.toNat * pw b n2.toNat then 5 else 0
structure NmB (b : Int) (n1 n2 n3 : Nat) : Prop where
  b1 : 2 ≤ b
  b2 : b ≤ 16
  h1 : 1 ≤ n1
  h1' : n1 ≤ 16
  h2 : 1 ≤ n2
  h2' : n2 ≤ 16
  h3 : 1 ≤ n3
  h3' : n3 ≤ 16
  hv : vmach (newT b n1 n2 n3) = true
  p1 : pw b n1 ≤ 1000000000001
  p2 : pw b n2 ≤ 1000000000001
  q1 : 1 ≤ pw b n1
  q2 : 1 ≤ pw b n2
theorem nmOk_true {b z1 z2 z3 : Int} (h : nmOk b z1 z2 z3 = true) : ∃ n1 n2 n3 : Nat, z1 = n1 ∧ z2 = n2 ∧ z3 = n3 ∧ NmB b n1 n2 n3 := by
  unfold nmOk at h
  simp only [Bool.and_eq_true, betB_iff] at h
  obtain ⟨⟨⟨⟨hb, h1⟩, h2⟩, h3⟩, hv⟩ := h
  obtain ⟨n1, rfl⟩ := Int.eq_ofNat_of_zero_le (show 0 ≤ z1 by omega)
  obtain ⟨n2, rfl⟩ := Int.eq_ofNat_of_zero_le (show 0 ≤ z2 by omega)
  obtain ⟨n3, rfl⟩ := Int.eq_ofNat_of_zero_le (show 0 ≤ z3 by omega)
  have hv' : vmach (newT b n1 n2 n3) = true := hv
  obtain ⟨k1, k2, k3, e1, e2, f1, f2, l1, p0, p1⟩ := vmach_all hv'
  simp only [newT, digD_len] at f1 l1
  have hm := pw_mono b (by omega) _ _ l1
  exact ⟨n1, n2, n3, rfl, rfl, rfl, by omega, by omega, by omega, by omega, by omega, by omega, by omega, by omega, hv', by omega, f1, pw_pos b (by omega) _, pw_pos b (by omega) _⟩
theorem NewMachine_no (b z1 z2 z3 : Int) (w : World) (h : nmOk b z1 z2 z3 = false) :
    Calls Try.prog 203 #[.int .i64 b, .int .i64 z1, .int .i64 z2, .int .i64 z3] w fun e w' => e = .returned (.tuple #[.agg #[.int .i64 0, .slice none 0 0, .int .i64 0, .slice none 0 0, .int .i64 0, .slice none 0 0, .int .i64 0], .int .i64 2]) ∧ Below w.heap.size w w' := by
  rcases hr : (betB b 2 16 && betB z1 1 16 && betB z2 1 16 && betB z3 1 16) with _ | _
  · exact NewMachine_range b z1 z2 z3 w hr
  · unfold nmOk at h
    rw [hr] at h
    simp only [Bool.and_eq_true, betB_iff] at hr
    obtain ⟨⟨⟨hb, h1⟩, h2⟩, h3⟩ := hr
    obtain ⟨n1, rfl⟩ := Int.eq_ofNat_of_zero_le (show 0 ≤ z1 by omega)
    obtain ⟨n2, rfl⟩ := Int.eq_ofNat_of_zero_le (show 0 ≤ z2 by omega)
    obtain ⟨n3, rfl⟩ := Int.eq_ofNat_of_zero_le (show 0 ≤ z3 by omega)
    refine (NewMachine_any b n1 n2 n3 false w (by omega) (by omega) (by omega) (by omega) (by omega) (by omega) (by omega) (by omega) h).mono ?_
    rintro e w' (⟨h, -⟩ | ⟨-, h⟩)
    · cases h
    · exact h
theorem specNewMachine_no (b z1 z2 z3 : Int) (w : World) (h : nmOk b z1 z2 z3 = false) :
    Calls Try.prog 157 #[.int .i64 b, .int .i64 z1, .int .i64 z2, .int .i64 z3] w fun e w' => e = .returned (.tuple #[.agg #[.int .i64 0, .slice none 0 0, .int .i64 0, .slice none 0 0, .int .i64 0, .slice none 0 0, .int .i64 0], .int .i64 2]) ∧ Below w.heap.size w w' := by
  rcases hr : (betB b 2 16 && betB z1 1 16 && betB z2 1 16 && betB z3 1 16) with _ | _
  · exact specNewMachine_range b z1 z2 z3 w hr
  · unfold nmOk at h
    rw [hr] at h
    simp only [Bool.and_eq_true, betB_iff] at hr
    obtain ⟨⟨⟨hb, h1⟩, h2⟩, h3⟩ := hr
    obtain ⟨n1, rfl⟩ := Int.eq_ofNat_of_zero_le (show 0 ≤ z1 by omega)
    obtain ⟨n2, rfl⟩ := Int.eq_ofNat_of_zero_le (show 0 ≤ z2 by omega)
    obtain ⟨n3, rfl⟩ := Int.eq_ofNat_of_zero_le (show 0 ≤ z3 by omega)
    refine (specNewMachine_any b n1 n2 n3 false w (by omega) (by omega) (by omega) (by omega) (by omega) (by omega) (by omega) (by omega) h).mono ?_
    rintro e w' (⟨h, -⟩ | ⟨-, h⟩)
    · cases h
    · exact h
/-- where the widths are right -/
theorem NewMachine_yes {b : Int} {n1 n2 n3 : Nat} (w : World) (h : NmB b n1 n2 n3) :
    Calls Try.prog 203 #[.int .i64 b, .int .i64 n1, .int .i64 n2, .int .i64 n3] w fun e w' => ∃ E1 g1 E2 g2 E3 g3, e = .returned (.tuple #[.agg #[.int .i64 b, .slice E1 (digD b n1 0).length g1, .int .i64 b, .slice E2 (digD b n2 0).length g2, .int .i64 b, .slice E3 (digD b n3 0).length g3, .int .i64 0], .int .i64 0]) ∧ Kn w [rowI E3 g3 (digD b n3 0), rowI E2 g2 (digD b n2 0), rowI E1 g1 (digD b n1 0)] w' := by
  refine (NewMachine_any b n1 n2 n3 true w h.b1 h.b2 h.h1 h.h1' h.h2 h.h2' h.h3 h.h3' h.hv).mono ?_
  rintro e w' (⟨-, h⟩ | ⟨h, -⟩)
  · exact h
  · cases h
theorem specNewMachine_yes {b : Int} {n1 n2 n3 : Nat} (w : World) (h : NmB b n1 n2 n3) :
    Calls Try.prog 157 #[.int .i64 b, .int .i64 n1, .int .i64 n2, .int .i64 n3] w fun e w' => ∃ E1 g1 E2 g2 E3 g3, e = .returned (.tuple #[.agg #[.int .i64 b, .slice E1 (digD b n1 0).length g1, .int .i64 b, .slice E2 (digD b n2 0).length g2, .int .i64 b, .slice E3 (digD b n3 0).length g3, .int .i64 0], .int .i64 0]) ∧ Kn w [rowI E3 g3 (digD b n3 0), rowI E2 g2 (digD b n2 0), rowI E1 g1 (digD b n1 0)] w' := by
  refine (specNewMachine_any b n1 n2 n3 true w h.b1 h.b2 h.h1 h.h1' h.h2 h.h2' h.h3 h.h3' h.hv).mono ?_
  rintro e w' (⟨-, h⟩ | ⟨h, -⟩)
  · exact h
  · cases h
theorem inC_no {b z1 z2 z3 : Int} (h : nmOk b z1 z2 z3 = false) : inC b z1 z2 z3 = 2 := by unfold inC; rw [if_pos h]
theorem inC_full {b : Int} {n1 n2 n3 : Nat} (hn : nmOk b n1 n2 n3 = true) (h : 256 < pw b n1 * pw b n2) : inC b n1 n2 n3 = 5 := by
  unfold inC; rw [if_neg (by rw [hn]; decide)]; exact if_pos h
theorem inC_fine {b : Int} {n1 n2 n3 : Nat} (hn : nmOk b n1 n2 n3 = true) (h : ¬ 256 < pw b n1 * pw b n2) : inC b n1 n2 n3 = 0 := by
  unfold inC; rw [if_neg (by rw [hn]; decide)]; exact if_neg h
theorem mul_big {x y : Int} (hy : 1 ≤ y) (h : 256 < x) : 256 < x * y := by
  have := Int.mul_le_mul_of_nonneg_left hy (show 0 ≤ x by omega)
  omega
/-- where inputs are not counted -/
theorem inputsOf_bad (b z1 z2 z3 : Int) (w : World) (h : inC b z1 z2 z3 ≠ 0) :
    Calls Try.prog 160 #[.int .i64 b, .int .i64 z1, .int .i64 z2, .int .i64 z3] w fun e w' => e = .returned (.tuple #[.agg #[.int .i64 0, .slice none 0 0, .int .i64 0, .slice none 0 0, .int .i64 0, .slice none 0 0, .int .i64 0, .int .i64 0], .int .i64 (inC b z1 z2 z3)]) ∧ Below w.heap.size w w' := by
  rcases hn : nmOk b z1 z2 z3 with _ | _
  · have HC := Lib.hid (inC_no hn)
    have KN := Lib.hid (fun W => NewMachine_no b z1 z2 z3 W hn)
    clear h hn
    rw [HC.out]
    go_enter Try.func160, Try.ntmps160
    go_wp2_with fail
    refine Calls.kn ((Kn.nil w).al [.int .i64 0, .slice none 0 0, .int .i64 0, .slice none 0 0, .int .i64 0, .slice none 0 0, .int .i64 0, .int .i64 0] 175) ?_; intro w1 hK1
    (with_reducible refine (KN.out _).mono ?_); rintro e w2 ⟨rfl, hw⟩
    have hK2 := hK1.keep hw
    clear hK1 hw
    obtain ⟨a1, a2, a3, -⟩ := hK2.cells
    go_wp2_with fail
    refine bodyPost.kn (((((((((hK2.st 0 (.int .i64 0)).st 1 (.slice none 0 0)).st 2 (.int .i64 0)).st 3 (.slice none 0 0)).st 4 (.int .i64 0)).st 5 (.slice none 0 0)).st 6 (.int .i64 0)).st 7 (.int .i64 0)).al_ (.cells #[.int .i64 0, .slice none 0 0, .int .i64 0, .slice none 0 0, .int .i64 0, .slice none 0 0, .int .i64 0] 65)) ?_; intro w6 hK6
    clear a1 a2 a3
    obtain ⟨a1, a2, a3, -⟩ := hK6.cells
    exact bodyPost_ret (v := .tuple #[.agg #[.int .i64 0, .slice none 0 0, .int .i64 0, .slice none 0 0, .int .i64 0, .slice none 0 0, .int .i64 0, .int .i64 0], .int .i64 2]) (by simp [results, Try.results160, go_sem, a1]) rfl ⟨rfl, hK6.below⟩
  obtain ⟨n1, n2, n3, rfl, rfl, rfl, hB⟩ := nmOk_true hn
  obtain ⟨b1, b2, h1, h1', h2, h2', h3, h3', hv, p1, p2, q1, q2⟩ := hB
  have hbig : 256 < pw b n1 * pw b n2 := Decidable.byContradiction fun hc => h (inC_fine hn hc)
  have HC := Lib.hid (inC_full hn hbig)
  have KN := (fun W => NewMachine_yes W (show NmB b n1 n2 n3 from ⟨b1, b2, h1, h1', h2, h2', h3, h3', hv, p1, p2, q1, q2⟩))
  have V1 := (fun A c W => values_any b A n1 c W b1 b2 (by omega))
  have V2 := (fun A c W => values_any b A n2 c W b1 b2 (by omega))
  have hp1 : powC b n1 = pw b n1 := by unfold powC; rw [if_pos p1]
  have hp2 : powC b n2 = pw b n2 := by unfold powC; rw [if_pos p2]
  rw [hp1] at V1
  rw [hp2] at V2
  obtain ⟨x1, hx1⟩ : ∃ x, digD b n1 0 = x := ⟨_, rfl⟩
  obtain ⟨x2, hx2⟩ : ∃ x, digD b n2 0 = x := ⟨_, rfl⟩
  obtain ⟨x3, hx3⟩ : ∃ x, digD b n3 0 = x := ⟨_, rfl⟩
  have l1 : x1.length = n1 := by rw [← hx1]; exact digD_len ..
  have l2 : x2.length = n2 := by rw [← hx2]; exact digD_len ..
  rw [hx1, hx2, hx3] at KN
  rw [← l1] at V1
  rw [← l2] at V2
  have KN := Lib.hid KN
  have V1 := Lib.hid V1
  have V2 := Lib.hid V2
  obtain ⟨P1, hP1⟩ : ∃ x, pw b n1 = x := ⟨_, rfl⟩
  obtain ⟨P2, hP2⟩ : ∃ x, pw b n2 = x := ⟨_, rfl⟩
  have V1 := V1.out
  have V2 := V2.out
  rw [l1, hP1] at V1
  rw [l2, hP2] at V2
  rw [← l1] at V1
  rw [← l2] at V2
  rw [hP1, hP2] at hbig
  rw [hP1] at p1 q1
  rw [hP2] at p2 q2
  have V1 := Lib.hid V1
  have V2 := Lib.hid V2
  rw [HC.out]
  clear hP1 hP2 hx1 hx2 hx3 hp1 hp2 l1 l2 hn h hv h1 h1' h2 h2' h3 h3' b1 b2
  have hcs : 256 < P1 ∨ (¬ 256 < P1 ∧ 256 < P2) ∨ (¬ 256 < P1 ∧ ¬ 256 < P2 ∧ IntKind.i64.wrap (P1 * P2) = P1 * P2 ∧ 256 < P1 * P2) := by
    by_cases g1 : 256 < P1
    · exact .inl g1
    by_cases g2 : 256 < P2
    · exact .inr (.inl ⟨g1, g2⟩)
    have hm : P1 * P2 ≤ 256 * 256 := Int.le_trans (Int.mul_le_mul_of_nonneg_left (show P2 ≤ 256 by omega) (by omega)) (Int.mul_le_mul_of_nonneg_right (show P1 ≤ 256 by omega) (by decide))
    exact .inr (.inr ⟨g1, g2, wrapI64 (by omega), hbig⟩)
  clear hbig
  rcases hcs with g1 | ⟨g1, g2⟩ | ⟨g1, g2, hwm, hbig⟩
  all_goals
    go_enter Try.func160, Try.ntmps160
    go_wp2_with fail
    refine Calls.kn ((Kn.nil w).al [.int .i64 0, .slice none 0 0, .int .i64 0, .slice none 0 0, .int .i64 0, .slice none 0 0, .int .i64 0, .int .i64 0] 175) ?_; intro w1 hK1
    (with_reducible refine (KN.out _).mono ?_); rintro e w2 ⟨E1, g1, E2, g2, E3, g3, rfl, hKn⟩
    have hK2 := hK1.join hKn
    clear hK1 hKn
    go_wp2_with fail
    have hK3 := hK2.al [.int .i64 b, .slice E1 x1.length g1, .int .i64 b, .slice E2 x2.length g2, .int .i64 b, .slice E3 x3.length g3, .int .i64 0] 65
    generalize w2.alloc (.cells #[.int .i64 b, .slice E1 x1.length g1, .int .i64 b, .slice E2 x2.length g2, .int .i64 b, .slice E3 x3.length g3, .int .i64 0] 65) = w3 at hK3 ⊢
    have HG := Lib.hid (box7 hK3.drew)
    go_cut [12, 13] (fun pp oo wx => pp = .int .i64 P1 ∧ oo = .int .i64 P2 ∧ Kn w [.blk w2.heap.size [.int .i64 b, .slice E1 x1.length g1, .int .i64 b, .slice E2 x2.length g2, .int .i64 b, .slice E3 x3.length g3, .int .i64 0] 65, rowI E3 g3 x3, rowI E2 g2 x2, rowI E1 g1 x1, .blk w.heap.size [.int .i64 0, .slice none 0 0, .int .i64 0, .slice none 0 0, .int .i64 0, .slice none 0 0, .int .i64 0, .int .i64 0] 175] wx)
    case first =>
      go_region_held3 (fun W => W.cell? ⟨w2.heap.size, 0, none⟩ = some (.int .i64 b) ∧ W.cell? ⟨w2.heap.size, 1, none⟩ = some (.slice E1 x1.length g1) ∧ W.cell? ⟨w2.heap.size, 2, none⟩ = some (.int .i64 b) ∧ W.cell? ⟨w2.heap.size, 3, none⟩ = some (.slice E2 x2.length g2) ∧ W.cell? ⟨w2.heap.size, 4, none⟩ = some (.int .i64 b) ∧ W.cell? ⟨w2.heap.size, 5, none⟩ = some (.slice E3 x3.length g3) ∧ W.cell? ⟨w2.heap.size, 6, none⟩ = some (.int .i64 0)) (first | with_reducible exact HG.out | exact HG.out) (first
        | (go_at_call 127; (with_reducible refine (V1.out _ _ _).mono ?_); rintro e w4 ⟨rfl, hw4⟩; have hK4 := hK3.drew.keep hw4; clear HG; have HG := Lib.hid (box7 hK4))
        | (go_at_call 127; (with_reducible refine (V2.out _ _ _).mono ?_); rintro e w5 ⟨rfl, hw5⟩; have hK5 := hK4.keep hw5; clear HG; have HG := Lib.hid (box7 hK5)))
      all_goals
        go_wp2_with fail
        go_meet
        exact ⟨rfl, rfl, hK5⟩
    case rest =>
    obtain ⟨rfl, rfl, hK6⟩ := hcut
    clear HG hK3
    obtain ⟨a1, a2, a3, d1, d2, d3, -⟩ := hK6.cells
    go_wp2_with fail
    first
      | (refine bodyPost.kn (((((((((hK6.front 4 rfl).st 0 (.int .i64 0)).st 1 (.slice none 0 0)).st 2 (.int .i64 0)).st 3 (.slice none 0 0)).st 4 (.int .i64 0)).st 5 (.slice none 0 0)).st 6 (.int .i64 0)).st 7 (.int .i64 0)) ?_; intro w7 hK7)
    clear a1 a2 a3 d1 d2 d3
    obtain ⟨a1, a2, a3, -⟩ := hK7.cells
    exact bodyPost_ret (v := .tuple #[.agg #[.int .i64 0, .slice none 0 0, .int .i64 0, .slice none 0 0, .int .i64 0, .slice none 0 0, .int .i64 0, .int .i64 0], .int .i64 5]) (by simp [results, Try.results160, go_sem, a1]) rfl ⟨rfl, hK7.below⟩
/-- where inputs are counted -/
theorem inputsOf_fine {b : Int} {n1 n2 n3 : Nat} (w : World) (hB : NmB b n1 n2 n3) (hbig : ¬ 256 < pw b n1 * pw b n2) :
    Calls Try.prog 160 #[.int .i64 b, .int .i64 n1, .int .i64 n2, .int .i64 n3] w fun e w' => ∃ E1 g1 E2 g2 E3 g3, e = .returned (.tuple #[.agg #[.int .i64 b, .slice E1 (digD b n1 0).length g1, .int .i64 b, .slice E2 (digD b n2 0).length g2, .int .i64 b, .slice E3 (digD b n3 0).length g3, .int .i64 0, .int .i64 (pw b n1 * pw b n2)], .int .i64 0]) ∧ Kn w [rowI E3 g3 (digD b n3 0), rowI E2 g2 (digD b n2 0), rowI E1 g1 (digD b n1 0)] w' := by
  obtain ⟨b1, b2, h1, h1', h2, h2', h3, h3', hv, p1, p2, q1, q2⟩ := hB
  have KN := (fun W => NewMachine_yes W (show NmB b n1 n2 n3 from ⟨b1, b2, h1, h1', h2, h2', h3, h3', hv, p1, p2, q1, q2⟩))
  have V1 := (fun A c W => values_any b A n1 c W b1 b2 (by omega))
  have V2 := (fun A c W => values_any b A n2 c W b1 b2 (by omega))
  have hp1 : powC b n1 = pw b n1 := by unfold powC; rw [if_pos p1]
  have hp2 : powC b n2 = pw b n2 := by unfold powC; rw [if_pos p2]
  rw [hp1] at V1
  rw [hp2] at V2
  obtain ⟨x1, hx1⟩ : ∃ x, digD b n1 0 = x := ⟨_, rfl⟩
  obtain ⟨x2, hx2⟩ : ∃ x, digD b n2 0 = x := ⟨_, rfl⟩
  obtain ⟨x3, hx3⟩ : ∃ x, digD b n3 0 = x := ⟨_, rfl⟩
  have l1 : x1.length = n1 := by rw [← hx1]; exact digD_len ..
  have l2 : x2.length = n2 := by rw [← hx2]; exact digD_len ..
  rw [hx1, hx2, hx3] at KN
  rw [← l1] at V1
  rw [← l2] at V2
  have KN := Lib.hid KN
  have V1 := Lib.hid V1
  have V2 := Lib.hid V2
  obtain ⟨P1, hP1⟩ : ∃ x, pw b n1 = x := ⟨_, rfl⟩
  obtain ⟨P2, hP2⟩ : ∃ x, pw b n2 = x := ⟨_, rfl⟩
  have V1 := V1.out
  have V2 := V2.out
  rw [l1, hP1] at V1
  rw [l2, hP2] at V2
  rw [← l1] at V1
  rw [← l2] at V2
  rw [hP1, hP2] at hbig
  rw [hP1] at p1 q1
  rw [hP2] at p2 q2
  have V1 := Lib.hid V1
  have V2 := Lib.hid V2
  rw [hP1, hP2, hx1, hx2, hx3]
  clear hP1 hP2 hx1 hx2 hx3 hp1 hp2 l1 l2 hv h1 h1' h2 h2' h3 h3' b1 b2
  have g1 : ¬ 256 < P1 := fun h => hbig (mul_big q2 h)
  have g2 : ¬ 256 < P2 := fun h => hbig (by rw [Int.mul_comm]; exact mul_big q1 h)
  have hm : P1 * P2 ≤ 256 * 256 := Int.le_trans (Int.mul_le_mul_of_nonneg_left (show P2 ≤ 256 by omega) (by omega)) (Int.mul_le_mul_of_nonneg_right (show P1 ≤ 256 by omega) (by decide))
  have hm0 : 0 ≤ P1 * P2 := Int.mul_nonneg (by omega) (by omega)
  have hwm : IntKind.i64.wrap (P1 * P2) = P1 * P2 := wrapI64 (by omega)
  clear hm hm0
  go_enter Try.func160, Try.ntmps160
  go_wp2_with fail
  refine Calls.kn ((Kn.nil w).al [.int .i64 0, .slice none 0 0, .int .i64 0, .slice none 0 0, .int .i64 0, .slice none 0 0, .int .i64 0, .int .i64 0] 175) ?_; intro w1 hK1
  (with_reducible refine (KN.out _).mono ?_); rintro e w2 ⟨E1, g1, E2, g2, E3, g3, rfl, hKn⟩
  have hK2 := hK1.join hKn
  clear hK1 hKn
  go_wp2_with fail
  have hK3 := hK2.al [.int .i64 b, .slice E1 x1.length g1, .int .i64 b, .slice E2 x2.length g2, .int .i64 b, .slice E3 x3.length g3, .int .i64 0] 65
  generalize w2.alloc (.cells #[.int .i64 b, .slice E1 x1.length g1, .int .i64 b, .slice E2 x2.length g2, .int .i64 b, .slice E3 x3.length g3, .int .i64 0] 65) = w3 at hK3 ⊢
  have HG := Lib.hid (box7 hK3.drew)
  go_cut [12, 13] (fun pp oo wx => pp = .int .i64 P1 ∧ oo = .int .i64 P2 ∧ Kn w [.blk w2.heap.size [.int .i64 b, .slice E1 x1.length g1, .int .i64 b, .slice E2 x2.length g2, .int .i64 b, .slice E3 x3.length g3, .int .i64 0] 65, rowI E3 g3 x3, rowI E2 g2 x2, rowI E1 g1 x1, .blk w.heap.size [.int .i64 0, .slice none 0 0, .int .i64 0, .slice none 0 0, .int .i64 0, .slice none 0 0, .int .i64 0, .int .i64 0] 175] wx)
  case first =>
    go_region_held3 (fun W => W.cell? ⟨w2.heap.size, 0, none⟩ = some (.int .i64 b) ∧ W.cell? ⟨w2.heap.size, 1, none⟩ = some (.slice E1 x1.length g1) ∧ W.cell? ⟨w2.heap.size, 2, none⟩ = some (.int .i64 b) ∧ W.cell? ⟨w2.heap.size, 3, none⟩ = some (.slice E2 x2.length g2) ∧ W.cell? ⟨w2.heap.size, 4, none⟩ = some (.int .i64 b) ∧ W.cell? ⟨w2.heap.size, 5, none⟩ = some (.slice E3 x3.length g3) ∧ W.cell? ⟨w2.heap.size, 6, none⟩ = some (.int .i64 0)) (first | with_reducible exact HG.out | exact HG.out) (first
      | (go_at_call 127; (with_reducible refine (V1.out _ _ _).mono ?_); rintro e w4 ⟨rfl, hw4⟩; have hK4 := hK3.drew.keep hw4; clear HG; have HG := Lib.hid (box7 hK4))
      | (go_at_call 127; (with_reducible refine (V2.out _ _ _).mono ?_); rintro e w5 ⟨rfl, hw5⟩; have hK5 := hK4.keep hw5; clear HG; have HG := Lib.hid (box7 hK5)))
    all_goals
      go_wp2_with fail
      go_meet
      exact ⟨rfl, rfl, hK5⟩
  case rest =>
  obtain ⟨rfl, rfl, hK6⟩ := hcut
  clear HG hK3
  obtain ⟨a1, a2, a3, d1, d2, d3, -⟩ := hK6.cells
  go_wp2_with fail
  refine bodyPost.kn (((((((((hK6.front 4 rfl).st 0 (.int .i64 b)).st 1 (.slice E1 x1.length g1)).st 2 (.int .i64 b)).st 3 (.slice E2 x2.length g2)).st 4 (.int .i64 b)).st 5 (.slice E3 x3.length g3)).st 6 (.int .i64 0)).st 7 (.int .i64 (P1 * P2))) ?_; intro w7 hK7
  clear a1 a2 a3 d1 d2 d3
  obtain ⟨a1, a2, a3, -⟩ := hK7.cells
  exact bodyPost_ret (v := .tuple #[.agg #[.int .i64 b, .slice E1 x1.length g1, .int .i64 b, .slice E2 x2.length g2, .int .i64 b, .slice E3 x3.length g3, .int .i64 0, .int .i64 (P1 * P2)], .int .i64 0]) (by simp [results, Try.results160, go_sem, a1]) rfl ⟨E1, g1, E2, g2, E3, g3, rfl, hK7.sel [2, 3, 4] 99 (by decide) (by decide)⟩
theorem div_big {x y : Int} (hy : 1 ≤ y) : (256 : Int).tdiv y < x ↔ 256 < x * y := by
  rw [Int.tdiv_eq_ediv_of_nonneg (by decide)]
  exact Int.ediv_lt_iff_lt_mul (by omega)
theorem l14Size_any (b z1 z2 z3 : Int) (w : World) :
    Calls Try.prog 158 #[.int .i64 b, .int .i64 z1, .int .i64 z2, .int .i64 z3] w fun e w' => e = .returned (.int .i64 (inC b z1 z2 z3)) ∧ Below w.heap.size w w' := by
  rcases hn : nmOk b z1 z2 z3 with _ | _
  · have HC := Lib.hid (inC_no hn)
    have KN := Lib.hid (fun W => specNewMachine_no b z1 z2 z3 W hn)
    clear hn
    rw [HC.out]
    go_enter Try.func158, Try.ntmps158
    go_wp2_with fail
    (with_reducible refine (KN.out _).mono ?_); rintro e w2 ⟨rfl, hw⟩
    have hK2 := (Kn.nil w).keep hw
    clear hw
    go_wp2_with fail
    go_ret
    exact ⟨rfl, (hK2.al_ _).below⟩
  obtain ⟨n1, n2, n3, rfl, rfl, rfl, hB⟩ := nmOk_true hn
  have KN := (fun W => specNewMachine_yes W hB)
  obtain ⟨b1, b2, h1, h1', h2, h2', h3, h3', hv, p1, p2, q1, q2⟩ := hB
  have V1 := (fun W => l10Power_any b n1 W b1 b2 (by omega))
  have V2 := (fun W => l10Power_any b n2 W b1 b2 (by omega))
  have hp1 : powS b n1 = pw b n1 := by unfold powS; omega
  have hp2 : powS b n2 = pw b n2 := by unfold powS; omega
  rw [hp1] at V1
  rw [hp2] at V2
  have HC : inC b n1 n2 n3 = if 256 < pw b n1 * pw b n2 then 5 else 0 := by unfold inC; rw [if_neg (by rw [hn]; decide)]; rfl
  obtain ⟨x1, hx1⟩ : ∃ x, digD b n1 0 = x := ⟨_, rfl⟩
  obtain ⟨x2, hx2⟩ : ∃ x, digD b n2 0 = x := ⟨_, rfl⟩
  obtain ⟨x3, hx3⟩ : ∃ x, digD b n3 0 = x := ⟨_, rfl⟩
  obtain ⟨P1, hP1⟩ : ∃ x, pw b n1 = x := ⟨_, rfl⟩
  obtain ⟨P2, hP2⟩ : ∃ x, pw b n2 = x := ⟨_, rfl⟩
  rw [hx1, hx2, hx3] at KN
  rw [hP1] at V1 p1 q1 HC
  rw [hP2] at V2 p2 q2 HC
  have hdv := div_big (x := P1) q2
  have hdb : 0 ≤ (256 : Int).tdiv P2 ∧ (256 : Int).tdiv P2 ≤ 256 := by
    rw [Int.tdiv_eq_ediv_of_nonneg (by decide)]
    exact ⟨Int.ediv_nonneg (by decide) (by omega), Int.ediv_le_self _ (by decide)⟩
  obtain ⟨Q, hQ⟩ : ∃ x, (256 : Int).tdiv P2 = x := ⟨_, rfl⟩
  have hq0 : (P2 == 0) = false := by simp; omega
  rw [hQ] at hdv hdb
  have hwm : IntKind.i64.wrap Q = Q := wrapI64 (by omega)
  have KN := Lib.hid KN
  have V1 := Lib.hid V1
  have V2 := Lib.hid V2
  clear hP1 hP2 hx1 hx2 hx3 hp1 hp2 hn hv h1 h1' h2 h2' h3 h3' b1 b2
  by_cases g : Q < P1
  · have HC2 := Lib.hid (show inC b n1 n2 n3 = 5 by rw [HC, if_pos (hdv.1 g)])
    clear HC hdv
    go_enter Try.func158, Try.ntmps158
    go_wp2_with fail
    (with_reducible refine (KN.out _).mono ?_); rintro e w2 ⟨E1, g1, E2, g2, E3, g3, rfl, hKn⟩
    go_wp2_with (go_at_call 120; first | (with_reducible refine (V1.out _).mono ?_; rintro e w' ⟨rfl, rfl⟩) | (with_reducible refine (V2.out _).mono ?_; rintro e w' ⟨rfl, rfl⟩))
    go_ret
    exact ⟨ret_int HC2.out.symm, (hKn.al_ _).below⟩
  · have HC2 := Lib.hid (show inC b n1 n2 n3 = 0 by rw [HC, if_neg (fun h => g (hdv.2 h))])
    clear HC hdv
    go_enter Try.func158, Try.ntmps158
    go_wp2_with fail
    (with_reducible refine (KN.out _).mono ?_); rintro e w2 ⟨E1, g1, E2, g2, E3, g3, rfl, hKn⟩
    go_wp2_with (go_at_call 120; first | (with_reducible refine (V1.out _).mono ?_; rintro e w' ⟨rfl, rfl⟩) | (with_reducible refine (V2.out _).mono ?_; rintro e w' ⟨rfl, rfl⟩))
    go_ret
    exact ⟨ret_int HC2.out.symm, (hKn.al_ _).below⟩
end Go.Proofs.Ytkaaiocbiknipaa
