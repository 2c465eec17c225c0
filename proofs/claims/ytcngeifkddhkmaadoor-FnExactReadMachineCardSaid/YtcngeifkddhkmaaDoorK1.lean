import Derived.Test.YtcngeifkddhkmaaDoorS3
namespace Go.Proofs.YtcngeifkddhkmaaDoor
open Go.RowKit Go.Sort
/-- numbers were stored into blocks of P -/
inductive Marks (P : Nat → Prop) : World → World → Prop
  | refl (w : World) : Marks P w w
  | step {w w' : World} {b : Nat} (h : Marks P w w') (hb : P b) (j : Nat) (u : Int) : Marks P w (w'.setCell ⟨b, j, none⟩ (.int .i64 u))
theorem Marks.trans {P : Nat → Prop} {a b c : World} (h1 : Marks P a b) (h2 : Marks P b c) : Marks P a c := by
  induction h2 with
  | refl => exact h1
  | step _ hb j u ih => exact ih.step hb j u
theorem Marks.weaken {P Q : Nat → Prop} {a b : World} (h : Marks P a b) (hq : ∀ k, P k → Q k) : Marks Q a b := by
  induction h with
  | refl => exact .refl _
  | step _ hb j u ih => exact ih.step (hq _ hb) j u
theorem Marks.under {P : Nat → Prop} {B : Nat} {a w w' : World} (h : Marks P w w') (hb : Below B a w) (hP : ∀ k, P k → B ≤ k) : Below B a w' := by
  induction h with
  | refl => exact hb
  | step _ hk j u ih => exact ih.setCell (hP _ hk) _
theorem Marks.size {P : Nat → Prop} {w w' : World} (h : Marks P w w') : w'.heap.size = w.heap.size := by
  induction h with
  | refl => rfl
  | step _ hk j u ih => rw [← ih]; simp [World.setCell]
theorem Marks.block {P : Nat → Prop} {w w' : World} (h : Marks P w w') {k : Nat} (hk : ¬ P k) : w'.heap[k]? = w.heap[k]? := by
  induction h with
  | refl => rfl
  | step _ hb j u ih => rw [← ih]; exact heap_setCell_other _ _ k _ (fun e => hk (by rw [e]; exact hb))
theorem map_set_int (ds : List Int) (j : Nat) (u : Int) : (ds.map (Value.int .i64)).set j (.int .i64 u) = (ds.set j u).map (Value.int .i64) := by
  rw [List.map_set]
theorem OwnI.setAny {w : World} {base : Nat} {v : Value} {ds : List Int} (h : OwnI w base v ds) (b j : Nat) (u : Int) : ∃ ds', ds'.length = ds.length ∧ OwnI (w.setCell ⟨b, j, none⟩ (.int .i64 u)) base v ds' := by
  have h' := h
  rcases h.2 with ⟨rfl, hn⟩ | ⟨g, cap, cur, rfl, hb, hg, rest⟩
  · exact ⟨ds, rfl, by simp [hn], .inl ⟨rfl, hn⟩⟩
  · by_cases hgb : g = b
    · subst hgb
      refine ⟨ds.set j u, by simp, ?_⟩
      have hs := (World.ownsRow.stored h j (.int .i64 u)).1
      rw [map_set_int] at hs
      unfold OwnI
      rw [List.length_set]
      exact hs
    · refine ⟨ds, rfl, h.1, .inr ⟨g, cap, cur, rfl, hb, ?_, rest⟩⟩
      rw [heap_setCell_other _ _ _ _ (by simpa using hgb)]
      exact hg
theorem Marks.ownI {P : Nat → Prop} {w w' : World} (h : Marks P w w') {base : Nat} {v : Value} {ds : List Int} (ho : OwnI w base v ds) : ∃ ds', ds'.length = ds.length ∧ OwnI w' base v ds' := by
  induction h with
  | refl => exact ⟨ds, rfl, ho⟩
  | step _ hb j u ih =>
    obtain ⟨d1, l1, o1⟩ := ih
    obtain ⟨d2, l2, o2⟩ := o1.setAny _ j u
    exact ⟨d2, l2.trans l1, o2⟩
/-- k, k + 1, .. -/
def upto (k : Int) (n : Nat) : List Int := (List.range n).map (fun (i : Nat) => k + (i : Int))
theorem upto_len (k : Int) (n : Nat) : (upto k n).length = n := by simp [upto]
theorem upto_get (k : Int) {n i : Nat} (h : i < n) : (upto k n)[i]? = some (k + i) := by simp [upto, h]
/-- the first j are marked -/
def marked (k : Int) (ds : List Int) (j : Nat) : List Int := upto k j ++ ds.drop j
theorem marked_len (k : Int) (ds : List Int) {j : Nat} (h : j ≤ ds.length) : (marked k ds j).length = ds.length := by simp [marked, upto_len]; omega
theorem marked_set (k : Int) (ds : List Int) {j : Nat} (h : j < ds.length) : (marked k ds j).set j (k + j) = marked k ds (j + 1) := by
  unfold marked
  rw [List.set_append_right _ _ (by rw [upto_len]; exact Nat.le_refl _), upto_len, Nat.sub_self, List.drop_eq_getElem_cons h, List.set_cons_zero]
  simp [upto, List.range_succ]
set_option maxHeartbeats 800000 in
theorem markInt64S_any (base : Nat) (A : Option Addr) (n c : Nat) (ds : List Int) (k : Int) (w : World) (ho : OwnI w base (.slice A n c) ds) (hl : ds.length = n) (h0 : 0 ≤ k) (hk : k + n ≤ 4611686018427387904) :
    Calls Tryd.prog 204 #[.slice A n c, .int .i64 k] w fun e w' => e = .returned (.int .i64 (k + n)) ∧ Marks (fun b => (Value.slice A n c).ownBlock = some b) w w' ∧ OwnI w' base (.slice A n c) (upto k n) := by
  have HL := Lib.hid hl
  rcases ho.2 with ⟨hv, hn⟩ | ⟨g, cap, cur, hv, hb, hg, rest⟩
  · injection hv with e1 e2 e3
    subst e1; subst e3
    have hn0 : n = 0 := by rw [← hl]; exact hn
    subst hn0
    go_enter Tryd.func204, Tryd.ntmps204
    go_wp2
    go_loopw [5, 1] (fun i kk wr => i = .int .i64 0 ∧ kk = .int .i64 k ∧ w = wr) (fun _ _ _ => 0)
    case atStart => exact ⟨rfl, rfl, rfl⟩
    case round =>
      obtain ⟨rfl, rfl, rfl⟩ := hrel
      have HN := Lib.hid (List.eq_nil_of_length_eq_zero HL.out)
      have HO := Lib.hid ho
      clear ho hl
      go_wp2
      go_ret
      exact ⟨ret_int (by simp), .refl _, by have h := HO.out; rw [HN.out] at h; simpa [upto] using h⟩
  · injection hv with e1 e2 e3
    subst e1; subst e3
    clear hg rest
    have hz : (marked k ds 0) = ds := by simp [marked, upto]
    have HO := Lib.hid ho
    have HZ := Lib.hid hz
    clear hz hl ho
    go_enter Tryd.func204, Tryd.ntmps204
    go_wp2
    go_loopw [5, 1] (fun i kk wr => ∃ j : Nat, j ≤ n ∧ i = .int .i64 j ∧ kk = .int .i64 (k + j) ∧ OwnI wr base (.slice (some ⟨g, 0, none⟩) n c) (marked k ds j) ∧ Marks (fun b => (some g : Option Nat) = some b) w wr) (fun i _ _ => n - (intOf i).toNat)
    case atStart => exact ⟨0, Nat.zero_le _, rfl, by simp, by rw [HZ.out]; exact HO.out, .refl _⟩
    case round =>
      obtain ⟨j, hj, rfl, rfl, hown, hmk⟩ := hrel
      by_cases hjn : j < n
      · have hlen := marked_len k ds (j := j) (by have := HL.out; omega)
        have hi0 : (0 : Int) ≤ (j : Int) := by omega
        have hi1 : (j : Int) < (n : Int) := by omega
        unfold OwnI at hown
        rw [hlen, HL.out] at hown
        obtain ⟨u, hu⟩ : ∃ u, ((marked k ds j).map (Value.int .i64))[j]? = some u := ⟨_, List.getElem?_eq_getElem (by rw [List.length_map]; have := HL.out; omega)⟩
        have hcell := (World.ownsRow.cellAt hown j (by have := HL.out; omega)).trans hu
        clear hu
        have hfz := World.ownsRow.frozenAt hown j
        have hst := (World.ownsRow.stored hown j (.int .i64 (k + j))).1
        rw [map_set_int, marked_set k ds (by have := HL.out; omega)] at hst
        have hst2 : OwnI (wr.setCell ⟨g, j, none⟩ (.int .i64 (k + j))) base (.slice (some ⟨g, 0, none⟩) n c) (marked k ds (j + 1)) := by
          unfold OwnI
          rw [marked_len k ds (by have := HL.out; omega), HL.out]
          exact hst
        have HST := Lib.hid hst2
        have HMK := Lib.hid hmk
        clear hst hst2 hown hmk hlen
        go_wp2
        go_roundw
        case rel => exact ⟨j + 1, by omega, by go_num, by go_num, HST.out, HMK.out.step rfl j (k + j)⟩
        case measure => simp [intOf]; omega
      · have HJ : Hid (j = n) := by simp only [Hid]; omega
        have HM : Hid (marked k ds j = upto k n) := by
          simp only [Hid]
          rw [HJ.out]
          simp [marked, List.drop_eq_nil_of_le (Nat.le_of_eq HL.out)]
        have HOWN := Lib.hid hown
        have HMK := Lib.hid hmk
        clear hown hmk
        go_wp2
        go_ret
        exact ⟨ret_int (by rw [HJ.out]), HMK.out, by rw [← HM.out]; exact HOWN.out⟩
set_option maxHeartbeats 800000 in
theorem heldInt64S_any (A : Option Addr) (n c : Nat) (k : Int) (w : World) (hr : RI w A n (upto k n)) (h0 : 0 ≤ k) (hk : k + n ≤ 4611686018427387904) :
    Calls Tryd.prog 205 #[.slice A n c, .int .i64 k] w fun e w' => e = .returned (.int .i64 (k + n)) ∧ w = w' := by
  go_enter Tryd.func205, Tryd.ntmps205
  go_wp2
  go_loopw [5, 1] (fun i kk wr => ∃ j : Nat, j ≤ n ∧ i = .int .i64 j ∧ kk = .int .i64 (k + j) ∧ w = wr) (fun i _ _ => n - (intOf i).toNat)
  case atStart => exact ⟨0, Nat.zero_le _, rfl, by simp, rfl⟩
  case round =>
    obtain ⟨j, hj, rfl, rfl, rfl⟩ := hrel
    by_cases hjn : j < n
    · obtain ⟨ad, hA, hlt, hkl, hc⟩ := hr.at_ hjn
      have hv : (upto k n)[j] = k + j := by have h := upto_get k hjn; rw [List.getElem?_eq_getElem hkl] at h; exact Option.some.inj h
      rw [hv] at hc
      have hi0 : (0 : Int) ≤ (j : Int) := by omega
      have hi1 : (j : Int) < (n : Int) := by omega
      subst hA
      clear hv
      go_wp2
      go_roundw
      case rel => exact ⟨j + 1, by omega, by go_num, by go_num, by simp⟩
      case measure => simp [intOf]; omega
    · have HJ : Hid (j = n) := by simp only [Hid]; omega
      go_wp2
      go_ret
      exact ⟨ret_int (by rw [HJ.out]), rfl⟩
end Go.Proofs.YtcngeifkddhkmaaDoor
