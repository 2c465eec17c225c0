/- Part 4: lemmas and contracts of the claim's functions. -/
import Derived.Test.YtikcifpdnbhpiaaZC1
import Derived.Test.YtikcifpdnbhpiaaZC2
import Derived.Test.YtikcifpdnbhpiaaZC3
import Derived.ProofKit
import Derived.Carry
namespace Go.Proofs.Ytikcifpdnbhpiaa
open Go.RowKit Go.Sort
section
variable {b N : Nat} {w wi : World} {m : List Ent}
theorem DR.al (h : DR b N w m wi) (l : List Value) (T : TypeId) : DR b N w (.blk wi.heap.size l T :: m) (wi.alloc (.cells l.toArray T)) := h.kn (fun _ hK => hK.al l T)
theorem DR.al_ (h : DR b N w m wi) (o : Obj) : DR b N w m (wi.alloc o) := h.kn (fun _ hK => hK.al_ o)
theorem DR.st {g : Nat} {l : List Value} {T : TypeId} (h : DR b N w (.blk g l T :: m) wi) (j : Nat) (v : Value) : DR b N w (.blk g (l.set j v) T :: m) (wi.setCell ⟨g, j, none⟩ v) := h.kn (fun _ hK => hK.st j v)
theorem DR.drew (h : DR b N w m wi) : DR b N w m wi.drew := h.kn (fun _ hK => hK.drew)
theorem DR.front (h : DR b N w m wi) (i : Nat) {e : Ent} (hi : m[i]? = some e) : DR b N w (e :: m.eraseIdx i) wi := h.kn (fun _ hK => hK.front i hi)
theorem DR.sel (h : DR b N w m wi) (is : List Nat) (n : Nat) (h1 : is.Nodup) (h2 : ∀ i ∈ is, i < n) : DR b N w (is.filterMap (fun i => m[i]?) ++ m.drop n) wi := h.kn (fun _ hK => hK.sel is n h1 h2)
theorem DR.cells (h : DR b N w m wi) : Cells m wi := by
  obtain ⟨v, -, -, hK⟩ := h
  exact hK.cells
theorem DR.lt (h : DR b N w m wi) : b < w.heap.size := by
  obtain ⟨v, hT, hS, -⟩ := h
  have := hS.lt
  rw [hT.2] at this
  exact this
theorem DR.add (h : DR b N w m wi) {M : Nat} {w' : World} {m' : List Ent} (h1 : DR b M wi m' w') : DR b M w (m' ++ m) w' := h.join h1 h.lt
theorem DR.keep (h : DR b N w m wi) {w' : World} (hb : Below wi.heap.size wi w') : DR b N w m w' := h.kn (fun _ hK => hK.keep hb)
theorem DR.box2 {g : Nat} {v0 v1 : Value} {T : TypeId} (h : DR b N w (.blk g [v0, v1] T :: m) wi) : wi.cell? ⟨g, 0, none⟩ = some v0 ∧ wi.cell? ⟨g, 1, none⟩ = some v1 := by
  obtain ⟨v, -, -, hK⟩ := h
  exact Go.Proofs.Ytikcifpdnbhpiaa.box2 hK
theorem Calls.dr {P : Program} {f : FuncId} {args : Array Value} {R : Ending → World → Prop} (h : DR b N w m wi) (k : ∀ W, DR b N w m W → Calls P f args W R) : Calls P f args wi R := k wi h
theorem Code.wp.dr {P : Program} {c : Code} {Q : Exit → Act → World → Prop} {a : Act} (h : DR b N w m wi) (k : ∀ W, DR b N w m W → c.wp P Q a W) : c.wp P Q a wi := k wi h
theorem bodyPost.dr {P : Program} {f : Func} {R : Ending → World → Prop} {x : Exit} {a : Act} (h : DR b N w m wi) (k : ∀ W, DR b N w m W → bodyPost P f R x a W) : bodyPost P f R x a wi := k wi h
end
set_option maxHeartbeats 800000 in
theorem l02Most_any (x : Int) (w : World) : Calls Try.prog 68 #[.int .i64 x] w fun e w' => (∃ k : Nat, e = .returned (.int .i64 (k : Int)) ∧ 1 ≤ k ∧ k ≤ 16) ∧ w = w' := by
  go_enter Try.func68, Try.ntmps68
  go_wp2_with fail
  go_loopw [3, 4] (fun nn pp wr => ∃ (k : Nat) (p : Int), nn = .int .i64 (k : Int) ∧ 1 ≤ k ∧ k ≤ 16 ∧ pp = .int .i64 p ∧ w = wr) (fun nn _ _ => 16 - (intOf nn).toNat)
  case atStart => exact ⟨1, _, rfl, by omega, by omega, rfl, rfl⟩
  case round =>
    obtain ⟨k, p, rfl, k1, k2, rfl, rfl⟩ := hrel
    obtain ⟨q, hq⟩ : ∃ q, IntKind.i64.wrap (p - 1) = q := ⟨_, rfl⟩
    by_cases hc : q ≤ 1000000000000
    · by_cases hk : k < 16
      · have hk2 : (k : Int) < 16 := by omega
        go_wp2_with fail
        go_roundw
        case rel => exact ⟨k + 1, _, by go_num, by omega, by omega, rfl, by first | exact trivial | rfl⟩
        case measure => simp [intOf]; omega
      · have hk2 : ¬ (k : Int) < 16 := by omega
        go_wp2_with fail
        go_ret
        exact ⟨⟨k, rfl, k1, k2⟩, rfl⟩
    · go_wp2_with fail
      go_ret
      exact ⟨⟨k, rfl, k1, k2⟩, rfl⟩
end Go.Proofs.Ytikcifpdnbhpiaa

namespace Go.Proofs.Ytikcifpdnbhpiaa
open Go.RowKit Go.Sort
/-- what the drawing of a good register returns -/
def DReg (b M : Nat) (w : World) (e : Ending) (w' : World) : Prop := ∃ (bs : Int) (A : Option Addr) (c : Nat) (ds : List Int), e = .returned (.agg #[.int .i64 bs, .slice A ds.length c]) ∧ (2 ≤ bs ∧ bs ≤ 12 ∧ 1 ≤ ds.length ∧ ds.length ≤ 6) ∧ DR b M w [rowI A c ds] w'
theorem min6 {q k : Nat} (h : 0 ≤ (q : Int) ∧ ((q : Int) < min 6 (k : Int) ∨ min 6 (k : Int) ≤ 1 ∧ (q : Int) = 0)) : q ≤ 5 := by omega
theorem wrapQ {q : Nat} (h : q ≤ 5) : IntKind.i64.wrap (1 + (q : Int)) = ((q + 1 : Nat) : Int) := by rw [wrapI64 (by omega)]; omega
set_option maxRecDepth 100000 in
set_option maxHeartbeats 1600000 in
theorem l02Draw_dr (b N : Nat) (w : World) (h : Src w b N) (hN : N ≤ 800000) :
    Calls Try.prog 59 #[.pointer (some ⟨b, 0, none⟩), .int .i64 6] w (DReg b (N + 40) w) := by
  unfold DReg
  have D0 := DR.nil h
  clear h
  go_enter Try.func59, Try.ntmps59
  go_wp2_with fail
  refine Calls.dr (D0.al [.int .i64 0, .slice none 0 0] 26) ?_; intro w1 D1
  refine (pick_dr b N 11 w1 D1.src (by omega)).mono ?_; rintro e w2 ⟨x, rfl, hx, h2⟩
  have D2 := D1.add h2
  clear D0 D1 h2
  obtain ⟨x0, hx1⟩ := hx
  have x1 : x < 11 := by omega
  clear hx1
  obtain ⟨g0, hg0⟩ : ∃ g, w.heap.size = g := ⟨_, rfl⟩
  rw [hg0] at D2 ⊢
  go_wp2_with fail
  refine Calls.dr (D2.al [.int .i64 (2 + x), .slice none 0 0] 26) ?_; intro w3 D3
  obtain ⟨g, hg⟩ : ∃ g, w2.heap.size = g := ⟨_, rfl⟩
  rw [hg] at D3 ⊢
  clear hg D2
  refine (one_dr b _ 2 w3 D3.src (by omega)).mono ?_; rintro e w4 ⟨y, rfl, h4⟩
  have D4 := D3.add h4
  clear D3 h4
  obtain ⟨bs, hbs⟩ : ∃ z, 2 + x = z := ⟨_, rfl⟩
  rw [hbs] at D4
  have b1 : 2 ≤ bs := by omega
  have b2 : bs ≤ 12 := by omega
  clear hbs
  obtain ⟨a1, a2, a3, -⟩ := D4.cells
  rcases y with _ | _
  · go_wp2_with fail
    have HG := Lib.hid (D4.drew.box2.1)
    have HT := HG
    go_region_held3 (fun W => W.cell? ⟨g, 0, none⟩ = some (.int .i64 bs)) (first | with_reducible exact HG.out | with_reducible exact HT.out | exact HG.out | exact HT.out) (first
      | (go_at_call 68; (with_reducible refine (l02Most_any _ _).mono ?_); rintro e w5 ⟨⟨k, rfl, k1, k2⟩, rfl⟩)
      | (go_at_call 67; (with_reducible refine (l00Min_any _ _ _).mono ?_); rintro e w5 ⟨rfl, rfl⟩)
      | (go_at_call 24; (with_reducible refine (pick_dr b _ _ _ D4.drew.src (by omega)).mono ?_); rintro e w5 ⟨y, rfl, hy, h5⟩; have D5 := D4.drew.add h5; clear HG; have HG := Lib.hid (D5.box2.1); obtain ⟨q, rfl⟩ : ∃ q : Nat, y = q := ⟨y.toNat, by omega⟩; have hq := min6 hy; have hq1 := wrapQ hq)
      | (go_at_call 35; rw [show (q : Int) + 1 = ((q + 1 : Nat) : Int) from rfl]; refine (digits_dr b _ _ (q + 1) _ D5.src (by omega) (by omega) (by omega) (by omega)).mono ?_; rintro e w6 ⟨A, c, ds, rfl, hl, hd, h6⟩; have D6 := D5.add h6; clear HG; have HG := Lib.hid ((D6.front 1 rfl).box2.1); obtain ⟨x1, x2, x3, -⟩ := (D6.front 1 rfl).cells; have D8 := (D6.front 1 rfl).st 1 (.slice A (q + 1) c); clear HT; have HT := Lib.hid (D8.box2.1)))
    all_goals
      clear D5 D6 HG HT
      try clear x1 x2 x3
      try clear a1 a2 a3
      generalize w6.setCell ⟨g, 1, none⟩ (.slice A (q + 1) c) = w8 at D8 ⊢
      obtain ⟨a1, a2, a3, -⟩ := D8.cells
      obtain ⟨d1, d2, d3, -⟩ := (D8.front 2 rfl).cells
      go_wp2_with fail
      refine bodyPost.dr (((D8.front 2 rfl).st 0 (.int .i64 bs)).st 1 (.slice A (q + 1) c)) ?_; intro w9 D9
      clear a1 a2 a3 d1 d2 d3
      obtain ⟨a1, a2, a3, -⟩ := D9.cells
      refine bodyPost_ret (v := .agg #[.int .i64 bs, .slice A (q + 1) c]) (by simp [results, Try.results59, go_sem, a1]) rfl ⟨bs, A, c, ds, by rw [hl], by omega, ?_⟩
      have hq' := hq
      exact (D9.sel [2] 99 (by decide) (by decide)).mono (by omega)
  · go_upto_region 4 with fail
    refine Code.wp.dr ((D4.front 0 rfl).st 0 (.int .i64 10)) ?_; intro w4 D4
    clear a1 a2 a3
    obtain ⟨a1, a2, a3, -⟩ := D4.cells
    have HG := Lib.hid (D4.drew.box2.1)
    have HT := HG
    go_region_held3 (fun W => W.cell? ⟨g, 0, none⟩ = some (.int .i64 10)) (first | with_reducible exact HG.out | with_reducible exact HT.out | exact HG.out | exact HT.out) (first
      | (go_at_call 68; (with_reducible refine (l02Most_any _ _).mono ?_); rintro e w5 ⟨⟨k, rfl, k1, k2⟩, rfl⟩)
      | (go_at_call 67; (with_reducible refine (l00Min_any _ _ _).mono ?_); rintro e w5 ⟨rfl, rfl⟩)
      | (go_at_call 24; (with_reducible refine (pick_dr b _ _ _ D4.drew.src (by omega)).mono ?_); rintro e w5 ⟨y, rfl, hy, h5⟩; have D5 := D4.drew.add h5; clear HG; have HG := Lib.hid (D5.box2.1); obtain ⟨q, rfl⟩ : ∃ q : Nat, y = q := ⟨y.toNat, by omega⟩; have hq := min6 hy; have hq1 := wrapQ hq)
      | (go_at_call 35; rw [show (q : Int) + 1 = ((q + 1 : Nat) : Int) from rfl]; refine (digits_dr b _ _ (q + 1) _ D5.src (by omega) (by omega) (by omega) (by omega)).mono ?_; rintro e w6 ⟨A, c, ds, rfl, hl, hd, h6⟩; have D6 := D5.add h6; clear HG; have HG := Lib.hid ((D6.front 1 rfl).box2.1); obtain ⟨x1, x2, x3, -⟩ := (D6.front 1 rfl).cells; have D8 := (D6.front 1 rfl).st 1 (.slice A (q + 1) c); clear HT; have HT := Lib.hid (D8.box2.1)))
    all_goals
      clear D5 D6 HG HT
      try clear x1 x2 x3
      try clear a1 a2 a3
      generalize w6.setCell ⟨g, 1, none⟩ (.slice A (q + 1) c) = w8 at D8 ⊢
      obtain ⟨a1, a2, a3, -⟩ := D8.cells
      obtain ⟨d1, d2, d3, -⟩ := (D8.front 2 rfl).cells
      go_wp2_with fail
      refine bodyPost.dr (((D8.front 2 rfl).st 0 (.int .i64 10)).st 1 (.slice A (q + 1) c)) ?_; intro w9 D9
      clear a1 a2 a3 d1 d2 d3
      obtain ⟨a1, a2, a3, -⟩ := D9.cells
      refine bodyPost_ret (v := .agg #[.int .i64 10, .slice A (q + 1) c]) (by simp [results, Try.results59, go_sem, a1]) rfl ⟨10, A, c, ds, by rw [hl], by omega, ?_⟩
      have hq' := hq
      exact (D9.sel [2] 99 (by decide) (by decide)).mono (by omega)
end Go.Proofs.Ytikcifpdnbhpiaa

namespace Go.Proofs.Ytikcifpdnbhpiaa
open Go.RowKit Go.Sort
theorem DR.lit {b N : Nat} {w wi : World} {m : List Ent} {g : Nat} {ds : List Int} (h : DR b N w (.blk g (ds.map (Value.int .i64)) 2 :: m) wi) (hd : ds.length ≤ 1000) :
    RI wi (some ⟨g, 0, none⟩) ds.length ds ∧ (∀ ad, some (⟨g, 0, none⟩ : Addr) = some ad → ad.block ≠ b) := by
  obtain ⟨v, -, hS, hK⟩ := h
  have hb := hS.lt
  have ho := hK.own _ (List.mem_cons_self ..) g rfl
  have hr : Kn v (rowI (some ⟨g, 0, none⟩) ds.length ds :: m) wi := hK.litRow (size := 1) (n := ds.length) (by simp) (by unfold maxLen; omega)
  refine ⟨Kn.riv hr, fun ad he => ?_⟩
  injection he with he
  subst he
  show g ≠ b
  omega
set_option maxRecDepth 100000 in
set_option maxHeartbeats 800000 in
theorem l09DrawNumber_dr (b N : Nat) (w : World) (h : Src w b N) (hN : N ≤ 800000) :
    Calls Try.prog 25 #[.pointer (some ⟨b, 0, none⟩)] w fun e w' => ∃ x : Int, e = .returned (.int .i64 x) ∧ DR b (N + 10) w [] w' := by
  have D0 := DR.nil h
  clear h
  go_enter Try.func25, Try.ntmps25
  go_wp2_with fail
  refine (one_dr b _ 12 w D0.src (by omega)).mono ?_; rintro e w1 ⟨y, rfl, h1⟩
  have D1 := D0.add h1
  clear D0 h1
  rcases y with _ | _
  · go_wp2_with fail
    refine (pick_dr b _ _ w1 D1.src (by omega)).mono ?_; rintro e w2 ⟨x, rfl, hx, h2⟩
    have D2 := D1.add h2
    have x1 : 0 ≤ x ∧ x < 200 := ⟨hx.1, by rcases hx.2 with h | h <;> omega⟩
    clear D1 h2 hx
    go_wp2_with fail
    refine (pick_dr b _ _ w2 D2.src (by omega)).mono ?_; rintro e w3 ⟨y, rfl, hy, h3⟩
    have D3 := D2.add h3
    have y1 : 0 ≤ y ∧ y < 2 := ⟨hy.1, by rcases hy.2 with h | h <;> omega⟩
    clear D2 h3 hy
    go_wp2_with fail
    refine (pick_dr b _ _ w3 D3.src (by omega)).mono ?_; rintro e w4 ⟨z, rfl, hz, h4⟩
    have D4 := D3.add h4
    clear D3 h4 hz
    go_wp2_with fail
    go_ret
    exact ⟨_, rfl, D4.mono (by omega)⟩
  · go_wp2_with fail
    refine Calls.dr (D1.al [.int .i64 (-1000000000001), .int .i64 (-1000000000000), .int .i64 1000000000000, .int .i64 1000000000001, .int .i64 (-9223372036854775808)] 2) ?_; intro w2 D2
    obtain ⟨hr, hA⟩ := DR.lit (ds := [-1000000000001, -1000000000000, 1000000000000, 1000000000001, -9223372036854775808]) D2 (by decide)
    refine (among_dr b _ _ 5 5 _ w2 D2.src (by omega) hr hA (by omega) (by omega)).mono ?_; rintro e w3 ⟨x, rfl, hx, h3⟩
    have D3 := D2.add h3
    clear hr hA
    go_wp2_with fail
    go_ret
    exact ⟨_, rfl, (D3.sel [] 99 (by decide) (by decide)).mono (by omega)⟩
end Go.Proofs.Ytikcifpdnbhpiaa

namespace Go.Proofs.Ytikcifpdnbhpiaa
open Go.RowKit Go.Sort
theorem DR.ad {b N : Nat} {w wi w' : World} {m m' : List Ent} (h : DR b N w m wi) (h1 : Kn wi m' w') : DR b N w (m' ++ m) w' := h.kn (fun _ hK => hK.join h1)
theorem pw_12 {b : Int} (b1 : 2 ≤ b) (b2 : b ≤ 12) (k : Nat) : pw b k ≤ pw 12 k := by
  induction k with
  | zero => exact Int.le_refl _
  | succ k ih =>
    rw [pw_succ, pw_succ]
    have := pw_pos b b1 k
    exact Int.mul_le_mul ih b2 (by omega) (by have := pw_pos 12 (by omega) k; omega)
theorem pw_small {b : Int} (b1 : 2 ≤ b) (b2 : b ≤ 12) {k : Nat} (hk : k ≤ 6) : pw b k ≤ 2985984 := by
  have h1 := pw_12 b1 b2 k
  have h2 := pw_mono 12 (by omega) k 6 hk
  have h3 : pw 12 6 = 2985984 := by decide
  omega
/-- what the drawing of a register returns -/
def DReg2 (b M : Nat) (w : World) (e : Ending) (w' : World) : Prop := ∃ (bs : Int) (A : Option Addr) (c : Nat) (ds : List Int), e = .returned (.agg #[.int .i64 bs, .slice A ds.length c]) ∧ ds.length ≤ 20 ∧ DR b M w [rowI A c ds] w'
set_option maxRecDepth 100000 in
set_option maxHeartbeats 1600000 in
theorem l09Draw_dr (b N : Nat) (w : World) (h : Src w b N) (hN : N ≤ 700000) :
    Calls Try.prog 45 #[.pointer (some ⟨b, 0, none⟩)] w (DReg2 b (N + 60) w) := by
  unfold DReg2
  have D0 := DR.nil h
  clear h
  go_enter Try.func45, Try.ntmps45
  go_wp2_with fail
  refine Calls.dr (D0.al [.int .i64 0, .slice none 0 0] 26) ?_; intro w1 D1
  refine (l02Draw_dr b N w1 D1.src (by omega)).mono ?_; rintro e w2 ⟨bs, A, c, ds, rfl, ⟨b1, b2, n1, n2⟩, h2⟩
  have D2 := D1.add h2
  clear D0 D1 h2
  obtain ⟨g0, hg0⟩ : ∃ g, w.heap.size = g := ⟨_, rfl⟩
  rw [hg0] at D2 ⊢
  have hps := pw_small b1 b2 n2
  have hpp := pw_pos bs b1 ds.length
  have KL := (fun W => l09Low_any bs ds.length _ W b1 (by omega) (by omega) rfl (by omega))
  have KS := (fun x W (hx : -9000000000000000000 ≤ x ∧ x ≤ 9000000000000000000) => l09Set_any bs ds.length _ x W b1 (by omega) (by omega) rfl (by omega) hx)
  have hh := half_bd (n := pw bs ds.length) (by omega)
  obtain ⟨lo, hlo⟩ : ∃ z, (pw bs ds.length).tdiv 2 = z := ⟨_, rfl⟩
  rw [hlo] at KL hh
  have l1 : 0 ≤ lo ∧ lo ≤ 3000000 := by omega
  replace KL := Lib.hid KL
  replace KS := Lib.hid KS
  clear hps hpp hh hlo hg0
  go_wp2_with fail
  refine Calls.dr (D2.al [.int .i64 bs, .slice A ds.length c] 26) ?_; intro w3 D3
  obtain ⟨g, hg⟩ : ∃ g, w2.heap.size = g := ⟨_, rfl⟩
  rw [hg] at D3 ⊢
  clear hg D2
  refine (one_dr b _ 3 w3 D3.src (by omega)).mono ?_; rintro e w4 ⟨y, rfl, h4⟩
  have D4 := D3.add h4
  clear D3 h4
  obtain ⟨a1, a2, a3, -⟩ := D4.cells
  rcases y with _ | _
  · obtain ⟨d1, d2, d3, -⟩ := (D4.front 2 rfl).cells
    go_wp2_with fail
    refine bodyPost.dr (((D4.front 2 rfl).st 0 (.int .i64 bs)).st 1 (.slice A ds.length c)) ?_; intro w9 D9
    clear a1 a2 a3 d1 d2 d3
    obtain ⟨a1, a2, a3, -⟩ := D9.cells
    refine bodyPost_ret (v := .agg #[.int .i64 bs, .slice A ds.length c]) (by simp [results, Try.results45, go_sem, a1]) rfl ⟨bs, A, c, ds, rfl, by omega, ?_⟩
    exact (D9.sel [2] 99 (by decide) (by decide)).mono (by omega)
  · go_wp2_with fail
    (with_reducible refine (KL.out _).mono ?_); rintro e w5 ⟨rfl, rfl⟩
    go_wp2_with fail
    have HG := Lib.hid (D4.drew.box2.1)
    have HT := HG
    go_region_held3 (fun W => W.cell? ⟨g, 0, none⟩ = some (.int .i64 bs)) (first | with_reducible exact HG.out | with_reducible exact HT.out | exact HG.out | exact HT.out) (first
      | (go_at_call 24; (with_reducible refine (pick_dr b _ _ _ D4.drew.src (by omega)).mono ?_); rintro e w5 ⟨y, rfl, hy, h5⟩; have D5 := D4.drew.add h5; clear HG; have HG := Lib.hid (D5.box2.1); have hy1 : 0 ≤ y ∧ y < 5 := ⟨hy.1, by rcases hy.2 with h | h <;> omega⟩; have wy1 : IntKind.i64.wrap (lo + y) = lo + y := wrapI64 (by omega); have wy2 : IntKind.i64.wrap (lo + y - 2) = lo + y - 2 := wrapI64 (by omega); clear hy)
      | (go_at_call 54; (with_reducible refine (KS.out _ _ (by omega)).mono ?_); rintro e w6 ⟨E, k, rfl, h6⟩; have D6 := D5.ad h6; clear HG; have HG := Lib.hid ((D6.front 1 rfl).box2.1); obtain ⟨x1, x2, x3, -⟩ := (D6.front 3 rfl).cells; have D8 := ((D6.front 3 rfl).st 0 (.int .i64 bs)).st 1 (.slice E (aSet bs ds.length (lo + y - 2)).length k); clear HT; have HT := Lib.hid ((D8.front 2 rfl).box2.1)))
    all_goals
      go_wp2_with fail
      refine bodyPost.dr D8 ?_; intro w9 D9
      clear a1 a2 a3 x1 x2 x3
      obtain ⟨a1, a2, a3, -⟩ := D9.cells
      refine bodyPost_ret (v := .agg #[.int .i64 bs, .slice E (aSet bs ds.length (lo + y - 2)).length k]) (by simp [results, Try.results45, go_sem, a1]) rfl ⟨bs, E, k, _, rfl, by rw [aSet_len]; omega, ?_⟩
      exact (D9.sel [1] 99 (by decide) (by decide)).mono (by omega)
end Go.Proofs.Ytikcifpdnbhpiaa

namespace Go.Proofs.Ytikcifpdnbhpiaa
open Go.RowKit Go.Sort
theorem DR.setI {b N : Nat} {w wi : World} {m : List Ent} {g c : Nat} {ds : List Int} (h : DR b N w (rowI (some ⟨g, 0, none⟩) c ds :: m) wi) (j : Nat) (v : Int) : DR b N w (rowI (some ⟨g, 0, none⟩) c (ds.set j v) :: m) (wi.setCell ⟨g, j, none⟩ (.int .i64 v)) := h.kn (fun _ hK => hK.setI j v)
theorem DR.rowCell {b N : Nat} {w wi : World} {m : List Ent} {g c : Nat} {ds : List Int} (h : DR b N w (rowI (some ⟨g, 0, none⟩) c ds :: m) wi) {j : Nat} (hj : j < ds.length) : wi.cell? ⟨g, j, none⟩ = some (.int .i64 ds[j]) ∧ wi.frozen? ⟨g, j, none⟩ = false ∧ g < wi.heap.size := by
  obtain ⟨v, -, -, hK⟩ := h
  have h1 := Kn.rowCell hK (j := j) (u := .int .i64 ds[j]) (by simp [hj])
  exact ⟨h1.1, h1.2, World.block_lt_of_cell? wi _ h1.1⟩
theorem DR.rowForm {b N : Nat} {w wi : World} {m : List Ent} {A : Option Addr} {c : Nat} {ds : List Int} (h : DR b N w (rowI A c ds :: m) wi) (hd : 0 < ds.length) : ∃ g, A = some ⟨g, 0, none⟩ := by
  obtain ⟨v, -, -, hK⟩ := h
  obtain ⟨g, c', he⟩ := Kn.rowForm hK hd
  injection he with he
  exact ⟨g, he⟩
theorem idxL {j L : Nat} (h : 0 ≤ (j : Int) ∧ ((j : Int) < (L : Int) ∨ (L : Int) ≤ 1 ∧ (j : Int) = 0)) (h1 : 1 ≤ L) : j < L := by omega
set_option maxRecDepth 100000 in
set_option maxHeartbeats 1600000 in
theorem l02Bent_dr (b N : Nat) (w : World) (h : Src w b N) (hN : N ≤ 600000) :
    Calls Try.prog 41 #[.pointer (some ⟨b, 0, none⟩)] w (DReg2 b (N + 150) w) := by
  unfold DReg2
  have D0 := DR.nil h
  clear h
  go_enter Try.func41, Try.ntmps41
  go_wp2_with fail
  refine Calls.dr (D0.al [.int .i64 0, .slice none 0 0] 26) ?_; intro w1 D1
  refine (l02Draw_dr b N w1 D1.src (by omega)).mono ?_; rintro e w2 ⟨bs, A, c, ds, rfl, ⟨b1, b2, n1, n2⟩, h2⟩
  have D2 := D1.add h2
  clear D0 D1 h2
  obtain ⟨g0, hg0⟩ : ∃ g, w.heap.size = g := ⟨_, rfl⟩
  rw [hg0] at D2 ⊢
  go_wp2_with fail
  refine Calls.dr (D2.al [.int .i64 bs, .slice A ds.length c] 26) ?_; intro w3 D3
  obtain ⟨g, hg⟩ : ∃ g, w2.heap.size = g := ⟨_, rfl⟩
  rw [hg] at D3 ⊢
  clear hg D2 hg0
  refine (pick_dr b _ 20 w3 D3.src (by omega)).mono ?_; rintro e w4 ⟨y, rfl, hy, h4⟩
  have D4 : DR b _ w [.blk g [.int .i64 bs, .slice A ds.length c] 26, rowI A c ds, .blk g0 [.int .i64 0, .slice none 0 0] 26] w4 := D3.add h4
  clear D3 h4
  have y0 : 0 ≤ y := hy.1
  clear hy
  by_cases h0 : y = 0
  · subst h0
    go_wp2_with fail
    refine Calls.dr (D4.al [.int .i64 1, .int .i64 2, .int .i64 16, .int .i64 17, .int .i64 (-9223372036854775808)] 2) ?_; intro w5 D5
    obtain ⟨hr, hA⟩ := DR.lit (ds := [1, 2, 16, 17, -9223372036854775808]) D5 (by decide)
    refine (among_dr b _ _ 5 5 _ w5 D5.src (by omega) hr hA (by omega) (by omega)).mono ?_; rintro e w6 ⟨x, rfl, hx, h6⟩
    have D6 := D5.add h6
    clear hr hA D4 D5 h6 hx
    obtain ⟨l1, l2, l3, a1, a2, a3, d1, d2, d3, -⟩ := D6.cells
    go_upto_region 16 with fail
    refine Code.wp.dr (((D6.front 1 rfl).st 0 (.int .i64 x)).sel [0, 2, 3] 99 (by decide) (by decide)) ?_; intro w8 D8
    clear D6 l1 l2 l3 a1 a2 a3 d1 d2 d3
    obtain ⟨a1, a2, a3, d1, d2, d3, -⟩ := D8.cells
    go_wp2_with fail
    refine bodyPost.dr (((D8.front 2 rfl).st 0 (.int .i64 x)).st 1 (.slice A ds.length c)) ?_; intro w9 D9
    clear a1 a2 a3 d1 d2 d3
    obtain ⟨a1, a2, a3, -⟩ := D9.cells
    refine bodyPost_ret (v := .agg #[.int .i64 x, .slice A ds.length c]) (by simp [results, Try.results41, go_sem, a1]) rfl ⟨x, A, c, ds, ?_, ?_, (D9.sel [2] 99 (by decide) (by decide)).mono (by omega)⟩
    · rfl
    · omega
  by_cases h1 : y = 1
  · subst h1
    obtain ⟨gA, rfl⟩ := (D4.front 1 rfl).rowForm (by omega)
    obtain ⟨L, hL⟩ : ∃ L, ds.length = L := ⟨_, rfl⟩
    have HL := Lib.hid hL
    rw [hL] at D4 n1 n2
    clear hL
    have wb : IntKind.i64.wrap (bs - 1) = bs - 1 := wrapI64 (by omega)
    obtain ⟨a1, a2, a3, d1, d2, d3, -⟩ := D4.cells
    go_upto_region 6 with fail
    have HG := Lib.hid (D4.drew.box2)
    have D5 := (D4.al [.int .i64 (-1), .int .i64 bs, .int .i64 (bs - 1), .int .i64 9223372036854775807] 2).drew
    have HT := Lib.hid ((D5.front 1 rfl).box2)
    go_region_held3 (fun W => W.cell? ⟨g, 0, none⟩ = some (.int .i64 bs) ∧ W.cell? ⟨g, 1, none⟩ = some (.slice (some ⟨gA, 0, none⟩) L c)) (first | with_reducible exact HG.out | with_reducible exact HT.out | exact HG.out | exact HT.out) (first
      | (go_at_call 24; (with_reducible refine (pick_dr b _ _ _ D5.src (by omega)).mono ?_); rintro e w5 ⟨y, rfl, hy, h5⟩; have D6 := D5.add h5; clear HG; have HG := Lib.hid ((D6.front 1 rfl).box2); obtain ⟨j, rfl⟩ : ∃ j : Nat, y = j := ⟨y.toNat, by omega⟩; have hj := idxL hy n1; have hj2 : (j : Int) < (L : Int) := by omega)
      | (go_at_call 24; (with_reducible refine (pick_dr b _ _ _ D4.drew.src (by omega)).mono ?_); rintro e w5 ⟨y, rfl, hy, h5⟩; have D5a := D4.drew.add h5; have D6 := D5a.al [.int .i64 (-1), .int .i64 bs, .int .i64 (bs - 1), .int .i64 9223372036854775807] 2; clear HG; have HG := Lib.hid (D5a.box2); clear HT; have HT := Lib.hid ((D6.front 1 rfl).box2); obtain ⟨j, rfl⟩ : ∃ j : Nat, y = j := ⟨y.toNat, by omega⟩; have hj := idxL hy n1; have hj2 : (j : Int) < (L : Int) := by omega)
      | (go_at_call 47; have hRA := DR.lit (ds := [-1, bs, bs - 1, 9223372036854775807]) D6 (by simp); refine (among_dr b _ _ 4 4 _ _ D6.src (by omega) hRA.1 hRA.2 (by omega) (by omega)).mono ?_; rintro e w7 ⟨x, rfl, hx, h7⟩; have D7 := D6.add h7; clear HG; have HG := Lib.hid ((D7.front 1 rfl).box2); have hrc := (D7.front 2 rfl).rowCell (j := j) (by rw [HL.out]; exact hj); obtain ⟨r1, r2, r3⟩ := hrc; have D8 := (D7.front 2 rfl).setI j x; clear HT; have HT := Lib.hid ((D8.front 2 rfl).box2)))
    all_goals
      clear HG HT D5 D6
      generalize w7.setCell ⟨gA, j, none⟩ (.int .i64 x) = w8 at D8 ⊢
      clear r1 r2 r3 hRA D7
      try clear D5a
      clear D4 a1 a2 a3 d1 d2 d3
      have D8 := D8.sel [2, 0, 3] 99 (by decide) (by decide)
      obtain ⟨a1, a2, a3, d1, d2, d3, -⟩ := D8.cells
      go_wp2_with fail
      refine bodyPost.dr (((D8.front 2 rfl).st 0 (.int .i64 bs)).st 1 (.slice (some ⟨gA, 0, none⟩) L c)) ?_; intro w9 D9
      clear a1 a2 a3 d1 d2 d3
      obtain ⟨a1, a2, a3, -⟩ := D9.cells
      refine bodyPost_ret (v := .agg #[.int .i64 bs, .slice (some ⟨gA, 0, none⟩) L c]) (by simp [results, Try.results41, go_sem, a1]) rfl ⟨bs, (some ⟨gA, 0, none⟩), c, (ds.set j x), ?_, ?_, (D9.sel [2] 99 (by decide) (by decide)).mono (by omega)⟩
      · rw [List.length_set, HL.out]
      · rw [List.length_set, HL.out]; omega
  by_cases h2 : y = 2
  · subst h2
    obtain ⟨a1, a2, a3, d1, d2, d3, -⟩ := D4.cells
    go_upto_region 16 with fail
    have D5 := (D4.st 1 (.slice (some ⟨w4.heap.size, 0, none⟩) 0 0)).al [] 2
    simp only [World.size_setCell] at D5
    refine Code.wp.dr ((D5.kn (m' := [rowI (some ⟨w4.heap.size, 0, none⟩) 0 [], .blk g [.int .i64 bs, .slice (some ⟨w4.heap.size, 0, none⟩) 0 0] 26, rowI A c ds, .blk g0 [.int .i64 0, .slice none 0 0] 26]) (fun v hK => hK.litRow (size := 1) (n := 0) rfl (by decide))).sel [1, 0, 3] 99 (by decide) (by decide)) ?_; intro w8 D8
    clear D4 D5 a1 a2 a3 d1 d2 d3
    obtain ⟨a1, a2, a3, d1, d2, d3, -⟩ := D8.cells
    go_wp2_with fail
    refine bodyPost.dr (((D8.front 2 rfl).st 0 (.int .i64 bs)).st 1 (.slice (some ⟨w4.heap.size, 0, none⟩) 0 0)) ?_; intro w9 D9
    clear a1 a2 a3 d1 d2 d3
    obtain ⟨a1, a2, a3, -⟩ := D9.cells
    refine bodyPost_ret (v := .agg #[.int .i64 bs, .slice (some ⟨w4.heap.size, 0, none⟩) 0 0]) (by simp [results, Try.results41, go_sem, a1]) rfl ⟨bs, (some ⟨w4.heap.size, 0, none⟩), 0, [], ?_, ?_, (D9.sel [2] 99 (by decide) (by decide)).mono (by omega)⟩
    · rfl
    · simp
  by_cases h3 : y = 3
  · subst h3
    obtain ⟨a1, a2, a3, d1, d2, d3, -⟩ := D4.cells
    go_wp2_with fail
    refine Calls.dr (D4.st 0 (.int .i64 5)) ?_; intro w5 D5
    clear a1 a2 a3 d1 d2 d3 D4
    refine (pick_dr b _ 2 w5 D5.src (by omega)).mono ?_; rintro e w6 ⟨x, rfl, hx, h6⟩
    have D6 := D5.add h6
    clear D5 h6
    obtain ⟨q, rfl⟩ : ∃ q : Nat, x = q := ⟨x.toNat, by omega⟩
    have hq : q ≤ 1 := by rcases hx.2 with h | h <;> omega
    have hq2 : IntKind.i64.wrap (16 + (q : Int)) = ((q + 16 : Nat) : Int) := by rw [wrapI64 (by omega)]; omega
    clear hx
    go_wp2_with fail
    rw [show (q : Int) + 16 = ((q + 16 : Nat) : Int) from rfl]
    refine (digits_dr b _ 5 (q + 16) w6 D6.src (by omega) (by omega) (by omega) (by omega)).mono ?_; rintro e w7 ⟨E, k, es, rfl, hl, -, h7⟩
    have D7 := D6.add h7
    clear D6 h7
    obtain ⟨a1, a2, a3, d1, d2, d3, -⟩ := D7.cells
    go_upto_region 16 with fail
    refine Code.wp.dr (((D7.front 1 rfl).st 1 (.slice E (q + 16) k)).sel [0, 1, 3] 99 (by decide) (by decide)) ?_; intro w8 D8
    clear D7 a1 a2 a3 d1 d2 d3
    obtain ⟨a1, a2, a3, d1, d2, d3, -⟩ := D8.cells
    go_wp2_with fail
    refine bodyPost.dr (((D8.front 2 rfl).st 0 (.int .i64 5)).st 1 (.slice E (q + 16) k)) ?_; intro w9 D9
    clear a1 a2 a3 d1 d2 d3
    obtain ⟨a1, a2, a3, -⟩ := D9.cells
    refine bodyPost_ret (v := .agg #[.int .i64 5, .slice E (q + 16) k]) (by simp [results, Try.results41, go_sem, a1]) rfl ⟨5, E, k, es, ?_, ?_, (D9.sel [2] 99 (by decide) (by decide)).mono (by omega)⟩
    · rw [hl]
    · omega
  by_cases h4 : y = 4
  · subst h4
    obtain ⟨a1, a2, a3, d1, d2, d3, -⟩ := D4.cells
    go_upto_region 15 with fail
    have D5 := ((D4.st 0 (.int .i64 10)).st 1 (.slice (some ⟨w4.heap.size, 0, none⟩) 13 13)).al [.int .i64 0, .int .i64 0, .int .i64 0, .int .i64 0, .int .i64 0, .int .i64 0, .int .i64 0, .int .i64 0, .int .i64 0, .int .i64 0, .int .i64 0, .int .i64 0, .int .i64 1] 2
    simp only [World.size_setCell] at D5
    refine Code.wp.dr D5 ?_; intro w5 D5
    obtain ⟨gl, hgl⟩ : ∃ g, w4.heap.size = g := ⟨_, rfl⟩
    rw [hgl] at D5
    clear a1 a2 a3 d1 d2 d3 D4 hgl
    obtain ⟨l1, l2, l3, a1, a2, a3, -⟩ := D5.cells
    have HG := Lib.hid ((D5.drew.front 1 rfl).box2.2)
    have HT := HG
    go_region_held3 (fun W => W.cell? ⟨g, 1, none⟩ = some (.slice (some ⟨gl, 0, none⟩) 13 13)) (first | with_reducible exact HG.out | with_reducible exact HT.out | exact HG.out | exact HT.out) (first
      | (go_at_call 24; (with_reducible refine (pick_dr b _ _ _ D5.drew.src (by omega)).mono ?_); rintro e w6 ⟨x, rfl, hx, h6⟩; have D6 := D5.drew.add h6; clear HG; have HG := Lib.hid ((D6.front 1 rfl).box2.2); obtain ⟨x1, x2, x3, -⟩ := D6.cells; have D7 := (D6.front 0 rfl).st 0 (.int .i64 x); clear HT; have HT := Lib.hid ((D7.front 1 rfl).box2.2)))
    all_goals
      clear HG HT D6
      try clear x1 x2 x3
      try clear l1 l2 l3 a1 a2 a3
      generalize w6.setCell ⟨gl, 0, none⟩ (.int .i64 x) = w7 at D7 ⊢
      have D8 := (D7.kn (m' := [rowI (some ⟨gl, 0, none⟩) 13 [x, 0, 0, 0, 0, 0, 0, 0, 0, 0, 0, 0, 1], .blk g [.int .i64 10, .slice (some ⟨gl, 0, none⟩) 13 13] 26, rowI A c ds, .blk g0 [.int .i64 0, .slice none 0 0] 26]) (fun v hK => hK.litRow (size := 1) (n := 13) rfl (by decide))).sel [1, 0, 3] 99 (by decide) (by decide)
      clear D7
      obtain ⟨a1, a2, a3, d1, d2, d3, -⟩ := D8.cells
      go_wp2_with fail
      refine bodyPost.dr (((D8.front 2 rfl).st 0 (.int .i64 10)).st 1 (.slice (some ⟨gl, 0, none⟩) 13 13)) ?_; intro w9 D9
      clear a1 a2 a3 d1 d2 d3
      obtain ⟨a1, a2, a3, -⟩ := D9.cells
      refine bodyPost_ret (v := .agg #[.int .i64 10, .slice (some ⟨gl, 0, none⟩) 13 13]) (by simp [results, Try.results41, go_sem, a1]) rfl ⟨10, (some ⟨gl, 0, none⟩), 13, [x, 0, 0, 0, 0, 0, 0, 0, 0, 0, 0, 0, 1], ?_, ?_, (D9.sel [2] 99 (by decide) (by decide)).mono (by omega)⟩
      · rfl
      · simp
  · go_upto_region 16 with fail
    refine Code.wp.dr D4 ?_; intro w8 D8
    clear D4
    obtain ⟨a1, a2, a3, d1, d2, d3, -⟩ := D8.cells
    go_wp2_with fail
    refine bodyPost.dr (((D8.front 2 rfl).st 0 (.int .i64 bs)).st 1 (.slice A ds.length c)) ?_; intro w9 D9
    clear a1 a2 a3 d1 d2 d3
    obtain ⟨a1, a2, a3, -⟩ := D9.cells
    refine bodyPost_ret (v := .agg #[.int .i64 bs, .slice A ds.length c]) (by simp [results, Try.results41, go_sem, a1]) rfl ⟨bs, A, c, ds, ?_, ?_, (D9.sel [2] 99 (by decide) (by decide)).mono (by omega)⟩
    · rfl
    · omega
end Go.Proofs.Ytikcifpdnbhpiaa

namespace Go.Proofs.Ytikcifpdnbhpiaa
open Go.RowKit Go.Sort
set_option maxRecDepth 100000 in
set_option maxHeartbeats 1600000 in
theorem l09Bent_dr (b N : Nat) (w : World) (h : Src w b N) (hN : N ≤ 500000) :
    Calls Try.prog 23 #[.pointer (some ⟨b, 0, none⟩)] w (DReg2 b (N + 200) w) := by
  unfold DReg2
  have D0 := DR.nil h
  clear h
  go_enter Try.func23, Try.ntmps23
  go_wp2_with fail
  refine Calls.dr (D0.al [.int .i64 0, .slice none 0 0] 26) ?_; intro w1 D1
  refine (one_dr b _ 8 w1 D1.src (by omega)).mono ?_; rintro e w2 ⟨y, rfl, h2⟩
  have D2 : DR b _ w [.blk w.heap.size [.int .i64 0, .slice none 0 0] 26] w2 := D1.add h2
  clear D0 D1 h2
  rcases y with _ | _
  · go_wp2_with fail
    refine (one_dr b _ 24 w2 D2.src (by omega)).mono ?_; rintro e w3 ⟨y, rfl, h3⟩
    have D3 : DR b _ w [.blk w.heap.size [.int .i64 0, .slice none 0 0] 26] w3 := D2.add h3
    clear D2 h3
    rcases y with _ | _
    · go_wp2_with fail
      refine (l09Draw_dr b _ w3 D3.src (by omega)).mono ?_; rintro e w4 ⟨bs, A, c, ds, rfl, hl, h4⟩
      have D4 := D3.add h4
      clear D3 h4
      obtain ⟨a1, a2, a3, -⟩ := D4.cells
      go_wp2_with fail
      refine bodyPost.dr ((((D4).front 1 rfl).st 0 (.int .i64 bs)).st 1 (.slice A ds.length c)) ?_; intro w9 D9
      clear a1 a2 a3
      obtain ⟨a1, a2, a3, -⟩ := D9.cells
      refine bodyPost_ret (v := .agg #[.int .i64 bs, .slice A ds.length c]) (by simp [results, Try.results23, go_sem, a1]) rfl ⟨bs, A, c, ds, ?_, ?_, (D9.sel [1] 99 (by decide) (by decide)).mono (by omega)⟩
      · rfl
      · exact hl
    · go_wp2_with fail
      refine (pick_dr b _ 2 w3 D3.src (by omega)).mono ?_; rintro e w6 ⟨x, rfl, hx, h6⟩
      have D6 := D3.add h6
      clear D3 h6
      obtain ⟨q, rfl⟩ : ∃ q : Nat, x = q := ⟨x.toNat, by omega⟩
      have hq : q ≤ 1 := by rcases hx.2 with h | h <;> omega
      have hq2 : IntKind.i64.wrap (12 + (q : Int)) = ((q + 12 : Nat) : Int) := by rw [wrapI64 (by omega)]; omega
      clear hx
      go_wp2_with fail
      rw [show (q : Int) + 12 = ((q + 12 : Nat) : Int) from rfl]
      refine (digits_dr b _ 2 (q + 12) w6 D6.src (by omega) (by omega) (by omega) (by omega)).mono ?_; rintro e w7 ⟨E, k, es, rfl, hl, -, h7⟩
      have D7 := D6.add h7
      clear D6 h7
      obtain ⟨a1, a2, a3, -⟩ := D7.cells
      go_wp2_with fail
      refine bodyPost.dr ((((D7).front 1 rfl).st 0 (.int .i64 10)).st 1 (.slice E (q + 12) k)) ?_; intro w9 D9
      clear a1 a2 a3
      obtain ⟨a1, a2, a3, -⟩ := D9.cells
      refine bodyPost_ret (v := .agg #[.int .i64 10, .slice E (q + 12) k]) (by simp [results, Try.results23, go_sem, a1]) rfl ⟨10, E, k, es, ?_, ?_, (D9.sel [1] 99 (by decide) (by decide)).mono (by omega)⟩
      · rw [hl]
      · omega
  · go_wp2_with fail
    refine (l02Bent_dr b _ w2 D2.src (by omega)).mono ?_; rintro e w4 ⟨bs, A, c, ds, rfl, hl, h4⟩
    have D4 := D2.add h4
    clear D2 h4
    obtain ⟨a1, a2, a3, -⟩ := D4.cells
    go_wp2_with fail
    refine bodyPost.dr ((((D4).front 1 rfl).st 0 (.int .i64 bs)).st 1 (.slice A ds.length c)) ?_; intro w9 D9
    clear a1 a2 a3
    obtain ⟨a1, a2, a3, -⟩ := D9.cells
    refine bodyPost_ret (v := .agg #[.int .i64 bs, .slice A ds.length c]) (by simp [results, Try.results23, go_sem, a1]) rfl ⟨bs, A, c, ds, ?_, ?_, (D9.sel [1] 99 (by decide) (by decide)).mono (by omega)⟩
    · rfl
    · exact hl
end Go.Proofs.Ytikcifpdnbhpiaa

namespace Go.Proofs.Ytikcifpdnbhpiaa
open Go.RowKit Go.Sort
/-- a register that a law's draw returns -/
def DrawsReg (w : World) (e : Ending) (w' : World) : Prop := ∃ (bs : Int) (A : Option Addr) (c : Nat) (ds : List Int), e = .returned (.agg #[.int .i64 bs, .slice A ds.length c]) ∧ ds.length ≤ 20 ∧ Kn w [rowI A c ds] w'
set_option maxRecDepth 100000 in
theorem DrawNumberOf_any (A : Option Addr) (n c : Nat) (bs : List UInt8) (w : World) (hb : RB w A n bs) (hn : n ≤ 9223372036854775807) :
    Calls Try.prog 17 #[.slice A n c] w (DrawsReg w) := by
  unfold DrawsReg
  have HB := Lib.hid hb
  clear hb
  go_enter Try.func17, Try.ntmps17
  go_wp2_with fail
  refine Calls.kn ((Kn.nil w).al [.int .i64 0, .slice none 0 0] 26) ?_; intro w1 K1
  refine (l00From_any A n c bs w1 (HB.out.below K1.below) hn).mono ?_; rintro e w2 ⟨rfl, hs, hb2⟩
  have D2 := DR.nil hs
  clear HB hs
  go_wp2_with fail
  refine (l09Bent_dr _ _ w2 D2.src (by omega)).mono ?_; rintro e w3 ⟨bs, A, c, ds, rfl, hl, h3⟩
  have K3 := K1.join (Kn.ofDR hb2 (Nat.le_refl _) h3)
  clear K1 D2 h3 hb2
  obtain ⟨a1, a2, a3, -⟩ := K3.cells
  go_wp2_with fail
  refine bodyPost.kn (((K3.front 1 rfl).st 0 (.int .i64 bs)).st 1 (.slice A ds.length c)) ?_; intro w9 K9
  clear a1 a2 a3
  obtain ⟨a1, a2, a3, -⟩ := K9.cells
  exact bodyPost_ret (v := .agg #[.int .i64 bs, .slice A ds.length c]) (by simp [results, Try.results17, go_sem, a1]) rfl ⟨bs, A, c, ds, rfl, hl, K9.sel [1] 99 (by decide) (by decide)⟩
set_option maxRecDepth 100000 in
theorem DrawClearTurns_any (A : Option Addr) (n c : Nat) (bs : List UInt8) (w : World) (hb : RB w A n bs) (hn : n ≤ 9223372036854775807) :
    Calls Try.prog 14 #[.slice A n c] w (DrawsReg w) := by
  unfold DrawsReg
  have HB := Lib.hid hb
  clear hb
  go_enter Try.func14, Try.ntmps14
  go_wp2_with fail
  refine Calls.kn ((Kn.nil w).al [.int .i64 0, .slice none 0 0] 26) ?_; intro w1 K1
  refine (l00From_any A n c bs w1 (HB.out.below K1.below) hn).mono ?_; rintro e w2 ⟨rfl, hs, hb2⟩
  have D2 := DR.nil hs
  clear HB hs
  go_wp2_with fail
  refine (l02Bent_dr _ _ w2 D2.src (by omega)).mono ?_; rintro e w3 ⟨bs, A, c, ds, rfl, hl, h3⟩
  have K3 := K1.join (Kn.ofDR hb2 (Nat.le_refl _) h3)
  clear K1 D2 h3 hb2
  obtain ⟨a1, a2, a3, -⟩ := K3.cells
  go_wp2_with fail
  refine bodyPost.kn (((K3.front 1 rfl).st 0 (.int .i64 bs)).st 1 (.slice A ds.length c)) ?_; intro w9 K9
  clear a1 a2 a3
  obtain ⟨a1, a2, a3, -⟩ := K9.cells
  exact bodyPost_ret (v := .agg #[.int .i64 bs, .slice A ds.length c]) (by simp [results, Try.results14, go_sem, a1]) rfl ⟨bs, A, c, ds, rfl, hl, K9.sel [1] 99 (by decide) (by decide)⟩
set_option maxRecDepth 100000 in
set_option maxHeartbeats 1600000 in
theorem DrawAccumulateNumber_any (A : Option Addr) (n c : Nat) (bs : List UInt8) (w : World) (hb : RB w A n bs) (hn : n ≤ 9223372036854775807) :
    Calls Try.prog 8 #[.slice A n c] w fun e w' => ∃ (b : Int) (A : Option Addr) (c : Nat) (ds : List Int) (x : Int), e = .returned (.tuple #[.agg #[.int .i64 b, .slice A ds.length c], .int .i64 x]) ∧ ds.length ≤ 20 ∧ Kn w [rowI A c ds] w' := by
  have HB := Lib.hid hb
  clear hb
  go_enter Try.func8, Try.ntmps8
  go_wp2_with fail
  refine Calls.kn ((Kn.nil w).al [.int .i64 0, .slice none 0 0] 26) ?_; intro w1 K1
  refine (l00From_any A n c bs w1 (HB.out.below K1.below) hn).mono ?_; rintro e w2 ⟨rfl, hs, hb2⟩
  have D2 := DR.nil hs
  clear HB hs
  go_wp2_with fail
  refine (l09Bent_dr _ _ w2 D2.src (by omega)).mono ?_; rintro e w3 ⟨b, A, c, ds, rfl, hl, h3⟩
  have D3 := D2.add h3
  clear D2 h3
  go_wp2_with fail
  obtain ⟨g, hg⟩ : ∃ g, w3.heap.size = g := ⟨_, rfl⟩
  have D4 := D3.al [.int .i64 b, .slice A ds.length c] 26
  rw [hg] at D4 ⊢
  generalize w3.alloc (.cells #[.int .i64 b, .slice A ds.length c] 26) = w4 at D4 ⊢
  clear D3 hg
  have HG := Lib.hid (D4.drew.box2)
  have HT := HG
  go_region_held3 (fun W => W.cell? ⟨g, 0, none⟩ = some (.int .i64 b) ∧ W.cell? ⟨g, 1, none⟩ = some (.slice A ds.length c)) (first | with_reducible exact HG.out | with_reducible exact HT.out | exact HG.out | exact HT.out) (first
    | (go_at_call 25; (refine (l09DrawNumber_dr _ _ _ D4.drew.src (by omega)).mono ?_); rintro e w5 ⟨x, rfl, h5⟩; have D5 := D4.drew.add h5; clear HG; have HG := Lib.hid (D5.box2); have K5 : Kn w [.blk g [.int .i64 b, .slice A ds.length c] 26, rowI A c ds, .blk w.heap.size [.int .i64 0, .slice none 0 0] 26] w5 := K1.join (Kn.ofDR hb2 (Nat.le_refl _) D5); obtain ⟨x1, x2, x3, -⟩ := (K5.front 2 rfl).cells; have K8 := ((K5.front 2 rfl).st 0 (.int .i64 b)).st 1 (.slice A ds.length c); clear HT; have HT := Lib.hid (box2 (K8.front 1 rfl))))
  all_goals
    go_wp2_with fail
    refine bodyPost.kn K8 ?_; intro w9 K9
    clear x1 x2 x3
    obtain ⟨a1, a2, a3, -⟩ := K9.cells
    exact bodyPost_ret (v := .tuple #[.agg #[.int .i64 b, .slice A ds.length c], .int .i64 x]) (by simp [results, Try.results8, go_sem, a1]) rfl ⟨b, A, c, ds, x, rfl, hl, K9.sel [2] 99 (by decide) (by decide)⟩
end Go.Proofs.Ytikcifpdnbhpiaa

namespace Go.Proofs.Ytikcifpdnbhpiaa
open Go.RowKit Go.Sort
set_option maxRecDepth 100000 in
set_option maxHeartbeats 1600000 in
theorem DrawAccumulateAll_any (A : Option Addr) (n c : Nat) (bs : List UInt8) (w : World) (hb : RB w A n bs) (hn : n ≤ 9223372036854775807) :
    Calls Try.prog 5 #[.slice A n c] w fun e w' => ∃ (b : Int) (A : Option Addr) (c : Nat) (ds : List Int) (B : Option Addr) (m : Nat) (us : List Int), e = .returned (.tuple #[.agg #[.int .i64 b, .slice A ds.length c], .slice B us.length m]) ∧ (ds.length ≤ 20 ∧ us.length ≤ 6) ∧ Kn w [rowI A c ds, rowI B m us] w' := by
  have HB := Lib.hid hb
  clear hb
  go_enter Try.func5, Try.ntmps5
  go_wp2_with fail
  refine Calls.kn ((Kn.nil w).al [.int .i64 0, .slice none 0 0] 26) ?_; intro w1 K1
  refine (l00From_any A n c bs w1 (HB.out.below K1.below) hn).mono ?_; rintro e w2 ⟨rfl, hs, hb2⟩
  have D2 := DR.nil hs
  clear HB hs
  go_wp2_with fail
  refine (l09Bent_dr _ _ w2 D2.src (by omega)).mono ?_; rintro e w3 ⟨b, A, c, ds, rfl, hl, h3⟩
  have D3 : DR w1.heap.size _ w2 [rowI A c ds] w3 := D2.add h3
  clear D2 h3
  go_wp2_with fail
  refine Calls.dr ((D3.al [.int .i64 b, .slice A ds.length c] 26).al [] 2) ?_; intro w4 D4
  simp only [World.size_alloc] at D4
  obtain ⟨g, hg⟩ : ∃ g, w3.heap.size = g := ⟨_, rfl⟩
  rw [hg] at D4 ⊢
  have D5 : DR w1.heap.size _ w2 [rowI (some ⟨g + 1, 0, none⟩) 0 [], .blk g [.int .i64 b, .slice A ds.length c] 26, rowI A c ds] w4 := D4.kn (fun v hK => hK.litRow (size := 1) (n := 0) rfl (by decide))
  clear D3 D4 hg
  refine (pick_dr _ _ 7 w4 D5.src (by omega)).mono ?_; rintro e w5 ⟨x, rfl, hx, h5⟩
  have D6 : DR w1.heap.size _ w2 [rowI (some ⟨g + 1, 0, none⟩) 0 [], .blk g [.int .i64 b, .slice A ds.length c] 26, rowI A c ds] w5 := D5.add h5
  clear D5 h5
  obtain ⟨q, rfl⟩ : ∃ q : Nat, x = q := ⟨x.toNat, by omega⟩
  have hq : q ≤ 6 := by rcases hx.2 with h | h <;> omega
  clear hx
  go_wp2_with fail
  go_loopw [6, 7] (fun ll kk wr => ∃ (k : Nat) (B : Option Addr) (m : Nat) (us : List Int), kk = .int .i64 (k : Int) ∧ us.length + k ≤ 6 ∧ ll = .slice B us.length m ∧ DR w1.heap.size (300 + us.length * 10) w2 [rowI B m us, .blk g [.int .i64 b, .slice A ds.length c] 26, rowI A c ds] wr) (fun _ kk _ => (intOf kk).toNat)
  case atStart => exact ⟨q, _, _, [], rfl, by simpa using hq, rfl, D6.mono (by simp)⟩
  case round =>
    obtain ⟨k, B, m, us, rfl, hk, rfl, D⟩ := hrel
    clear D6
    by_cases hkn : 0 < k
    · have hk1 : (0 : Int) < (k : Int) := by omega
      have hk2 : (k : Int) > 0 := hk1
      go_wp2_with fail
      refine (l09DrawNumber_dr _ _ wr D.src (by omega)).mono ?_; rintro e w6 ⟨x, rfl, h6⟩
      obtain ⟨v, hT, hS, hK⟩ : DR w1.heap.size _ w2 [rowI B m us, .blk g [.int .i64 b, .slice A ds.length c] 26, rowI A c ds] w6 := D.add h6
      clear D h6
      go_wp2_with (at_builtin; refine kn_pushI rfl _ _ rfl _ us rfl rfl (hK.al [.int .i64 x] 2) (by omega) ?_; intro v5 w7 hK9; obtain ⟨A5, c5, rfl⟩ := row_form hK9.at0)
      go_roundw
      case rel => exact ⟨k - 1, A5, c5, us ++ [x], by go_num, by simp; omega, by simp, v, hT, hS.mono (by simp; omega), hK9⟩
      case measure => simp [intOf]; omega
    · have hk1 : ¬ (k : Int) > 0 := by omega
      have K5 : Kn w [rowI B m us, .blk g [.int .i64 b, .slice A ds.length c] 26, rowI A c ds, .blk w.heap.size [.int .i64 0, .slice none 0 0] 26] wr := K1.join (Kn.ofDR hb2 (Nat.le_refl _) D)
      clear D K1 hb2
      obtain ⟨a1, a2, a3, x1, x2, x3, -⟩ := K5.cells
      go_wp2_with fail
      refine bodyPost.kn (((K5.front 3 rfl).st 0 (.int .i64 b)).st 1 (.slice A ds.length c)) ?_; intro w9 K9
      clear a1 a2 a3 x1 x2 x3
      obtain ⟨a1, a2, a3, -⟩ := K9.cells
      exact bodyPost_ret (v := .tuple #[.agg #[.int .i64 b, .slice A ds.length c], .slice B us.length m]) (by simp [results, Try.results5, go_sem, a1]) rfl ⟨b, A, c, ds, B, m, us, rfl, ⟨hl, by omega⟩, K9.sel [3, 1] 99 (by decide) (by decide)⟩
end Go.Proofs.Ytikcifpdnbhpiaa

namespace Go.Proofs.Ytikcifpdnbhpiaa
open Go.RowKit Go.Sort
/-- what the draw of two registers returns -/
def Draws2 (w : World) (e : Ending) (w' : World) : Prop := ∃ (b : Int) (A : Option Addr) (c : Nat) (ds : List Int) (b2 : Int) (B : Option Addr) (k : Nat) (es : List Int), e = .returned (.tuple #[.agg #[.int .i64 b, .slice A ds.length c], .agg #[.int .i64 b2, .slice B es.length k]]) ∧ (ds.length ≤ 20 ∧ es.length ≤ 20) ∧ Kn w [rowI A c ds, rowI B k es] w'
theorem pick5 {q : Nat} (h : 0 ≤ (q : Int) ∧ ((q : Int) < 5 ∨ (5 : Int) ≤ 1 ∧ (q : Int) = 0)) : q ≤ 5 := by omega
set_option maxRecDepth 100000 in
set_option maxHeartbeats 1600000 in
theorem DrawTransferTo_any (A : Option Addr) (n c : Nat) (bs : List UInt8) (w : World) (hb : RB w A n bs) (hn : n ≤ 9223372036854775807) :
    Calls Try.prog 11 #[.slice A n c] w (Draws2 w) := by
  unfold Draws2
  have HB := Lib.hid hb
  clear hb
  go_enter Try.func11, Try.ntmps11
  go_wp2_with fail
  refine Calls.kn (((Kn.nil w).al [.int .i64 0, .slice none 0 0] 26).al [.int .i64 0, .slice none 0 0] 26) ?_; intro w1 K1
  simp only [World.size_alloc] at K1
  refine (l00From_any A n c bs w1 (HB.out.below K1.below) hn).mono ?_; rintro e w2 ⟨rfl, hs, hb2⟩
  have D2 := DR.nil hs
  clear HB hs
  go_wp2_with fail
  refine (l09Bent_dr _ _ w2 D2.src (by omega)).mono ?_; rintro e w3 ⟨b, A, c, ds, rfl, hl, h3⟩
  have D3 : DR w1.heap.size _ w2 [rowI A c ds] w3 := D2.add h3
  clear D2 h3
  go_wp2_with fail
  refine Calls.dr (D3.al [.int .i64 b, .slice A ds.length c] 26) ?_; intro w4 D4
  obtain ⟨g, hg⟩ : ∃ g, w3.heap.size = g := ⟨_, rfl⟩
  rw [hg] at D4 ⊢
  clear hg D3
  refine (l09Bent_dr _ _ w4 D4.src (by omega)).mono ?_; rintro e w5 ⟨b2, B, k, es, rfl, hl2, h5⟩
  have D5 : DR w1.heap.size _ w2 [rowI B k es, .blk g [.int .i64 b, .slice A ds.length c] 26, rowI A c ds] w5 := D4.add h5
  clear D4 h5
  go_wp2_with fail
  refine Calls.dr (D5.al [.int .i64 b2, .slice B es.length k] 26) ?_; intro w6 D6
  obtain ⟨h, hh⟩ : ∃ g, w5.heap.size = g := ⟨_, rfl⟩
  rw [hh] at D6 ⊢
  clear hh D5
  have D6 : DR w1.heap.size _ w2 [.blk h [.int .i64 b2, .slice B es.length k] 26, .blk g [.int .i64 b, .slice A ds.length c] 26, rowI B k es, rowI A c ds] w6 := D6.sel [0, 2, 1, 3] 99 (by decide) (by decide)
  have hRB : RegB w6 g b A c ds := by
    obtain ⟨v, -, -, hK⟩ := D6
    exact ⟨box2 (hK.front 1 rfl), Kn.riv (hK.front 3 rfl)⟩
  refine (l09Ok_any g b A c ds w6 hRB (by omega)).mono ?_; rintro e w7 ⟨rfl, hw⟩
  have D7 := D6.keep hw
  clear D6 hw hRB
  rcases ho : aOk b ds with _ | _
  · clear ho
    go_upto_region 6 with fail
    have K5 : Kn w [.blk h [.int .i64 b2, .slice B es.length k] 26, .blk g [.int .i64 b, .slice A ds.length c] 26, rowI B k es, rowI A c ds, .blk (w.heap.size + 1) [.int .i64 0, .slice none 0 0] 26, .blk w.heap.size [.int .i64 0, .slice none 0 0] 26] w7 := K1.join (Kn.ofDR hb2 (Nat.le_refl _) D7)
    clear D7 K1 hb2
    have HG := Lib.hid (And.intro (box2 (K5.drew.front 1 rfl)) (box2 (K5.drew.front 0 rfl)))
    have KA := ((K5.front 5 rfl).st 0 (.int .i64 b)).st 1 (.slice A ds.length c)
    have KB := ((K5.front 4 rfl).st 0 (.int .i64 b2)).st 1 (.slice B (es).length k)
    have KAB := ((KA.front 5 rfl).st 0 (.int .i64 b2)).st 1 (.slice B (es).length k)
    have KBA := ((KB.front 5 rfl).st 0 (.int .i64 b)).st 1 (.slice A ds.length c)
    have HA := Lib.hid (And.intro (box2 (KA.drew.front 2 rfl)) (box2 (KA.drew.front 1 rfl)))
    have HB := Lib.hid (And.intro (box2 (KB.drew.front 2 rfl)) (box2 (KB.drew.front 1 rfl)))
    have HAB := Lib.hid (And.intro (box2 (KAB.drew.front 3 rfl)) (box2 (KAB.drew.front 2 rfl)))
    have HBA := Lib.hid (And.intro (box2 (KBA.drew.front 3 rfl)) (box2 (KBA.drew.front 2 rfl)))
    obtain ⟨a1, a2, a3, -⟩ := (K5.front 5 rfl).cells
    obtain ⟨d1, d2, d3, -⟩ := (K5.front 4 rfl).cells
    go_region_held3 (fun W => (W.cell? ⟨g, 0, none⟩ = some (.int .i64 b) ∧ W.cell? ⟨g, 1, none⟩ = some (.slice A ds.length c)) ∧ W.cell? ⟨h, 0, none⟩ = some (.int .i64 b2) ∧ W.cell? ⟨h, 1, none⟩ = some (.slice B (es).length k)) (first | with_reducible exact HG.out | with_reducible exact HA.out | with_reducible exact HB.out | with_reducible exact HAB.out | with_reducible exact HBA.out) (fail)
    have KAd := KAB.drew
    have KBd := KBA.drew
    clear HG HA HB HAB HBA KA KB a1 a2 a3 d1 d2 d3
    all_goals
      go_wp2_with fail
      first
        | (refine bodyPost.kn KAd ?_; intro w9 K9)
        | (refine bodyPost.kn (KBd.sel [1, 0, 2, 3, 4, 5] 99 (by decide) (by decide)) ?_; intro w9 K9)
        | (refine bodyPost.kn KAB ?_; intro w9 K9)
        | (refine bodyPost.kn (KBA.sel [1, 0, 2, 3, 4, 5] 99 (by decide) (by decide)) ?_; intro w9 K9)
      obtain ⟨d1, d2, d3, a1, a2, a3, -⟩ := K9.cells
      exact bodyPost_ret (v := .tuple #[.agg #[.int .i64 b, .slice A ds.length c], .agg #[.int .i64 b2, .slice B (es).length k]]) (by simp [results, Try.results11, go_sem, a1, d1]) rfl ⟨b, A, c, ds, b2, B, k, es, rfl, ⟨hl, hl2⟩, K9.sel [5, 4] 99 (by decide) (by decide)⟩
  · obtain ⟨h1, -⟩ := aOk_iff.1 ho
    obtain ⟨⟨b1, b16⟩, -⟩ := vreg_iff.1 h1
    clear ho h1
    go_wp2_with fail
    refine (one_dr _ _ 2 w7 D7.src (by omega)).mono ?_; rintro e w8 ⟨y, rfl, h8⟩
    have D8 : DR w1.heap.size _ w2 [.blk h [.int .i64 b2, .slice B es.length k] 26, .blk g [.int .i64 b, .slice A ds.length c] 26, rowI B k es, rowI A c ds] w8 := D7.add h8
    clear D7 h8
    rcases y with _ | _
    · go_upto_region 6 with fail
      have K5 : Kn w [.blk h [.int .i64 b2, .slice B es.length k] 26, .blk g [.int .i64 b, .slice A ds.length c] 26, rowI B k es, rowI A c ds, .blk (w.heap.size + 1) [.int .i64 0, .slice none 0 0] 26, .blk w.heap.size [.int .i64 0, .slice none 0 0] 26] w8 := K1.join (Kn.ofDR hb2 (Nat.le_refl _) D8)
      clear D8 K1 hb2
      have HG := Lib.hid (And.intro (box2 (K5.drew.front 1 rfl)) (box2 (K5.drew.front 0 rfl)))
      have KA := ((K5.front 5 rfl).st 0 (.int .i64 b)).st 1 (.slice A ds.length c)
      have KB := ((K5.front 4 rfl).st 0 (.int .i64 b2)).st 1 (.slice B (es).length k)
      have KAB := ((KA.front 5 rfl).st 0 (.int .i64 b2)).st 1 (.slice B (es).length k)
      have KBA := ((KB.front 5 rfl).st 0 (.int .i64 b)).st 1 (.slice A ds.length c)
      have HA := Lib.hid (And.intro (box2 (KA.drew.front 2 rfl)) (box2 (KA.drew.front 1 rfl)))
      have HB := Lib.hid (And.intro (box2 (KB.drew.front 2 rfl)) (box2 (KB.drew.front 1 rfl)))
      have HAB := Lib.hid (And.intro (box2 (KAB.drew.front 3 rfl)) (box2 (KAB.drew.front 2 rfl)))
      have HBA := Lib.hid (And.intro (box2 (KBA.drew.front 3 rfl)) (box2 (KBA.drew.front 2 rfl)))
      obtain ⟨a1, a2, a3, -⟩ := (K5.front 5 rfl).cells
      obtain ⟨d1, d2, d3, -⟩ := (K5.front 4 rfl).cells
      go_region_held3 (fun W => (W.cell? ⟨g, 0, none⟩ = some (.int .i64 b) ∧ W.cell? ⟨g, 1, none⟩ = some (.slice A ds.length c)) ∧ W.cell? ⟨h, 0, none⟩ = some (.int .i64 b2) ∧ W.cell? ⟨h, 1, none⟩ = some (.slice B (es).length k)) (first | with_reducible exact HG.out | with_reducible exact HA.out | with_reducible exact HB.out | with_reducible exact HAB.out | with_reducible exact HBA.out) (fail)
      have KAd := KAB.drew
      have KBd := KBA.drew
      clear HG HA HB HAB HBA KA KB a1 a2 a3 d1 d2 d3
      all_goals
        go_wp2_with fail
        first
          | (refine bodyPost.kn KAd ?_; intro w9 K9)
          | (refine bodyPost.kn (KBd.sel [1, 0, 2, 3, 4, 5] 99 (by decide) (by decide)) ?_; intro w9 K9)
          | (refine bodyPost.kn KAB ?_; intro w9 K9)
          | (refine bodyPost.kn (KBA.sel [1, 0, 2, 3, 4, 5] 99 (by decide) (by decide)) ?_; intro w9 K9)
        obtain ⟨d1, d2, d3, a1, a2, a3, -⟩ := K9.cells
        exact bodyPost_ret (v := .tuple #[.agg #[.int .i64 b, .slice A ds.length c], .agg #[.int .i64 b2, .slice B (es).length k]]) (by simp [results, Try.results11, go_sem, a1, d1]) rfl ⟨b, A, c, ds, b2, B, k, es, rfl, ⟨hl, hl2⟩, K9.sel [5, 4] 99 (by decide) (by decide)⟩
    · go_wp2_with fail
      have HG := Lib.hid ((D8.drew.front 1 rfl).box2.1)
      have HT := HG
      go_region_held3 (fun W => W.cell? ⟨g, 0, none⟩ = some (.int .i64 b)) (first | with_reducible exact HG.out | with_reducible exact HT.out | exact HG.out | exact HT.out) (first
        | (go_at_call 24; (with_reducible refine (pick_dr _ _ _ _ D8.drew.src (by omega)).mono ?_); rintro e w9 ⟨x, rfl, hx, h9⟩; have D9 := D8.drew.add h9; clear HG; have HG := Lib.hid ((D9.front 1 rfl).box2.1); obtain ⟨q, rfl⟩ : ∃ q : Nat, x = q := ⟨x.toNat, by omega⟩; have hq := pick5 hx; have hq1 := wrapQ hq)
        | (go_at_call 35; rw [show (q : Int) + 1 = ((q + 1 : Nat) : Int) from rfl]; refine (digits_dr _ _ b (q + 1) _ D9.src (by omega) (by omega) (by omega) (by omega)).mono ?_; rintro e w10 ⟨E, j, fs, rfl, hl3, hd, h10⟩; have D10 := D9.add h10; clear HG; have HG := Lib.hid ((D10.front 2 rfl).box2.1); obtain ⟨x1, x2, x3, -⟩ := (D10.front 1 rfl).cells; have D11 := ((D10.front 1 rfl).st 0 (.int .i64 b)).st 1 (.slice E (q + 1) j); clear HT; have HT := Lib.hid ((D11.front 2 rfl).box2.1)))
      all_goals
        clear HG HT x1 x2 x3 D10 D9 hd
        generalize (w10.setCell ⟨h, 0, none⟩ (.int .i64 b)).setCell ⟨h, 1, none⟩ (.slice E (q + 1) j) = w11 at D11 ⊢
        rw [← hl3] at D11 ⊢
        have hl4 : fs.length ≤ 20 := by omega
        clear hl3 D8
        go_upto_region 6 with fail
        have K5 : Kn w [.blk h [.int .i64 b, .slice E fs.length j] 26, .blk g [.int .i64 b, .slice A ds.length c] 26, rowI E j fs, rowI A c ds, .blk (w.heap.size + 1) [.int .i64 0, .slice none 0 0] 26, .blk w.heap.size [.int .i64 0, .slice none 0 0] 26] w11 := K1.join (Kn.ofDR hb2 (Nat.le_refl _) (D11.sel [0, 2, 1, 4] 99 (by decide) (by decide)))
        clear D11 K1 hb2
        have HG := Lib.hid (And.intro (box2 (K5.drew.front 1 rfl)) (box2 (K5.drew.front 0 rfl)))
        have KA := ((K5.front 5 rfl).st 0 (.int .i64 b)).st 1 (.slice A ds.length c)
        have KB := ((K5.front 4 rfl).st 0 (.int .i64 b)).st 1 (.slice E (fs).length j)
        have KAB := ((KA.front 5 rfl).st 0 (.int .i64 b)).st 1 (.slice E (fs).length j)
        have KBA := ((KB.front 5 rfl).st 0 (.int .i64 b)).st 1 (.slice A ds.length c)
        have HA := Lib.hid (And.intro (box2 (KA.drew.front 2 rfl)) (box2 (KA.drew.front 1 rfl)))
        have HB := Lib.hid (And.intro (box2 (KB.drew.front 2 rfl)) (box2 (KB.drew.front 1 rfl)))
        have HAB := Lib.hid (And.intro (box2 (KAB.drew.front 3 rfl)) (box2 (KAB.drew.front 2 rfl)))
        have HBA := Lib.hid (And.intro (box2 (KBA.drew.front 3 rfl)) (box2 (KBA.drew.front 2 rfl)))
        obtain ⟨a1, a2, a3, -⟩ := (K5.front 5 rfl).cells
        obtain ⟨d1, d2, d3, -⟩ := (K5.front 4 rfl).cells
        go_region_held3 (fun W => (W.cell? ⟨g, 0, none⟩ = some (.int .i64 b) ∧ W.cell? ⟨g, 1, none⟩ = some (.slice A ds.length c)) ∧ W.cell? ⟨h, 0, none⟩ = some (.int .i64 b) ∧ W.cell? ⟨h, 1, none⟩ = some (.slice E (fs).length j)) (first | with_reducible exact HG.out | with_reducible exact HA.out | with_reducible exact HB.out | with_reducible exact HAB.out | with_reducible exact HBA.out) (fail)
        have KAd := KAB.drew
        have KBd := KBA.drew
        clear HG HA HB HAB HBA KA KB a1 a2 a3 d1 d2 d3
        all_goals
          go_wp2_with fail
          first
            | (refine bodyPost.kn KAd ?_; intro w9 K9)
            | (refine bodyPost.kn (KBd.sel [1, 0, 2, 3, 4, 5] 99 (by decide) (by decide)) ?_; intro w9 K9)
            | (refine bodyPost.kn KAB ?_; intro w9 K9)
            | (refine bodyPost.kn (KBA.sel [1, 0, 2, 3, 4, 5] 99 (by decide) (by decide)) ?_; intro w9 K9)
          obtain ⟨d1, d2, d3, a1, a2, a3, -⟩ := K9.cells
          exact bodyPost_ret (v := .tuple #[.agg #[.int .i64 b, .slice A ds.length c], .agg #[.int .i64 b, .slice E (fs).length j]]) (by simp [results, Try.results11, go_sem, a1, d1]) rfl ⟨b, A, c, ds, b, E, j, fs, rfl, ⟨hl, hl4⟩, K9.sel [5, 4] 99 (by decide) (by decide)⟩

end Go.Proofs.Ytikcifpdnbhpiaa

namespace Go.Proofs.Ytikcifpdnbhpiaa
open Go.RowKit Go.Sort
set_option maxHeartbeats 400000 in
theorem l00Same_any (A B : Option Addr) (n c m d : Nat) (ds es : List Int) (w : World) (hr : RI w A n ds) (hs : RI w B m es) (hm : n ≤ 9223372036854775807) (hm2 : m ≤ 9223372036854775807) :
    Calls Try.prog 64 #[.slice A n c, .slice B m d] w fun e w' => e = .returned (.bool (decide (ds = es))) ∧ ∃ q, w' = w.drewN q := by
  have HL := Lib.hid hr.1
  have HM := Lib.hid hs.1
  by_cases hnm : n = m
  · subst hnm
    go_enter Try.func64, Try.ntmps64
    go_wp2
    go_loopw [5] (fun i wr => ∃ k : Nat, k ≤ n ∧ i = .int .i64 k ∧ ds.take k = es.take k ∧ ∃ q, wr = w.drewN q) (fun i _ => n - (intOf i).toNat)
    case atStart => exact ⟨0, Nat.zero_le _, rfl, by simp, 0, rfl⟩
    case round =>
      obtain ⟨k, hk, rfl, hdg, q, rfl⟩ := hrel
      have HD := Lib.hid hdg; clear hdg
      by_cases hkn : k < n
      · obtain ⟨ad, hA, hlt, hkl, hc⟩ := hr.at_ hkn
        obtain ⟨ad2, hB, hlt2, hkl2, hc2⟩ := hs.at_ hkn
        subst hA; subst hB
        have hi0 : (0 : Int) ≤ (k : Int) := by omega
        have hi1 : (k : Int) < (n : Int) := by omega
        rcases hd : (ds[k] != es[k]) with _ | _
        · go_wp2
          go_quiet (fail)
          go_wp2
          have he : ds[k] = es[k] := by simpa using hd
          have HE := Lib.hid he; clear he
          go_roundw
          case rel => exact ⟨k + 1, by omega, by go_num, take_eq_of_succ HD.out hkl hkl2 HE.out, by first | exact ⟨_, rfl⟩ | exact ⟨_, World.drewN_drewN _ _ _⟩⟩
          case measure => simp [intOf]; omega
        · go_wp2
          go_quiet (fail)
          go_wp2
          go_ret
          refine ⟨ret_bool ?_, by first | exact ⟨_, rfl⟩ | exact ⟨_, World.drewN_drewN _ _ _⟩⟩
          have : ds ≠ es := by rintro rfl; simp at hd
          simp [this]
      · have HF : Hid (ds = es) := by
          have := HD.out
          rwa [List.take_of_length_le (by have := HL.out; omega), List.take_of_length_le (by have := HM.out; omega)] at this
        go_wp2
        go_ret
        exact ⟨ret_bool (by simp [HF.out]), q, rfl⟩
  · have HF : Hid (ds ≠ es) := by rintro rfl; exact hnm (hr.1.symm.trans hs.1)
    go_enter Try.func64, Try.ntmps64
    go_wp2
    go_ret
    exact ⟨ret_bool (by simp [HF.out]), 0, rfl⟩
def sameR (r s : Reg) : Bool := r.base == s.base && decide (r.digits = s.digits)
theorem l02Same_any (p q : Addr) (r s : Reg) (w : World) (hp : RegM w p r) (hq : RegM w q s) (hm : SmallReg r) (hm2 : SmallReg s) :
    Calls Try.prog 44 #[.pointer (some p), .pointer (some q)] w fun e w' => e = .returned (.bool (sameR r s)) ∧ ∃ m, w' = w.drewN m := by
  obtain ⟨A, c, ⟨ha, hb⟩, hr⟩ := hp
  obtain ⟨B, d, ⟨ha0, hb0⟩, hs⟩ := hq
  unfold SmallReg at hm hm2
  have K1 := Lib.hid (fun (m : Nat) => l00Same_any A B _ c _ d r.digits s.digits (w.drewN m) hr hs (by omega) (by omega))
  rcases k : (r.base == s.base) with _ | _
  · have HF : Hid (sameR r s = false) := by simp only [Hid, sameR]; rw [k]; rfl
    go_enter Try.func44, Try.ntmps44
    go_wp2_with fail
    go_quiet ((go_at_call 64; exact quiet_of_ex (K1.out _)))
    go_wp2
    go_ret
    exact ⟨ret_bool HF.out.symm, _, rfl⟩
  · have HF : Hid (sameR r s = decide (r.digits = s.digits)) := by simp only [Hid, sameR]; rw [k]; rfl
    go_enter Try.func44, Try.ntmps44
    go_wp2_with fail
    go_quiet ((go_at_call 64; exact quiet_of_ex (K1.out _)))
    go_wp2
    go_ret
    exact ⟨ret_bool HF.out.symm, _, rfl⟩
/-- the carry out of a digit with a kind of fault -/
def cstep (base t c kind : Int) : Int := if kind = 1 then 0 else if kind = 2 then 1 else if kind = 3 then (if t < base then 0 else 1) else if t + c < base then 0 else 1
end Go.Proofs.Ytikcifpdnbhpiaa

namespace Go.Proofs.Ytikcifpdnbhpiaa
open Go.RowKit Go.Sort
theorem f6big_any (A : Option Addr) (n c : Nat) (w : World) : Calls Try.prog 4 #[.slice A n c] w fun e w' => e = .returned (.bool (decide ((n : Int) > 4096))) ∧ w' = w := by
  go_enter Try.func4, Try.ntmps4
  go_wp2
  go_ret
  exact ⟨rfl, rfl⟩
theorem specSameRegister_same (b : Int) (A B : Option Addr) (c d : Nat) (ds : List Int) (w : World) (hr : RI w A ds.length ds) (hs : RI w B ds.length ds) (hm : ds.length ≤ 9223372036854775807) :
    Calls Try.prog 20 #[.agg #[.int .i64 b, .slice A ds.length c], .agg #[.int .i64 b, .slice B ds.length d]] w fun e w' => e = .returned (.bool true) ∧ Below w.heap.size w w' := by
  have HR := Lib.hid (fun W (hW : Below w.heap.size w W) => hr.below hW)
  have HS := Lib.hid (fun W (hW : Below w.heap.size w W) => hs.below hW)
  clear hr hs
  go_enter Try.func20, Try.ntmps20
  go_wp2_with fail
  refine Calls.kn (((Kn.nil w).al [.int .i64 b, .slice A ds.length c] 26).al [.int .i64 b, .slice B ds.length d] 26) ?_; intro w1 K1
  simp only [World.size_alloc] at K1
  refine (l02Same_any ⟨w.heap.size, 0, none⟩ ⟨w.heap.size + 1, 0, none⟩ ⟨b, ds⟩ ⟨b, ds⟩ w1 ⟨A, c, box2 (K1.front 1 rfl), HR.out _ K1.below⟩ ⟨B, d, box2 (K1.front 0 rfl), HS.out _ K1.below⟩ hm hm).mono ?_
  rintro e w2 ⟨rfl, q, rfl⟩
  have K2 := K1.drewN q
  go_wp2_with fail
  go_ret
  exact ⟨ret_bool (by simp [sameR]), K2.below⟩
set_option maxHeartbeats 400000 in
theorem f6ints_any (A B : Option Addr) (n c m d : Nat) (ds es : List Int) (w : World) (hr : RI w A n ds) (hs : RI w B m es) (hm : n ≤ 9223372036854775807) (hm2 : m ≤ 9223372036854775807) :
    Calls Try.prog 21 #[.slice A n c, .slice B m d] w fun e w' => e = .returned (.bool (decide (ds = es))) ∧ ∃ q, w' = w.drewN q := by
  have HL := Lib.hid hr.1
  have HM := Lib.hid hs.1
  by_cases hnm : n = m
  · subst hnm
    go_enter Try.func21, Try.ntmps21
    go_wp2
    go_loopw [5] (fun i wr => ∃ k : Nat, k ≤ n ∧ i = .int .i64 k ∧ ds.take k = es.take k ∧ ∃ q, wr = w.drewN q) (fun i _ => n - (intOf i).toNat)
    case atStart => exact ⟨0, Nat.zero_le _, rfl, by simp, 0, rfl⟩
    case round =>
      obtain ⟨k, hk, rfl, hdg, q, rfl⟩ := hrel
      have HD := Lib.hid hdg; clear hdg
      by_cases hkn : k < n
      · obtain ⟨ad, hA, hlt, hkl, hc⟩ := hr.at_ hkn
        obtain ⟨ad2, hB, hlt2, hkl2, hc2⟩ := hs.at_ hkn
        subst hA; subst hB
        have hi0 : (0 : Int) ≤ (k : Int) := by omega
        have hi1 : (k : Int) < (n : Int) := by omega
        rcases hd : (ds[k] != es[k]) with _ | _
        · go_wp2
          go_quiet (fail)
          go_wp2
          have he : ds[k] = es[k] := by simpa using hd
          have HE := Lib.hid he; clear he
          go_roundw
          case rel => exact ⟨k + 1, by omega, by go_num, take_eq_of_succ HD.out hkl hkl2 HE.out, by first | exact ⟨_, rfl⟩ | exact ⟨_, World.drewN_drewN _ _ _⟩⟩
          case measure => simp [intOf]; omega
        · go_wp2
          go_quiet (fail)
          go_wp2
          go_ret
          refine ⟨ret_bool ?_, by first | exact ⟨_, rfl⟩ | exact ⟨_, World.drewN_drewN _ _ _⟩⟩
          have : ds ≠ es := by rintro rfl; simp at hd
          simp [this]
      · have HF : Hid (ds = es) := by
          have := HD.out
          rwa [List.take_of_length_le (by have := HL.out; omega), List.take_of_length_le (by have := HM.out; omega)] at this
        go_wp2
        go_ret
        exact ⟨ret_bool (by simp [HF.out]), q, rfl⟩
  · have HF : Hid (ds ≠ es) := by rintro rfl; exact hnm (hr.1.symm.trans hs.1)
    go_enter Try.func21, Try.ntmps21
    go_wp2
    go_ret
    exact ⟨ret_bool (by simp [HF.out]), 0, rfl⟩
end Go.Proofs.Ytikcifpdnbhpiaa

namespace Go.Proofs.Ytikcifpdnbhpiaa
open Go.RowKit Go.Sort
/-- the values of AccumulateAll, whatever its code -/
def aaV (b : Int) (ds xs : List Int) : Int × List Int × List Int := if aaC b ds xs = 0 then (b, accD b ds xs xs.length, accB b ds xs xs.length) else (0, [], [])
def anV (b : Int) (ds : List Int) (x : Int) : Int × List Int × Bool := if anC b ds x = 0 then (b, aSet b ds.length (aNum b ds + x), !isNm (pw b ds.length) (aNum b ds + x)) else (0, [], false)
def tfV (b : Int) (ds : List Int) (b' : Int) (es : List Int) : (Int × List Int) × (Int × List Int) × Bool := if tfC b ds b' es = 0 then ((b, digD b ds.length 0), (b', aSet b' es.length (aNum b' es + aNum b ds)), !isNm (pw b' es.length) (aNum b' es + aNum b ds)) else ((0, []), (0, []), false)
theorem AARet.v {b : Int} {ds xs : List Int} {w : World} {e : Ending} {w' : World} (h : AARet b ds xs w e w') :
    ∃ E k B m, e = .returned (.tuple #[.agg #[.int .i64 (aaV b ds xs).1, .slice E (aaV b ds xs).2.1.length k], .slice B (aaV b ds xs).2.2.length m, .int .i64 (aaC b ds xs)]) ∧ Kn w [rowI B m (aaV b ds xs).2.2, rowI E k (aaV b ds xs).2.1] w' := by
  rcases h with ⟨h0, he, hb⟩ | ⟨h0, E, k, B, m, he, hK⟩
  · have hv : aaV b ds xs = (0, [], []) := by unfold aaV; rw [if_neg h0]
    rw [hv]
    exact ⟨none, 0, none, 0, he, ((((Kn.nil w).keep hb).nilRow 2 1).nilRow 2 1)⟩
  · have hv : aaV b ds xs = (b, accD b ds xs xs.length, accB b ds xs xs.length) := by unfold aaV; rw [if_pos h0]
    rw [hv, h0]
    exact ⟨E, k, B, m, he, hK⟩
theorem ANRet.v {b : Int} {ds : List Int} {x : Int} {w : World} {e : Ending} {w' : World} (h : ANRet b ds x w e w') :
    ∃ E k, e = .returned (.tuple #[.agg #[.int .i64 (anV b ds x).1, .slice E (anV b ds x).2.1.length k], .bool (anV b ds x).2.2, .int .i64 (anC b ds x)]) ∧ Kn w [rowI E k (anV b ds x).2.1] w' := by
  rcases h with ⟨h0, he, hb⟩ | ⟨h0, E, k, he, hK⟩
  · have hv : anV b ds x = (0, [], false) := by unfold anV; rw [if_neg h0]
    rw [hv]
    exact ⟨none, 0, he, (((Kn.nil w).keep hb).nilRow 2 1)⟩
  · have hv : anV b ds x = (b, aSet b ds.length (aNum b ds + x), !isNm (pw b ds.length) (aNum b ds + x)) := by unfold anV; rw [if_pos h0]
    rw [hv, h0]
    exact ⟨E, k, he, hK⟩
theorem TFRet.v {b : Int} {ds : List Int} {b' : Int} {es : List Int} {w : World} {e : Ending} {w' : World} (h : TFRet b ds b' es w e w') :
    ∃ E1 k1 E2 k2, e = .returned (.tuple #[.agg #[.int .i64 (tfV b ds b' es).1.1, .slice E1 (tfV b ds b' es).1.2.length k1], .agg #[.int .i64 (tfV b ds b' es).2.1.1, .slice E2 (tfV b ds b' es).2.1.2.length k2], .bool (tfV b ds b' es).2.2, .int .i64 (tfC b ds b' es)]) ∧
      Kn w [rowI E2 k2 (tfV b ds b' es).2.1.2, rowI E1 k1 (tfV b ds b' es).1.2] w' := by
  rcases h with ⟨h0, he, hb⟩ | ⟨h0, E1, k1, E2, k2, he, hK⟩
  · have hv : tfV b ds b' es = ((0, []), (0, []), false) := by unfold tfV; rw [if_neg h0]
    rw [hv]
    exact ⟨none, 0, none, 0, he, ((((Kn.nil w).keep hb).nilRow 2 1).nilRow 2 1)⟩
  · have hv : tfV b ds b' es = ((b, digD b ds.length 0), (b', aSet b' es.length (aNum b' es + aNum b ds)), !isNm (pw b' es.length) (aNum b' es + aNum b ds)) := by unfold tfV; rw [if_pos h0]
    rw [hv, h0]
    exact ⟨E1, k1, E2, k2, he, hK⟩
/-- where the transfer rings no bell, the second number is the sum -/
theorem tf_sum {b : Int} {ds : List Int} {b' : Int} {es : List Int} (h0 : tfC b ds b' es = 0) (hr : (tfV b ds b' es).2.2 = false) (hok : aOk b' es = true) (hn : ∀ y, isNm (pw b' es.length) y = true → aNum b' (aSet b' es.length y) = y) :
    aNum (tfV b ds b' es).2.1.1 (tfV b ds b' es).2.1.2 = aNum b' es + aNum b ds := by
  unfold tfV at hr ⊢
  rw [if_pos h0] at hr ⊢
  exact hn _ (by simpa using hr)
end Go.Proofs.Ytikcifpdnbhpiaa

namespace Go.Proofs.Ytikcifpdnbhpiaa
open Go.RowKit Go.Sort
theorem aNorm_val {n y : Int} (hn : 1 ≤ n) (h1 : -n < y) (h2 : y < n) : aNorm n y = if 0 ≤ y then y else y + n := by
  unfold aNorm
  by_cases h : 0 ≤ y
  · rw [if_pos h, Int.tmod_eq_of_lt h h2, Int.tmod_eq_emod_of_nonneg (by omega), Int.add_emod_right, Int.emod_eq_of_lt h h2]
  · rw [if_neg h]
    have hy : y.tmod n = y := by
      have h3 : (-y).tmod n = -y := Int.tmod_eq_of_lt (by omega) (by omega)
      rw [Int.neg_tmod] at h3
      omega
    rw [hy, Int.tmod_eq_of_lt (by omega) (by omega)]
/-- what is set is shown -/
theorem aNum_aSet {b : Int} {k : Nat} {y : Int} (b1 : 2 ≤ b) (hn : pw b k ≤ 1000000000001) (h : isNm (pw b k) y = true) : aNum b (aSet b k y) = y := by
  have hp := pw_pos b b1 k
  have hh := half_bd (n := pw b k) (by omega)
  have hy := betB_iff.1 h
  have ha := aNorm_val (n := pw b k) (y := y) hp (by omega) (by omega)
  have hb := aNorm_bd (n := pw b k) (x := y) hp
  have hv : valL b (aSet b k y) = aNorm (pw b k) y := valL_digD b b1 k _ hb.1 hb.2 (by omega)
  unfold aNum
  rw [aSet_len, hv, ha]
  by_cases h0 : 0 ≤ y
  · simp only [if_pos h0]
    rw [if_pos (by omega)]
  · simp only [if_neg h0]
    rw [if_neg (by omega)]
    omega
theorem aNum_aSet_ok {b : Int} {ds : List Int} {y : Int} (ho : aOk b ds = true) (h : isNm (pw b ds.length) y = true) : aNum b (aSet b ds.length y) = y := by
  obtain ⟨h1, h2⟩ := aOk_iff.1 ho
  obtain ⟨⟨b1, -⟩, -⟩ := vreg_iff.1 h1
  exact aNum_aSet b1 h2 h
def sumL : List Int → Int
  | [] => 0
  | x :: l => x + sumL l
theorem sumL_snoc (l : List Int) (x : Int) : sumL (l ++ [x]) = sumL l + x := by
  induction l with
  | nil => simp [sumL]
  | cons y l ih => simp only [List.cons_append, sumL, ih]; omega
theorem accB_nil {b : Int} {ds xs : List Int} {k : Nat} (h : accB b ds xs (k + 1) = []) : accB b ds xs k = [] ∧ isNm (pw b ds.length) (aNum b (accD b ds xs k) + xs.getD k 0) = true := by
  unfold accB at h
  split at h
  · exact ⟨h, by assumption⟩
  · simp at h
/-- where no bell rings, the number is the sum -/
theorem acc_sum {b : Int} {ds xs : List Int} (ho : aOk b ds = true) : ∀ (k : Nat), k ≤ xs.length → accB b ds xs k = [] → aNum b (accD b ds xs k) = aNum b ds + sumL (xs.take k)
  | 0, _, _ => by simp [accD, sumL]
  | k + 1, hk, h => by
    obtain ⟨h1, h2⟩ := accB_nil h
    have ih := acc_sum ho k (by omega) h1
    have hs : accD b ds xs (k + 1) = aSet b ds.length (aNum b (accD b ds xs k) + xs.getD k 0) := rfl
    rw [hs, aNum_aSet_ok ho h2, ih, List.take_succ_eq_append_getElem (by omega), sumL_snoc, getD_of (by omega)]
    omega
theorem accB_nil_le {b : Int} {ds xs : List Int} : ∀ (k j : Nat), accB b ds xs (k + j) = [] → accB b ds xs k = []
  | _, 0, h => h
  | k, j + 1, h => accB_nil_le k j (accB_nil h).1
theorem clear_zero {b d : Int} (b1 : 2 ≤ b) (h0 : 0 ≤ d) (h1 : d < b) : (d + (b - d).tmod b).tmod b = 0 := by
  by_cases hd : d = 0
  · subst hd
    rw [Int.sub_zero, Int.tmod_self]; simp
  · rw [Int.tmod_eq_of_lt (a := b - d) (by omega) (by omega)]
    rw [show d + (b - d) = b by omega, Int.tmod_self]
end Go.Proofs.Ytikcifpdnbhpiaa

namespace Go.Proofs.Ytikcifpdnbhpiaa
open Go.RowKit Go.ChangeShapes Go.WideShapes Go.ChangeAt
section
variable {H : Type} {enc : TypeId × Value → H} {w : World} {base : Nat} {spare : Nat → Bool} {held : Bool} {fuel : Nat} {cs : List Value} {x : DataW H × List MemPlace}
theorem cellsU8 : Try.prog.cellsOf 5 = 1 := by kernel_rfl
theorem byteV_of (z : Int) (h0 : 0 ≤ z) (h1 : z ≤ 255) : Value.int .u8 z = byteV (UInt8.ofNat z.toNat) := by
  unfold byteV
  congr 1
  rw [UInt8.toNat_ofNat']
  omega
theorem rd_bytes (h : DataW.trod enc Try.prog w base spare held fuel 22 cs = some x) : ∃ A n c bs, cs = [.slice A n c] ∧ RB w A n bs ∧ n ≤ 9223372036854775807 := by
  rcases open_ints Try.underlying22 Try.underlying5 cellsU8 h with ⟨rfl, _⟩ | ⟨a, len, cap, zs, rfl, _, hl, hm, hz, _, hcell, hwf⟩
  · exact ⟨none, 0, 0, [], rfl, ⟨rfl, fun h => absurd h (by omega)⟩, by omega⟩
  · have hlen : len ≤ zs.length := by rw [hz]; split <;> omega
    have hw : ∀ z ∈ zs, 0 ≤ z ∧ z ≤ 255 := fun z hz => by
      have h := hwf z hz
      have h1 : IntKind.u8.min = 0 := by decide
      have h2 : IntKind.u8.max = 255 := by decide
      simp [Lit.wf] at h
      omega
    refine ⟨some a, len, cap, (zs.take len).map (fun z => UInt8.ofNat z.toNat), rfl, ⟨by simp; omega, fun h0 => ⟨a, rfl, ?_, fun j u hu => ?_⟩⟩, by simp only [maxLen] at hm; omega⟩
    · have := World.block_lt_of_cell? w _ (hcell 0 (by omega)); rwa [block_of_add] at this
    · rw [List.getElem?_map, List.getElem?_take] at hu
      split at hu
      · have hj : j < zs.length := by omega
        rw [List.getElem?_eq_getElem hj] at hu
        have hu' : UInt8.ofNat zs[j].toNat = u := by simpa using hu
        obtain ⟨z0, z1⟩ := hw zs[j] (List.getElem_mem _)
        rw [hcell j hj, ← hu', ← byteV_of _ z0 z1]
        simp [List.getD, List.getElem?_eq_getElem hj]
      · simp at hu
end
end Go.Proofs.Ytikcifpdnbhpiaa
