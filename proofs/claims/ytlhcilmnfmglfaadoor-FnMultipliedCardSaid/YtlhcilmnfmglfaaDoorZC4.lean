/- Part 4: lemmas and contracts of the claim's functions. -/
import Derived.Test.YtlhcilmnfmglfaaDoorZC1
import Derived.Test.YtlhcilmnfmglfaaDoorZC2
import Derived.Test.YtlhcilmnfmglfaaDoorZC3
import Derived.Deep.DeepCutAuto
namespace Go.Proofs.YtlhcilmnfmglfaaDoor
open Go.RowKit Go.Sort
theorem Marks.chg {P : Nat → Prop} {w w' : World} (h : Marks P w w') : Chg P w w' := by
  induction h with
  | refl => exact ⟨rfl, rfl, rfl, Nat.le_refl _, fun _ _ _ => rfl⟩
  | step h hb j u ih =>
    refine ⟨ih.os, ih.tape, ih.output, Nat.le_trans ih.size (by simp [World.setCell]), fun k hk hn => ?_⟩
    rw [Below.heap_setCell _ _ _ _ (fun e => hn (by rw [e]; exact hb))]
    exact ih.block k hk hn
def rowN (A : Option Addr) (n c : Nat) (ds : List Int) : Ent := .row (.slice A n c) 2 1 n (ds.map (Value.int .i64))
theorem Kn.marks {w0 w w' : World} {m : List Ent} {A : Option Addr} {n c : Nat} {ds ds' : List Int} (h : Kn w0 (rowN A n c ds :: m) w) (hm : Marks (fun b => (Value.slice A n c).ownBlock = some b) w w') (ho : OwnI w' 0 (.slice A n c) ds') (hl : ds'.length = n) : Kn w0 (rowN A n c ds' :: m) w' := by
  subst hl
  exact h.upd (e' := rowN A ds'.length c ds') hm.chg ho (fun k hk => .inl hk)
theorem Kn.ownN {w0 w : World} {m : List Ent} {A : Option Addr} {n c : Nat} {ds : List Int} (h : Kn w0 (rowN A n c ds :: m) w) : OwnI w 0 (.slice A n c) ds ∧ ds.length = n := by
  have h1 : w.ownsRow 0 2 1 (.slice A n c) n (ds.map (Value.int .i64)) := h.at0
  have h2 := h1.1
  rw [List.length_map, Nat.mul_one] at h2
  subst h2
  exact ⟨h1, rfl⟩
theorem Kn.riN {w0 w : World} {m : List Ent} {A : Option Addr} {n c : Nat} {ds : List Int} (h : Kn w0 (rowN A n c ds :: m) w) : RI w A n ds := h.ownN.1.ri
theorem Kn.tail3 {w0 w : World} {m : List Ent} {a b c d : Ent} (h : Kn w0 (a :: b :: c :: d :: m) w) : Kn w0 (b :: c :: d :: a :: m) w := h.perm (List.perm_middle (a := a) (l₁ := [b, c, d]) (l₂ := m)).symm
theorem Kn.rot3 {w0 w : World} {m : List Ent} {b c d : Ent} (h : Kn w0 (b :: c :: d :: m) w) : Kn w0 (c :: d :: b :: m) w := h.perm (List.perm_middle (a := b) (l₁ := [c, d]) (l₂ := m)).symm
theorem Kn.addN {w0 w w' : World} {m : List Ent} {A : Option Addr} {n c : Nat} {ds : List Int} (h : Kn w0 m w) (hb : Below w.heap.size w w') (ho : OwnI w' w.heap.size (.slice A n c) ds) (hl : ds.length = n) : Kn w0 (rowN A n c ds :: m) w' := by
  subst hl
  exact h.addI hb ho
theorem lf_small {left n : Int} (h : ¬ lft left n < 0) (hl : left ≤ 1048576) : n ≤ 1048576 := by unfold lft at h; split at h <;> omega
theorem lf3_small {n1 n2 n3 : Int} (p1 : 0 ≤ n1) (p2 : 0 ≤ n2) (_p3 : 0 ≤ n3) (h : ¬ lft3 1048576 n1 n2 n3 < 0) : n1 ≤ 1048576 ∧ n2 ≤ 1048576 ∧ n3 ≤ 1048576 := by
  unfold lft3 at h
  split at h
  · omega
  · rename_i k1
    split at h
    · omega
    · rename_i k2
      have h1 := lf_small k1 (Int.le_refl _)
      have b1 := lft_bd 1048576 n1 (by omega) p1
      have h2 := lf_small k2 b1.2
      have b2 := lft_bd _ n2 b1.1 p2
      have h3 := lf_small h (by omega)
      exact ⟨h1, h2, h3⟩
theorem lf3_lo (n1 n2 n3 : Int) (p1 : 0 ≤ n1) (p2 : 0 ≤ n2) (p3 : 0 ≤ n3) : lft3 1048576 n1 n2 n3 ≤ 1048576 ∧ -1 ≤ lft3 1048576 n1 n2 n3 := by
  unfold lft3
  have b1 := lft_bd 1048576 n1 (by omega) p1
  have b2 := lft_bd _ n2 b1.1 p2
  have b3 := lft_bd _ n3 b2.1 p3
  split
  · omega
  · split <;> omega
end Go.Proofs.YtlhcilmnfmglfaaDoor

namespace Go.Proofs.YtlhcilmnfmglfaaDoor
open Go.RowKit Go.Sort
def dvStart (t : Tri) (x y : Int) : Tri := ⟨⟨t.a.base, digD t.a.base t.a.digits.length y⟩, ⟨t.b.base, digD t.b.base t.b.digits.length x⟩, ⟨t.s.base, digD t.s.base t.s.digits.length 0⟩, 0⟩
def dvC (t : Tri) (x y : Int) : Int :=
  if vmach t = false then 1 else if betB x 0 (pw t.b.base t.b.digits.length - 1) = false then 2 else if betB y 1 (pw t.a.base t.a.digits.length - 1) = false then 2 else if pw t.a.base (vplaces t).toNat ≤ x.tdiv y then 5 else 0
noncomputable def dvEnd (t : Tri) (x y : Int) : RS := endR (divProg (vplaces t).toNat) (dvStart t x y)
noncomputable def dvQ (t : Tri) (x y : Int) : Int := if dvC t x y = 0 then (pw t.s.base t.s.digits.length - valL (dvEnd t x y).m.s.base (dvEnd t x y).m.s.digits).tmod (pw t.s.base t.s.digits.length) else 0
noncomputable def dvR (t : Tri) (x y : Int) : Int := if dvC t x y = 0 then valL (dvEnd t x y).m.b.base (dvEnd t x y).m.b.digits else 0
noncomputable def dvN (t : Tri) (x y : Int) : Int := if dvC t x y = 0 then ((dvEnd t x y).tr.length : Int) else 0
def DVRet (t : Tri) (x y : Int) (w : World) (e : Ending) (w' : World) : Prop := e = .returned (.tuple #[.int .i64 (dvQ t x y), .int .i64 (dvR t x y), .int .i64 (dvN t x y), .int .i64 (dvC t x y)]) ∧ Below w.heap.size w w'
theorem dv_code {t : Tri} {x y c : Int} (h : dvC t x y = c) (hc : ¬ c = 0) : dvQ t x y = 0 ∧ dvR t x y = 0 ∧ dvN t x y = 0 ∧ dvC t x y = c := by
  refine ⟨?_, ?_, ?_, h⟩
  · unfold dvQ; rw [h, if_neg hc]
  · unfold dvR; rw [h, if_neg hc]
  · unfold dvN; rw [h, if_neg hc]
theorem dv_fine {t : Tri} {x y : Int} (h : dvC t x y = 0) {s : RS} {b : Bool} (he : Ev (divProg (vplaces t).toNat) (.run 0 (divProg (vplaces t).toNat).length) (startR (dvStart t x y)) s b) :
    dvQ t x y = (pw t.s.base t.s.digits.length - valL s.m.s.base s.m.s.digits).tmod (pw t.s.base t.s.digits.length) ∧ dvR t x y = valL s.m.b.base s.m.b.digits ∧ dvN t x y = (s.tr.length : Int) ∧ dvC t x y = 0 := by
  have h1 : dvEnd t x y = s := endR_eq he
  refine ⟨?_, ?_, ?_, h⟩
  · unfold dvQ; rw [h, h1, if_pos rfl]
  · unfold dvR; rw [h, h1, if_pos rfl]
  · unfold dvN; rw [h, h1, if_pos rfl]
theorem dvStart_ok {t : Tri} {x y : Int} (hv : vmach t = true) (hx : betB x 0 (pw t.b.base t.b.digits.length - 1) = true) (hy : betB y 1 (pw t.a.base t.a.digits.length - 1) = true) : vmach (dvStart t x y) = true := by
  obtain ⟨k1, k2, k3, e1, e2, f1, f2, l1, p0, p1⟩ := vmach_all hv
  obtain ⟨⟨b1, b2⟩, ⟨n1, n2⟩, -⟩ := vreg_iff.1 k1
  obtain ⟨⟨b3, b4⟩, ⟨n3, n4⟩, -⟩ := vreg_iff.1 k2
  obtain ⟨⟨b5, b6⟩, ⟨n5, n6⟩, -⟩ := vreg_iff.1 k3
  have hx' := betB_iff.1 hx
  have hy' := betB_iff.1 hy
  have hm := pw_mono t.a.base (by omega) _ _ l1
  rw [← e1] at f1
  rw [← e1] at hx'
  refine vmach_mk (t := dvStart t x y) (digD_vreg _ b1 b2 _ (by omega) (by omega) y (by omega) (by omega) (by omega)) (digD_vreg _ b3 b4 _ (by omega) (by omega) x (by omega) (by rw [← e1]; omega) (by omega)) (zero_ok k3) e1 e2 ?_ ?_ ?_ (by simp [dvStart]) ?_
  · simp only [dvStart, digD_len]; rw [← e1]; exact f1
  · simp only [dvStart, digD_len]; exact f2
  · simp only [dvStart, digD_len]; exact l1
  · simp only [dvStart, vplaces, digD_len]; unfold vplaces at p1; omega
theorem vplaces_bd {t : Tri} (hv : vmach t = true) : 1 ≤ (vplaces t).toNat ∧ (vplaces t).toNat ≤ 16 ∧ ((vplaces t).toNat : Int) = vplaces t ∧ pw t.a.base (vplaces t).toNat ≤ 1000000000001 ∧ 1 ≤ pw t.a.base (vplaces t).toNat := by
  obtain ⟨k1, k2, k3, e1, e2, f1, f2, l1, p0, p1⟩ := vmach_all hv
  obtain ⟨⟨b1, b2⟩, ⟨n1, n2⟩, -⟩ := vreg_iff.1 k1
  obtain ⟨-, ⟨n5, n6⟩, -⟩ := vreg_iff.1 k3
  have h1 : vplaces t ≤ t.s.digits.length := by unfold vplaces; omega
  have hm := pw_mono t.a.base b1 (vplaces t).toNat t.s.digits.length (by omega)
  rw [e2] at f2
  rw [← e1] at f2
  exact ⟨by omega, by omega, by omega, by omega, pw_pos _ b1 _⟩
end Go.Proofs.YtlhcilmnfmglfaaDoor

namespace Go.Proofs.YtlhcilmnfmglfaaDoor
open Go.RowKit Go.Sort
/-! the division, plainly: what the program that divides leaves -/
/-- a machine with values -/
def mchV (b : Int) (n1 n2 n3 : Nat) (y R N c : Int) : Tri := ⟨⟨b, digD b n1 y⟩, ⟨b, digD b n2 R⟩, ⟨b, digD b n3 N⟩, c⟩
structure DvOk (b : Int) (n1 n2 n3 : Nat) (y : Int) : Prop where
  b2 : 2 ≤ b
  y0 : 0 ≤ y
  y1 : y < pw b n1
  p1 : pw b n1 ≤ 1000000000001
  p2 : pw b n2 ≤ 1000000000001
  p3 : pw b n3 ≤ 1000000000001
theorem valL_dig {b : Int} {n : Nat} {v : Int} (hb : 2 ≤ b) (hp : pw b n ≤ 1000000000001) (h0 : 0 ≤ v) (h1 : v < pw b n) : valL b (digD b n v) = v := valL_digD b hb n v h0 h1 (by omega)
theorem turn_mch {b : Int} {n1 n2 n3 : Nat} {y : Int} (h : DvOk b n1 n2 n3 y) {R N c : Int} (hR : 0 ≤ R ∧ R < pw b n2) (hN : 0 ≤ N ∧ N < pw b n3) (sign u : Int) (hu : pw b c.toNat = u) :
    turnT (mchV b n1 n2 n3 y R N c) sign = (mchV b n1 n2 n3 y ((R + sign * (y * u)) % pw b n2) ((N + sign * u) % pw b n3) c, decide (R + sign * (y * u) < 0) || decide (pw b n2 ≤ R + sign * (y * u))) := by
  have q1 := pw_pos b h.b2 n2
  have q2 := pw_pos b h.b2 n3
  simp only [turnT, mchV, shiftD, shiftB, digD_len, hu, valL_dig h.b2 h.p1 h.y0 h.y1, valL_dig h.b2 h.p2 hR.1 hR.2, valL_dig h.b2 h.p3 hN.1 hN.2]
  rw [tmod_wrap _ _ (by omega), tmod_wrap _ _ (by omega)]
/-- one stroke as a program's part -/
theorem run_one {L : List Ins} {i tt : Nat} (hi : i < tt) (hl : i < L.length) {op : Int} (hL : L[i] = ⟨op, 1⟩) (ho : opens op = false) (h1 : ¬ op = 1) {s s' : RS} {b' : Bool} (hc : s.code = 0) (hd : s.done < 3000) {r : Tri × Bool} (hr : strokeT (op - 1) s.m = r)
    (he : Ev L (.run (i + 1) tt) ⟨r.1, s.tr ++ [op - 1], s.done + 1, 0⟩ s' b') : Ev L (.run i tt) s s' (r.2 || b') := by
  have e1 : (L[i]).op = op := by rw [hL]
  have e2 : (L[i]).arg = 1 := by rw [hL]
  have hs : Ev L (.str ((L[i]).op - 1) (max 1 (L[i]).arg).toNat) s ⟨r.1, s.tr ++ [op - 1], s.done + 1, 0⟩ (r.2 || false) := by
    rw [e1, e2]
    have := @Ev.sStep L (op - 1) 0 s ⟨r.1, s.tr ++ [op - 1], s.done + 1, 0⟩ false (by omega) (by rw [hr]; exact Ev.s0)
    rw [hr] at this
    exact this
  have := Ev.rStr hi hl hc (by rw [e1]; exact ho) (by rw [e1]; exact h1) hs he
  simpa using this
theorem dv_loop {L : List Ins} {b : Int} {n1 n2 n3 : Nat} {y : Int} (h : DvOk b n1 n2 n3 y) {c u : Int} (hu : pw b c.toNat = u) {i : Nat} (hl1 : i + 1 < L.length) (hL1 : L[i + 1] = ⟨3, 1⟩) (hD : 0 ≤ y * u) :
    ∀ (q : Nat) (R N : Int) (tr : List Int) (dn k : Nat), 0 ≤ R → R < pw b n2 → 0 ≤ N → N < pw b n3 → (q : Int) * (y * u) ≤ R → R < ((q : Int) + 1) * (y * u) → dn + 2 * (q + 1) ≤ 3000 →
      ∃ tr', Ev L (.loop 9 0 (i + 1) (i + 2) k) ⟨mchV b n1 n2 n3 y R N c, tr, dn, 0⟩ ⟨mchV b n1 n2 n3 y ((R - ((q : Int) + 1) * (y * u)) % pw b n2) ((N - ((q : Int) + 1) * u) % pw b n3) c, tr', dn + 2 * (q + 1), 0⟩ false
  | 0, R, N, tr, dn, k, h0, h1, h2, h3, h4, h5, h6 => by
    have ht := turn_mch h (R := R) (N := N) ⟨h0, h1⟩ ⟨h2, h3⟩ (-1) u hu
    refine ⟨tr ++ [2], ?_⟩
    have hb : R + -1 * (y * u) < 0 := by simp at h5; omega
    have hst : strokeT 2 (mchV b n1 n2 n3 y R N c) = (mchV b n1 n2 n3 y ((R + -1 * (y * u)) % pw b n2) ((N + -1 * u) % pw b n3) c, true) := by
      rw [show strokeT 2 (mchV b n1 n2 n3 y R N c) = turnT (mchV b n1 n2 n3 y R N c) (-1) from rfl, ht, decide_eq_true hb, Bool.true_or]
    have hrun := run_one (L := L) (i := i + 1) (tt := i + 2) (by omega) hl1 hL1 rfl (by decide) (s := ⟨mchV b n1 n2 n3 y R N c, tr, dn + 1, 0⟩) rfl (by show dn + 1 < 3000; omega) hst (Ev.rEnd (by omega))
    have := Ev.lOut (L := L) (op := 9) (arg := 0) (i := i + 1) (e := i + 2) (k := k) (s := ⟨mchV b n1 n2 n3 y R N c, tr, dn, 0⟩) (by omega) (by show ¬ dn = 3000; omega) hrun (.inr ⟨rfl, rfl⟩)
    simpa [Int.sub_eq_add_neg] using this
  | q + 1, R, N, tr, dn, k, h0, h1, h2, h3, h4, h5, h6 => by
    have ht := turn_mch h (R := R) (N := N) ⟨h0, h1⟩ ⟨h2, h3⟩ (-1) u hu
    have q1 := pw_pos b h.b2 n3
    have m1 : ((q + 1 : Nat) : Int) * (y * u) = (q : Int) * (y * u) + y * u := by rw [Int.natCast_succ, Int.add_mul, Int.one_mul]
    have m2 : (((q + 1 : Nat) : Int) + 1) * (y * u) = ((q : Int) + 1) * (y * u) + y * u := by rw [Int.natCast_succ, Int.add_mul, Int.one_mul]
    have m3 : ((q : Int) + 1) * (y * u) = (q : Int) * (y * u) + y * u := by rw [Int.add_mul, Int.one_mul]
    have hqD : 0 ≤ (q : Int) * (y * u) := Int.mul_nonneg (by omega) hD
    have hb : ¬ R + -1 * (y * u) < 0 := by omega
    have hb2 : ¬ pw b n2 ≤ R + -1 * (y * u) := by omega
    have hst : strokeT 2 (mchV b n1 n2 n3 y R N c) = (mchV b n1 n2 n3 y (R - y * u) ((N + -1 * u) % pw b n3) c, false) := by
      rw [show strokeT 2 (mchV b n1 n2 n3 y R N c) = turnT (mchV b n1 n2 n3 y R N c) (-1) from rfl, ht, decide_eq_false hb, decide_eq_false hb2, Int.emod_eq_of_lt (by omega) (by omega), show R + -1 * (y * u) = R - y * u by omega]
      rfl
    have hrun := run_one (L := L) (i := i + 1) (tt := i + 2) (by omega) hl1 hL1 rfl (by decide) (s := ⟨mchV b n1 n2 n3 y R N c, tr, dn + 1, 0⟩) rfl (by show dn + 1 < 3000; omega) hst (Ev.rEnd (by omega))
    obtain ⟨tr', hev⟩ := dv_loop h hu hl1 hL1 hD q (R - y * u) ((N + -1 * u) % pw b n3) (tr ++ [2]) (dn + 2) (k + 1) (by omega) (by omega) (Int.emod_nonneg _ (by omega)) (Int.emod_lt_of_pos _ (by omega)) (by omega) (by omega) (by omega)
    refine ⟨tr', ?_⟩
    have e1 : (R - y * u - ((q : Int) + 1) * (y * u)) % pw b n2 = (R - (((q + 1 : Nat) : Int) + 1) * (y * u)) % pw b n2 := by congr 1; omega
    have e2 : ((N + -1 * u) % pw b n3 - ((q : Int) + 1) * u) % pw b n3 = (N - (((q + 1 : Nat) : Int) + 1) * u) % pw b n3 := by
      rw [Int.sub_eq_add_neg, Int.emod_add_emod]
      congr 1
      rw [Int.natCast_succ, Int.add_mul ((q : Int) + 1) 1 u]; omega
    rw [e1, e2, show dn + 2 + 2 * (q + 1) = dn + 2 * (q + 1 + 1) by omega] at hev
    exact Ev.lStep (L := L) (op := 9) (arg := 0) (i := i + 1) (e := i + 2) (k := k) (s := ⟨mchV b n1 n2 n3 y R N c, tr, dn, 0⟩) (by omega) (by show ¬ dn = 3000; omega) hrun ⟨rfl, by simp⟩ hev
theorem right_str {L : List Ins} {b : Int} {n1 n2 n3 : Nat} {y R N : Int} {p : Int} (hp : ∀ c, vplaces (mchV b n1 n2 n3 y R N c) = p) :
    ∀ (n : Nat) (c : Int) (tr : List Int) (dn : Nat), 0 ≤ c → c + n ≤ p - 1 → dn + n ≤ 3000 →
      ∃ tr', Ev L (.str 3 n) ⟨mchV b n1 n2 n3 y R N c, tr, dn, 0⟩ ⟨mchV b n1 n2 n3 y R N (c + n), tr', dn + n, 0⟩ false
  | 0, c, tr, dn, _, _, _ => ⟨tr, by simpa using Ev.s0⟩
  | n + 1, c, tr, dn, h0, h1, h2 => by
    have hst : strokeT 3 (mchV b n1 n2 n3 y R N c) = (mchV b n1 n2 n3 y R N (c + 1), false) := by
      have : ¬ (mchV b n1 n2 n3 y R N c).carry + 1 = vplaces (mchV b n1 n2 n3 y R N c) := by rw [hp]; show ¬ c + 1 = p; omega
      unfold strokeT
      rw [if_neg (by decide), if_neg (by decide), if_pos rfl, if_neg this]; rfl
    obtain ⟨tr', hev⟩ := right_str hp n (c + 1) (tr ++ [3]) (dn + 1) (by omega) (by omega) (by omega)
    refine ⟨tr', ?_⟩
    rw [show c + 1 + (n : Int) = c + ((n + 1 : Nat) : Int) by omega, show dn + 1 + n = dn + (n + 1) by omega] at hev
    have := @Ev.sStep L 3 n ⟨mchV b n1 n2 n3 y R N c, tr, dn, 0⟩ _ false (by show ¬ dn = 3000; omega) (by rw [hst]; exact hev)
    rw [hst] at this
    exact this
/-- where the parts of the program lie -/
def offP (p : Nat) : Nat := if 1 < p then 1 else 0
theorem div_shape : ∀ p : Fin 17, ∀ j : Fin 17, j.val < p.val → (divProg p.val).length = offP p.val + 5 * p.val - 1 ∧ (divProg p.val)[offP p.val + 5 * j.val]? = some ⟨9, 0⟩ ∧ (divProg p.val)[offP p.val + 5 * j.val + 1]? = some ⟨3, 1⟩ ∧ (divProg p.val)[offP p.val + 5 * j.val + 3]? = some ⟨2, 1⟩ ∧ (j.val + 1 < p.val → (divProg p.val)[offP p.val + 5 * j.val + 4]? = some ⟨5, 1⟩) ∧
    depA (divProg p.val) (offP p.val + 5 * j.val) = 0 ∧ depA (divProg p.val) (offP p.val + 5 * j.val + 1) = 1 ∧ depA (divProg p.val) (offP p.val + 5 * j.val + 2) = 1 ∧ depA (divProg p.val) (offP p.val + 5 * j.val + 3) = 0 := by decide +kernel
theorem div_match {p j : Nat} (hp : p ≤ 16) (hj : j < p) : IsMatch (divProg p) (offP p + 5 * j) (offP p + 5 * j + 2) := by
  obtain ⟨h1, h2, h3, h4, h5, d0, d1, d2, d3⟩ := div_shape ⟨p, by omega⟩ ⟨j, by omega⟩ hj
  simp only at h1 h2 h3 h4 h5 d0 d1 d2 d3
  refine ⟨by omega, by rw [h1]; omega, by rw [d3, d0], fun k hk1 hk2 => ?_⟩
  have : k = offP p + 5 * j + 1 ∨ k = offP p + 5 * j + 2 := by omega
  rcases this with rfl | rfl
  · rw [d0, d1]; decide
  · rw [d0, d2]; decide
theorem get_of {L : List Ins} {i : Nat} {x : Ins} (h : L[i]? = some x) : ∃ hl : i < L.length, L[i] = x := by
  obtain ⟨hl, e⟩ := List.getElem?_eq_some_iff.1 h
  exact ⟨hl, e⟩
theorem dv_place {b : Int} {n1 n2 n3 : Nat} {y : Int} (h : DvOk b n1 n2 n3 y) (hy : 1 ≤ y) {p j : Nat} (hp16 : p ≤ 16) (hj : j < p) {c u : Int} (hu : pw b c.toNat = u) (hu1 : 1 ≤ u) {q : Nat} {R N : Int} {tr : List Int} {dn : Nat}
    (h0 : 0 ≤ R) (h1 : R < pw b n2) (h2 : 0 ≤ N) (h3 : N < pw b n3) (h4 : (q : Int) * (y * u) ≤ R) (h5 : R < ((q : Int) + 1) * (y * u)) (h6 : dn + 2 * (q + 1) + 1 ≤ 3000) :
    ∃ tr', ∀ (s' : RS) (b' : Bool), Ev (divProg p) (.run (offP p + 5 * j + 4) (divProg p).length) ⟨mchV b n1 n2 n3 y (R - (q : Int) * (y * u)) ((N - (q : Int) * u) % pw b n3) c, tr', dn + 2 * (q + 1) + 1, 0⟩ s' b' →
      ∃ b'', Ev (divProg p) (.run (offP p + 5 * j) (divProg p).length) ⟨mchV b n1 n2 n3 y R N c, tr, dn, 0⟩ s' b'' := by
  obtain ⟨g1, g2, g3, g4, -⟩ := div_shape ⟨p, by omega⟩ ⟨j, by omega⟩ hj
  simp only at g1 g2 g3 g4
  obtain ⟨l0, e0⟩ := get_of g2
  obtain ⟨l1, e1⟩ := get_of g3
  obtain ⟨l3, e3⟩ := get_of g4
  have q1 := pw_pos b h.b2 n3
  have q2 := pw_pos b h.b2 n2
  have hD : 0 ≤ y * u := Int.mul_nonneg (by omega) (by omega)
  have hqD : 0 ≤ (q : Int) * (y * u) := Int.mul_nonneg (by omega) hD
  obtain ⟨tr1, hlp⟩ := dv_loop (L := divProg p) h hu l1 e1 hD q R N tr dn 0 h0 h1 h2 h3 h4 h5 (by omega)
  have ht := turn_mch h (c := c) (R := (R - ((q : Int) + 1) * (y * u)) % pw b n2) (N := (N - ((q : Int) + 1) * u) % pw b n3) ⟨Int.emod_nonneg _ (by omega), Int.emod_lt_of_pos _ (by omega)⟩ ⟨Int.emod_nonneg _ (by omega), Int.emod_lt_of_pos _ (by omega)⟩ 1 u hu
  have f1 : ((R - ((q : Int) + 1) * (y * u)) % pw b n2 + 1 * (y * u)) % pw b n2 = R - (q : Int) * (y * u) := by
    rw [Int.emod_add_emod, show R - ((q : Int) + 1) * (y * u) + 1 * (y * u) = R - (q : Int) * (y * u) by rw [Int.add_mul]; omega]
    exact Int.emod_eq_of_lt (by omega) (by omega)
  have f2 : ((N - ((q : Int) + 1) * u) % pw b n3 + 1 * u) % pw b n3 = (N - (q : Int) * u) % pw b n3 := by
    rw [Int.emod_add_emod, show N - ((q : Int) + 1) * u + 1 * u = N - (q : Int) * u by rw [Int.add_mul]; omega]
  rw [f1, f2] at ht
  refine ⟨tr1 ++ [1], fun s' b' he => ?_⟩
  have hst : strokeT (2 - 1) (mchV b n1 n2 n3 y ((R - ((q : Int) + 1) * (y * u)) % pw b n2) ((N - ((q : Int) + 1) * u) % pw b n3) c) = _ := ht
  have h7 := run_one (L := divProg p) (i := offP p + 5 * j + 3) (tt := (divProg p).length) l3 l3 e3 rfl (by decide) (s := ⟨mchV b n1 n2 n3 y ((R - ((q : Int) + 1) * (y * u)) % pw b n2) ((N - ((q : Int) + 1) * u) % pw b n3) c, tr1, dn + 2 * (q + 1), 0⟩) rfl (by show dn + 2 * (q + 1) < 3000; omega) hst he
  have hop : (divProg p)[offP p + 5 * j].op = 9 := by rw [e0]
  have har : (divProg p)[offP p + 5 * j].arg = 0 := by rw [e0]
  exact ⟨_, Ev.rLoop l0 l0 rfl (by rw [hop]; rfl) (div_match hp16 hj) (by rw [hop, har]; exact hlp) h7⟩
theorem dv_parts {b : Int} {n1 n2 n3 : Nat} {y x : Int} (h : DvOk b n1 n2 n3 y) (hb16 : b ≤ 16) (hy : 1 ≤ y) {p : Nat} (hp16 : p ≤ 16) :
    ∀ (r j : Nat) (R Q : Int) (tr : List Int) (dn : Nat), j + (r + 1) = p → 0 ≤ R → R < pw b n2 → R < y * pw b (r + 1) → x = Q * y + R → dn + 34 * (r + 1) ≤ 3000 →
      ∃ (R' Q' : Int) (s' : RS) (b' : Bool), Ev (divProg p) (.run (offP p + 5 * j) (divProg p).length) ⟨mchV b n1 n2 n3 y R ((-Q) % pw b n3) (r : Int), tr, dn, 0⟩ s' b' ∧ s'.code = 0 ∧ s'.m = mchV b n1 n2 n3 y R' ((-Q') % pw b n3) 0 ∧ 0 ≤ R' ∧ R' < y ∧ R' < pw b n2 ∧ x = Q' * y + R' := by
  intro r
  induction r with
  | zero =>
    intro j R Q tr dn hj h0 h1 h2 h3 h4
    obtain ⟨g1, -⟩ := div_shape ⟨p, by omega⟩ ⟨j, by omega⟩ (show j < p by omega)
    simp only at g1
    have q1 := pw_pos b h.b2 n3
    simp only [pw, Int.one_mul] at h2
    have hq0 : 0 ≤ R / y := Int.ediv_nonneg h0 (by omega)
    have hqb : R / y < b := Int.ediv_lt_of_lt_mul (by omega) (by rw [Int.mul_comm]; exact h2)
    obtain ⟨q, hq⟩ : ∃ q : Nat, R / y = q := ⟨(R / y).toNat, by omega⟩
    have hmd := Int.emod_add_mul_ediv R y
    have hm0 := Int.emod_nonneg R (show y ≠ 0 by omega)
    have hm1 := Int.emod_lt_of_pos R (show 0 < y by omega)
    rw [hq, Int.mul_comm] at hmd
    obtain ⟨tr1, hk⟩ := dv_place h hy hp16 (show j < p by omega) (c := 0) (u := 1) rfl (by omega) (q := q) (R := R) (N := (-Q) % pw b n3) (tr := tr) (dn := dn) h0 h1 (Int.emod_nonneg _ (by omega)) (Int.emod_lt_of_pos _ (by omega)) (by rw [Int.mul_one]; omega) (by rw [Int.mul_one, Int.add_mul, Int.one_mul]; omega) (by omega)
    obtain ⟨b'', hev⟩ := hk _ _ (Ev.rEnd (by rw [g1]; omega))
    refine ⟨R - (q : Int) * (y * 1), Q + q, _, _, hev, rfl, ?_, by rw [Int.mul_one]; omega, by rw [Int.mul_one]; omega, ?_, ?_⟩
    · have e1 : ((-Q) % pw b n3 - (q : Int) * 1) % pw b n3 = (-(Q + q)) % pw b n3 := by
        rw [Int.sub_eq_add_neg, Int.emod_add_emod]; congr 1; omega
      show mchV b n1 n2 n3 y _ (((-Q) % pw b n3 - (q : Int) * 1) % pw b n3) 0 = _
      rw [e1]
    · have hqy : 0 ≤ (q : Int) * y := Int.mul_nonneg (by omega) (by omega)
      rw [Int.mul_one]; omega
    · rw [Int.mul_one, Int.add_mul]; omega
  | succ r ih =>
    intro j R Q tr dn hj h0 h1 h2 h3 h4
    obtain ⟨g1, -, -, -, g5, -⟩ := div_shape ⟨p, by omega⟩ ⟨j, by omega⟩ (show j < p by omega)
    simp only at g1 g5
    obtain ⟨l4, e4⟩ := get_of (g5 (by omega))
    have q1 := pw_pos b h.b2 n3
    obtain ⟨u, hu⟩ : ∃ u, pw b (r + 1) = u := ⟨_, rfl⟩
    have hu1 : 1 ≤ u := by rw [← hu]; exact pw_pos b h.b2 _
    have hub : pw b (r + 1 + 1) = u * b := by rw [pw_succ, hu]
    have hD1 : y * 1 ≤ y * u := Int.mul_le_mul_of_nonneg_left hu1 (by omega)
    rw [Int.mul_one] at hD1
    rw [hub, ← Int.mul_assoc] at h2
    obtain ⟨D, hD⟩ : ∃ D, y * u = D := ⟨_, rfl⟩
    rw [hD] at h2 hD1
    have hq0 : 0 ≤ R / D := Int.ediv_nonneg h0 (by omega)
    have hqb : R / D < b := Int.ediv_lt_of_lt_mul (by omega) (by rw [Int.mul_comm]; exact h2)
    obtain ⟨q, hq⟩ : ∃ q : Nat, R / D = q := ⟨(R / D).toNat, by omega⟩
    have hmd := Int.emod_add_mul_ediv R D
    have hm0 := Int.emod_nonneg R (show D ≠ 0 by omega)
    have hm1 := Int.emod_lt_of_pos R (show 0 < D by omega)
    rw [hq, Int.mul_comm] at hmd
    have hqD : 0 ≤ (q : Int) * D := Int.mul_nonneg (by omega) (by omega)
    obtain ⟨tr1, hk⟩ := dv_place h hy hp16 (show j < p by omega) (c := ((r + 1 : Nat) : Int)) (u := u) (by rw [Int.toNat_natCast]; exact hu) hu1 (q := q) (R := R) (N := (-Q) % pw b n3) (tr := tr) (dn := dn) h0 h1 (Int.emod_nonneg _ (by omega)) (Int.emod_lt_of_pos _ (by omega)) (by rw [hD]; omega) (by rw [hD, Int.add_mul, Int.one_mul]; omega) (by omega)
    rw [hD] at hk
    have e1 : ((-Q) % pw b n3 - (q : Int) * u) % pw b n3 = (-(Q + q * u)) % pw b n3 := by
      rw [Int.sub_eq_add_neg, Int.emod_add_emod]; congr 1; omega
    rw [e1] at hk
    have hx : x = (Q + q * u) * y + (R - (q : Int) * D) := by
      rw [Int.add_mul, Int.mul_assoc, Int.mul_comm u y, hD]; omega
    obtain ⟨R', Q', s', b', hev, hc, hm, r0, r1, r2, hxx⟩ := ih (j + 1) (R - (q : Int) * D) (Q + q * u) (tr1 ++ [4]) (dn + 2 * (q + 1) + 1 + 1) (by omega) (by omega) (by omega) (by rw [hu, hD]; omega) hx (by omega)
    rw [show offP p + 5 * (j + 1) = offP p + 5 * j + 4 + 1 by omega] at hev
    have hst : strokeT (5 - 1) (mchV b n1 n2 n3 y (R - (q : Int) * D) ((-(Q + q * u)) % pw b n3) ((r + 1 : Nat) : Int)) = (mchV b n1 n2 n3 y (R - (q : Int) * D) ((-(Q + q * u)) % pw b n3) (r : Int), false) := by
      have hne : ¬ (mchV b n1 n2 n3 y (R - (q : Int) * D) ((-(Q + q * u)) % pw b n3) ((r + 1 : Nat) : Int)).carry = 0 := by show ¬ ((r + 1 : Nat) : Int) = 0; omega
      unfold strokeT
      rw [if_neg (by decide), if_neg (by decide), if_neg (by decide), if_pos (by decide), if_neg hne]
      show (mchV b n1 n2 n3 y (R - (q : Int) * D) ((-(Q + q * u)) % pw b n3) (((r + 1 : Nat) : Int) - 1), false) = _
      rw [show ((r + 1 : Nat) : Int) - 1 = (r : Int) by omega]
    have h7 := run_one (L := divProg p) (i := offP p + 5 * j + 4) (tt := (divProg p).length) l4 l4 e4 rfl (by decide) (s := ⟨mchV b n1 n2 n3 y (R - (q : Int) * D) ((-(Q + q * u)) % pw b n3) ((r + 1 : Nat) : Int), tr1, dn + 2 * (q + 1) + 1, 0⟩) rfl (by show dn + 2 * (q + 1) + 1 < 3000; omega) hst hev
    obtain ⟨b'', h8⟩ := hk _ _ h7
    exact ⟨R', Q', s', b'', h8, hc, hm, r0, r1, r2, hxx⟩
/-- the whole program -/
theorem dv_run {b : Int} {n1 n2 n3 : Nat} {y x : Int} (h : DvOk b n1 n2 n3 y) (hb16 : b ≤ 16) (hy : 1 ≤ y) {p : Nat} (hp1 : 1 ≤ p) (hp16 : p ≤ 16) (hpl : ∀ R N c, vplaces (mchV b n1 n2 n3 y R N c) = p) (hx0 : 0 ≤ x) (hx1 : x < pw b n2) (hxy : x < y * pw b p) :
    ∃ (R' Q' : Int) (s' : RS) (b' : Bool), Ev (divProg p) (.run 0 (divProg p).length) (startR (mchV b n1 n2 n3 y x 0 0)) s' b' ∧ s'.code = 0 ∧ s'.m = mchV b n1 n2 n3 y R' ((-Q') % pw b n3) 0 ∧ 0 ≤ R' ∧ R' < y ∧ R' < pw b n2 ∧ x = Q' * y + R' := by
  obtain ⟨r, rfl⟩ : ∃ r, p = r + 1 := ⟨p - 1, by omega⟩
  rcases Nat.eq_zero_or_pos r with hr | hr
  · subst hr
    obtain ⟨R', Q', s', b', hev, rest⟩ := dv_parts (x := x) h hb16 hy hp16 0 0 x 0 [] 0 rfl hx0 hx1 hxy (by omega) (by omega)
    refine ⟨R', Q', s', b', ?_, rest⟩
    simpa [offP, startR] using hev
  · obtain ⟨tr1, hs⟩ := right_str (L := divProg (r + 1)) (R := x) (N := 0) (fun c => hpl x 0 c) r 0 [] 0 (by omega) (by omega) (by omega)
    obtain ⟨R', Q', s', b', hev, rest⟩ := dv_parts (x := x) h hb16 hy hp16 r 0 x 0 tr1 r (by omega) hx0 hx1 hxy (by omega) (by omega)
    have hL0 : (divProg (r + 1))[0]? = some ⟨4, ((r + 1 : Nat) : Int) - 1⟩ := by
      have H : ∀ p : Fin 17, 1 < p.val → (divProg p.val)[0]? = some ⟨4, (p.val : Int) - 1⟩ := by decide +kernel
      exact H ⟨r + 1, by omega⟩ (by show 1 < r + 1; omega)
    obtain ⟨l0, e0⟩ := get_of hL0
    have hop : (divProg (r + 1))[0].op = 4 := by rw [e0]
    have har : (max (1 : Int) (divProg (r + 1))[0].arg).toNat = r := by rw [e0]; show (max (1 : Int) (((r + 1 : Nat) : Int) - 1)).toNat = r; omega
    refine ⟨R', Q', s', false || b', ?_, rest⟩
    refine Ev.rStr (by omega) l0 rfl (by rw [hop]; rfl) (by rw [hop]; decide) (by rw [hop, har]; exact hs) ?_
    have ho : offP (r + 1) = 1 := by unfold offP; rw [if_pos (by omega)]
    rw [ho] at hev
    simpa using hev
theorem dv_law {t : Tri} {x y : Int} (hv : vmach t = true) (h : dvC t x y = 0) : dvQ t x y * y + dvR t x y = x ∧ 0 ≤ dvR t x y ∧ dvR t x y < y ∧ 0 ≤ dvQ t x y * y ∧ dvQ t x y * y ≤ x ∧ x ≤ 1000000000001 := by
  obtain ⟨k1, k2, k3, e1, e2, f1, f2, l1, c0, c1⟩ := vmach_all hv
  obtain ⟨⟨b1, b2⟩, ⟨n1, n2⟩, -⟩ := vreg_iff.1 k1
  obtain ⟨⟨b3, b4⟩, ⟨n3, n4⟩, -⟩ := vreg_iff.1 k2
  obtain ⟨⟨b5, b6⟩, ⟨n5, n6⟩, -⟩ := vreg_iff.1 k3
  obtain ⟨v1, v2, v3, v4, v5⟩ := vplaces_bd hv
  have hx : betB x 0 (pw t.b.base t.b.digits.length - 1) = true := by
    cases hb : betB x 0 (pw t.b.base t.b.digits.length - 1) with
    | true => rfl
    | false => unfold dvC at h; rw [hv, hb] at h; simp at h
  have hy : betB y 1 (pw t.a.base t.a.digits.length - 1) = true := by
    cases hb : betB y 1 (pw t.a.base t.a.digits.length - 1) with
    | true => rfl
    | false => unfold dvC at h; rw [hv, hx, hb] at h; simp at h
  have hq : ¬ pw t.a.base (vplaces t).toNat ≤ x.tdiv y := fun hc => by
    unfold dvC at h; rw [hv, hx, hy, if_neg (by decide), if_neg (by decide), if_neg (by decide), if_pos hc] at h; cases h
  obtain ⟨x0, x1⟩ := betB_iff.1 hx
  obtain ⟨y0, y1⟩ := betB_iff.1 hy
  have hm := pw_mono t.a.base (by omega) _ _ l1
  have hm3 := pw_mono t.a.base (by omega) (vplaces t).toNat t.s.digits.length (by unfold vplaces; omega)
  rw [← e1] at f1 x1
  have e3 : t.s.base = t.a.base := e2.trans e1.symm
  rw [e3] at f2
  have hok : DvOk t.a.base t.a.digits.length t.b.digits.length t.s.digits.length y := ⟨b1, by omega, by omega, by omega, f1, f2⟩
  obtain ⟨P, hP⟩ : ∃ P, pw t.a.base (vplaces t).toNat = P := ⟨_, rfl⟩
  rw [hP] at hq hm3
  have hdiv : x.tdiv y = x / y := Int.tdiv_eq_ediv_of_nonneg x0
  rw [hdiv] at hq
  have hxy : x < y * P := by
    rw [Int.mul_comm]; exact Int.lt_mul_of_ediv_lt (by omega) (by omega)
  obtain ⟨R', Q', s', b', hev, hc, hmm, r0, r1, r2, hxx⟩ := dv_run (x := x) hok b2 y0 v1 v2 (fun R N c => by rw [v3]; simp [vplaces, mchV, digD_len]) x0 (by omega) (by rw [hP]; exact hxy)
  have hstart : dvStart t x y = mchV t.a.base t.a.digits.length t.b.digits.length t.s.digits.length y x 0 0 := by
    unfold dvStart mchV; rw [← e1, e3]
  obtain ⟨a1, a2, -, -⟩ := dv_fine (x := x) (y := y) h (by rw [hstart]; exact hev)
  rw [hmm] at a1 a2
  have hQ0 : 0 ≤ Q' := by
    rcases Int.lt_or_le Q' 0 with hn | hn
    · have : Q' * y ≤ (-1) * y := Int.mul_le_mul_of_nonneg_right (by omega) (by omega)
      omega
    · exact hn
  have hQP : Q' < P := by
    rcases Int.lt_or_le Q' P with hn | hn
    · exact hn
    · have : P * y ≤ Q' * y := Int.mul_le_mul_of_nonneg_right hn (by omega)
      rw [Int.mul_comm] at hxy
      omega
  have q1 := pw_pos t.a.base b1 t.s.digits.length
  have hr : dvR t x y = R' := by
    rw [a2]; exact valL_dig b1 f1 r0 r2
  have hvn : valL t.a.base (digD t.a.base t.s.digits.length ((-Q') % pw t.a.base t.s.digits.length)) = (-Q') % pw t.a.base t.s.digits.length := valL_dig b1 f2 (Int.emod_nonneg _ (by omega)) (Int.emod_lt_of_pos _ (by omega))
  have hqq : dvQ t x y = Q' := by
    rw [a1]
    show (pw t.s.base t.s.digits.length - valL t.a.base (digD t.a.base t.s.digits.length ((-Q') % pw t.a.base t.s.digits.length))).tmod (pw t.s.base t.s.digits.length) = Q'
    rw [hvn, e3]
    have h1 := Int.emod_lt_of_pos (-Q') (show 0 < pw t.a.base t.s.digits.length by omega)
    rw [Int.tmod_eq_emod_of_nonneg (by omega), Int.sub_emod, Int.emod_emod, ← Int.sub_emod, show pw t.a.base t.s.digits.length - -Q' = Q' + pw t.a.base t.s.digits.length by omega, Int.add_emod_right]
    exact Int.emod_eq_of_lt hQ0 (by omega)
  have hq0 : 0 ≤ Q' * y := Int.mul_nonneg hQ0 (by omega)
  rw [hr, hqq]
  omega
end Go.Proofs.YtlhcilmnfmglfaaDoor

namespace Go.Proofs.YtlhcilmnfmglfaaDoor
open Go.RowKit Go.Sort
/-- whether a digit is turned as it is -/
def fewC (b n : Int) : Bool := decide (2 * n.tmod b < b) || (decide (2 * n.tmod b = b) && decide (2 * (n.tdiv b).tmod b < b - 1))
def turnD (sh : Bool) (b n : Int) : Int := if sh = true ∧ fewC b n = false then n.tmod b - b else n.tmod b
def turnN (sh : Bool) (b n : Int) : Int := if sh = true ∧ fewC b n = false then n.tdiv b + 1 else n.tdiv b
/-- the turns for a factor, at most so many -/
def turnF (sh : Bool) (b : Int) : Nat → Int → List Int
  | 0, _ => []
  | g + 1, n => if 0 < n then turnD sh b n :: turnF sh b g (turnN sh b n) else []
def fb : Nat → Int
  | 0 => 0
  | 1 => 1
  | 2 => 2
  | g + 3 => 2 * fb (g + 2) - 1
def turnL (sh : Bool) (b n : Int) : List Int := turnF sh b 30 n
theorem fb_pos (g : Nat) : 2 ≤ fb (g + 2) := by
  induction g with
  | zero => decide
  | succ g ih => show 2 ≤ 2 * fb (g + 2) - 1; omega
theorem tdm {b n : Int} (hb : 2 ≤ b) (h : 0 ≤ n) : 0 ≤ n.tmod b ∧ n.tmod b < b ∧ 0 ≤ n.tdiv b ∧ b * n.tdiv b + n.tmod b = n := by
  rw [Int.tmod_eq_emod_of_nonneg h, Int.tdiv_eq_ediv_of_nonneg h]
  exact ⟨Int.emod_nonneg _ (by omega), Int.emod_lt_of_pos _ (by omega), Int.ediv_nonneg h (by omega), Int.mul_ediv_add_emod n b⟩
theorem tdm_half {b n : Int} (hb : 2 ≤ b) (h : 0 ≤ n) : 2 * n.tdiv b ≤ n := by
  obtain ⟨h1, h2, h3, h4⟩ := tdm hb h
  have := Int.mul_le_mul_of_nonneg_right hb h3
  omega
theorem fewC_false {b n : Int} (h : fewC b n = false) : ¬ 2 * n.tmod b < b ∧ ¬ (2 * n.tmod b = b ∧ 2 * (n.tdiv b).tmod b < b - 1) := by
  unfold fewC at h
  simp only [Bool.or_eq_false_iff, decide_eq_false_iff_not, Bool.and_eq_false_iff] at h
  exact ⟨h.1, fun h2 => h.2.elim (fun x => x h2.1) (fun x => x h2.2)⟩
theorem turn_step {sh : Bool} {b n : Int} {g : Nat} (hb : 2 ≤ b) (h0 : 0 < n) (hg : n ≤ fb (g + 1)) : 0 ≤ turnN sh b n ∧ turnN sh b n < n ∧ turnN sh b n ≤ fb g := by
  have h2 := tdm_half hb (Int.le_of_lt h0)
  obtain ⟨q1, q2, q3, q4⟩ := tdm hb (Int.le_of_lt h0)
  have hlt : 0 ≤ turnN sh b n ∧ turnN sh b n < n ∧ 2 * turnN sh b n ≤ n + 2 := by
    unfold turnN
    split
    · rename_i hf
      have hc := fewC_false hf.2
      have hn : ¬ (n ≤ 2 ∧ n.tdiv b ≠ 0) ∨ n.tdiv b = 1 := by omega
      refine ⟨by omega, ?_, by omega⟩
      rcases Int.lt_or_le n 3 with h3 | h3
      · rcases Int.lt_or_le b 3 with h4 | h4
        · obtain rfl : b = 2 := by omega
          have : n = 1 ∨ n = 2 := by omega
          rcases this with rfl | rfl
          · exact absurd (by decide : (2 * Int.tmod 1 2 = 2 ∧ 2 * Int.tmod (Int.tdiv 1 2) 2 < 2 - 1)) hc.2
          · exact absurd (by decide : (2 * Int.tmod 2 2 < 2)) hc.1
        · have hz : n.tdiv b = 0 := by
            rw [Int.tdiv_eq_ediv_of_nonneg (by omega)]; exact Int.ediv_eq_zero_of_lt (by omega) (by omega)
          rw [hz] at q4 ⊢
          have : n ≠ 1 := by
            rintro rfl
            apply hc.1
            omega
          omega
      · omega
    · omega
  refine ⟨hlt.1, hlt.2.1, ?_⟩
  rcases g with _ | _ | g
  · have h5 : n ≤ 1 := hg
    show turnN sh b n ≤ 0
    omega
  · have h5 : n ≤ 2 := hg
    show turnN sh b n ≤ 1
    omega
  · have h5 : fb (g + 3) = 2 * fb (g + 2) - 1 := rfl
    have h6 : n ≤ fb (g + 3) := hg
    show turnN sh b n ≤ fb (g + 2)
    omega
theorem turnD_bd {sh : Bool} {b n : Int} (hb : 2 ≤ b) (h0 : 0 ≤ n) : -b ≤ turnD sh b n ∧ turnD sh b n ≤ b := by
  obtain ⟨q1, q2, q3, q4⟩ := tdm hb h0
  unfold turnD
  split <;> omega
theorem turnF_succ {sh : Bool} {b n : Int} {g : Nat} (h : 0 < n) : turnF sh b (g + 1) n = turnD sh b n :: turnF sh b g (turnN sh b n) := if_pos h
theorem turnF_zero {sh : Bool} {b n : Int} {g : Nat} (h : ¬ 0 < n) : turnF sh b g n = [] := by
  cases g with
  | zero => rfl
  | succ g => exact if_neg h
theorem turnF_len (sh : Bool) (b : Int) (g : Nat) (n : Int) : (turnF sh b g n).length ≤ g := by
  induction g generalizing n with
  | zero => simp [turnF]
  | succ g ih =>
    unfold turnF
    split
    · rw [List.length_cons]; have := ih (turnN sh b n); omega
    · rw [List.length_nil]; omega
theorem turnF_bd (sh : Bool) {b : Int} (hb : 2 ≤ b) (g : Nat) (n : Int) (h0 : 0 ≤ n) (hg : n ≤ fb g) : ∀ d ∈ turnF sh b g n, -b ≤ d ∧ d ≤ b := by
  induction g generalizing n with
  | zero => intro d hd; simp [turnF] at hd
  | succ g ih =>
    intro d hd
    by_cases h : 0 < n
    · rw [turnF_succ h] at hd
      rcases List.mem_cons.1 hd with rfl | hd
      · exact turnD_bd hb h0
      · have := turn_step (sh := sh) hb h hg
        exact ih _ this.1 this.2.2 d hd
    · rw [turnF_zero h] at hd; cases hd
/-- the program of turns -/
def mulIns (k : Nat) (n : Int) : List Ins := (if 0 < k then [⟨4, 1⟩] else []) ++ (if 0 < n then [⟨2, n⟩] else if n < 0 then [⟨3, -n⟩] else [])
def mulUpto (ts : List Int) : Nat → List Ins
  | 0 => []
  | k + 1 => mulUpto ts k ++ mulIns k (ts.getD k 0)
def mulP (ts : List Int) : List Ins := mulUpto ts ts.length
theorem mulIns_len (k : Nat) (n : Int) : (mulIns k n).length ≤ 2 := by
  unfold mulIns
  rw [List.length_append]
  repeat' split
  all_goals simp
theorem mulUpto_len (ts : List Int) (k : Nat) : (mulUpto ts k).length ≤ 2 * k := by
  induction k with
  | zero => simp [mulUpto]
  | succ k ih => unfold mulUpto; rw [List.length_append]; have := mulIns_len k (ts.getD k 0); omega
theorem vprog_simple {xs : List Ins} (h : ∀ x ∈ xs, instrOk x.op x.arg = true ∧ x.op ≤ 7) (hl : xs.length ≤ 120) : vprog xs = true := by
  have hd : ∀ (ys : List Ins), (∀ x ∈ ys, instrOk x.op x.arg = true ∧ x.op ≤ 7) → ys.foldl stepI (some 0) = some 0 := by
    intro ys
    induction ys with
    | nil => intro _; rfl
    | cons y ys ih =>
      intro hy
      obtain ⟨h1, h2⟩ := hy y (List.mem_cons_self ..)
      have hs : stepI (some 0) y = some 0 := by
        unfold stepI
        simp only [Option.bind_some, h1, if_true]
        unfold depthStep opens
        rw [if_neg (by omega), if_neg (by simp; omega)]
      rw [List.foldl_cons, hs]
      exact ih (fun x hx => hy x (List.mem_cons_of_mem _ hx))
  unfold vprog progD
  rw [hd xs h]
  simp [hl]
theorem mulUpto_ok {ts : List Int} (h : ∀ d ∈ ts, -16 ≤ d ∧ d ≤ 16) (k : Nat) (hk : k ≤ ts.length) : ∀ x ∈ mulUpto ts k, instrOk x.op x.arg = true ∧ x.op ≤ 7 := by
  induction k with
  | zero => intro x hx; simp [mulUpto] at hx
  | succ k ih =>
    intro x hx
    unfold mulUpto at hx
    rcases List.mem_append.1 hx with hx | hx
    · exact ih (by omega) x hx
    · have hd := h ts[k] (List.getElem_mem _)
      rw [getD_of (by omega)] at hx
      unfold mulIns at hx
      rcases List.mem_append.1 hx with hx | hx
      · split at hx
        · rw [List.mem_singleton.1 hx]; exact ⟨by decide, by decide⟩
        · cases hx
      · split at hx
        · rw [List.mem_singleton.1 hx]
          refine ⟨?_, by show (2 : Int) ≤ 7; decide⟩
          simp only [instrOk, betB]
          simp; omega
        · split at hx
          · rw [List.mem_singleton.1 hx]
            refine ⟨?_, by show (3 : Int) ≤ 7; decide⟩
            simp only [instrOk, betB]
            simp; omega
          · cases hx
theorem mulP_ok {sh : Bool} {b n : Int} (hb : 2 ≤ b) (hb2 : b ≤ 16) (h0 : 0 ≤ n) (h1 : n ≤ 62500000) : vprog (mulP (turnL sh b n)) = true := by
  have hl := turnF_len sh b 30 n
  have hbd := turnF_bd sh hb 30 n h0 (Int.le_trans h1 (by decide))
  refine vprog_simple (mulUpto_ok (fun d hd => by have := hbd d hd; omega) _ (Nat.le_refl _)) ?_
  have := mulUpto_len (turnL sh b n) (turnL sh b n).length
  show (mulUpto (turnL sh b n) (turnL sh b n).length).length ≤ 120
  unfold turnL at this ⊢
  omega
end Go.Proofs.YtlhcilmnfmglfaaDoor

namespace Go.Proofs.YtlhcilmnfmglfaaDoor
open Go.RowKit Go.Sort
def trnC (b f : Int) : Int := if (betB b 2 16 && betB f 0 62500000) = true then 0 else 2
theorem l13Code_any (b f : Int) (w : World) : Calls Tryd.prog 60 #[.int .i64 b, .int .i64 f] w fun e w' => e = .returned (.int .i64 (trnC b f)) ∧ w = w' := by
  have KB := (fun W => l02Base_any b W)
  have KF := (fun W => l00In_any f 0 62500000 W)
  rcases hb : betB b 2 16 with _ | _
  · have HF := Lib.hid (show trnC b f = 2 by unfold trnC; rw [hb]; rfl)
    rw [hb] at KB
    have KB := Lib.hid KB
    clear hb
    go_enter Tryd.func60, Tryd.ntmps60
    go_wp2_with (first | (go_at_call 64; refine (KB.out _).mono ?_; rintro e w' ⟨rfl, rfl⟩))
    go_ret
    exact ⟨ret_int HF.out.symm, rfl⟩
  · rcases hf : betB f 0 62500000 with _ | _
    · have HF := Lib.hid (show trnC b f = 2 by unfold trnC; rw [hb, hf]; rfl)
      rw [hb] at KB
      rw [hf] at KF
      have KB := Lib.hid KB
      have KF := Lib.hid KF
      clear hb hf
      go_enter Tryd.func60, Tryd.ntmps60
      go_wp2_with (first | (go_at_call 64; refine (KB.out _).mono ?_; rintro e w' ⟨rfl, rfl⟩) | (go_at_call 68; refine (KF.out _).mono ?_; rintro e w' ⟨rfl, rfl⟩))
      go_ret
      exact ⟨ret_int HF.out.symm, rfl⟩
    · have HF := Lib.hid (show trnC b f = 0 by unfold trnC; rw [hb, hf]; rfl)
      rw [hb] at KB
      rw [hf] at KF
      have KB := Lib.hid KB
      have KF := Lib.hid KF
      clear hb hf
      go_enter Tryd.func60, Tryd.ntmps60
      go_wp2_with (first | (go_at_call 64; refine (KB.out _).mono ?_; rintro e w' ⟨rfl, rfl⟩) | (go_at_call 68; refine (KF.out _).mono ?_; rintro e w' ⟨rfl, rfl⟩))
      go_ret
      exact ⟨ret_int HF.out.symm, rfl⟩
/-- what a round of turns' loop knows -/
structure TL (sh : Bool) (b : Int) (R : List Int) (g : Nat) (n : Int) (ts : List Int) : Prop where
  n0 : 0 ≤ n
  ng : n ≤ fb g
  len : ts.length + g ≤ 30
  all : ts ++ turnF sh b g n = R
theorem TL.start {sh : Bool} {b f : Int} (h0 : 0 ≤ f) (h1 : f ≤ 62500000) : TL sh b (turnL sh b f) 30 f [] :=
  ⟨h0, Int.le_trans h1 (by decide), by simp, rfl⟩
theorem TL.next {sh : Bool} {b n : Int} {R ts : List Int} {g : Nat} (h : TL sh b R g n ts) (hb : 2 ≤ b) (hn : 0 < n) : ∃ g', g = g' + 1 ∧ TL sh b R g' (turnN sh b n) (ts ++ [turnD sh b n]) ∧ turnN sh b n < n := by
  rcases g with _ | g
  · have h2 := h.ng
    have : fb 0 = 0 := rfl
    omega
  · have h3 := turn_step (sh := sh) hb hn h.ng
    refine ⟨g, rfl, ⟨h3.1, h3.2.2, ?_, ?_⟩, h3.2.1⟩
    · rw [List.length_append]; have := h.len; simp; omega
    · rw [List.append_assoc, ← h.all, turnF_succ hn]; rfl
theorem TL.done {sh : Bool} {b n : Int} {R ts : List Int} {g : Nat} (h : TL sh b R g n ts) (hn : ¬ 0 < n) : ts = R := by
  have := h.all
  rw [turnF_zero hn, List.append_nil] at this
  exact this
theorem fb_bd {g : Nat} (h : g ≤ 30) : fb g ≤ 1000000000 := by
  have H : ∀ g : Fin 31, fb g.val ≤ 1000000000 := by decide +kernel
  exact H ⟨g, by omega⟩
end Go.Proofs.YtlhcilmnfmglfaaDoor

namespace Go.Proofs.YtlhcilmnfmglfaaDoor
open Go.RowKit Go.Sort
/-- the ways in which a digit is turned -/
theorem few_ways (b n : Int) :
    (2 * n.tmod b < b ∧ turnD true b n = n.tmod b ∧ turnN true b n = n.tdiv b) ∨
    (¬ 2 * n.tmod b < b ∧ ¬ 2 * n.tmod b = b ∧ turnD true b n = n.tmod b - b ∧ turnN true b n = n.tdiv b + 1) ∨
    (¬ 2 * n.tmod b < b ∧ 2 * n.tmod b = b ∧ 2 * (n.tdiv b).tmod b < b - 1 ∧ turnD true b n = n.tmod b ∧ turnN true b n = n.tdiv b) ∨
    (¬ 2 * n.tmod b < b ∧ 2 * n.tmod b = b ∧ ¬ 2 * (n.tdiv b).tmod b < b - 1 ∧ turnD true b n = n.tmod b - b ∧ turnN true b n = n.tdiv b + 1) := by
  unfold turnD turnN
  by_cases h1 : 2 * n.tmod b < b
  · exact .inl ⟨h1, by rw [if_neg (by unfold fewC; simp [h1])], by rw [if_neg (by unfold fewC; simp [h1])]⟩
  · by_cases h2 : 2 * n.tmod b = b
    · by_cases h3 : 2 * (n.tdiv b).tmod b < b - 1
      · have hf : fewC b n = true := by unfold fewC; rw [decide_eq_true h2, decide_eq_true h3]; simp
        exact .inr (.inr (.inl ⟨h1, h2, h3, by rw [if_neg (by simp [hf])], by rw [if_neg (by simp [hf])]⟩))
      · have hf : fewC b n = false := by unfold fewC; rw [decide_eq_false h1, decide_eq_false h3]; simp
        exact .inr (.inr (.inr ⟨h1, h2, h3, by rw [if_pos ⟨rfl, hf⟩], by rw [if_pos ⟨rfl, hf⟩]⟩))
    · have hf : fewC b n = false := by unfold fewC; rw [decide_eq_false h1, decide_eq_false h2]; simp
      exact .inr (.inl ⟨h1, h2, by rw [if_pos ⟨rfl, hf⟩], by rw [if_pos ⟨rfl, hf⟩]⟩)
set_option maxRecDepth 100000 in
set_option maxHeartbeats 3200000 in
theorem l13Few_any (b f : Int) (w : World) (hb : 2 ≤ b) (hb2 : b ≤ 16) (h0 : 0 ≤ f) (h1 : f ≤ 62500000) :
    Calls Tryd.prog 61 #[.int .i64 b, .int .i64 f] w fun e w' => ∃ A c, e = .returned (.agg #[.int .i64 b, .slice A (turnL true b f).length c]) ∧ Kn w [rowI A c (turnL true b f)] w' := by
  have nz1 : b ≠ 0 := by omega
  have nz2 : (b == 0) = false := by simp; omega
  have HS := Lib.hid (TL.start (sh := true) (b := b) h0 h1)
  obtain ⟨R, hR⟩ : ∃ R, turnL true b f = R := ⟨_, rfl⟩
  have HS := HS.out
  rw [hR] at HS
  rw [hR]
  have HS := Lib.hid HS
  clear hR
  go_enter Tryd.func61, Tryd.ntmps61
  go_wp2_with fail
  have hK1 := ((((Kn.nil w).al [.int .i64 0, .slice none 0 0] 27).al [] 2).litRow (size := 1) (n := 0) rfl (by decide)).al [.int .i64 b, .slice (some ⟨w.heap.size + 1, 0, none⟩) 0 0] 27
  simp only [World.size_alloc] at hK1
  have hK2 := hK1.sel [1, 0, 2] 99 (by decide) (by decide)
  go_loopw [1] (fun nn wr => ∃ (g : Nat) (n : Int) (ts : List Int) (A : Option Addr) (c : Nat), TL true b R g n ts ∧ nn = .int .i64 n ∧ Kn w [rowI A c ts, .blk (w.heap.size + 1 + 1) [.int .i64 b, .slice A ts.length c] 27, .blk w.heap.size [.int .i64 0, .slice none 0 0] 27] wr) (fun nn _ => (intOf nn).toNat)
  case atStart => exact ⟨30, f, [], some ⟨w.heap.size + 1, 0, none⟩, 0, HS.out, rfl, hK2⟩
  case round =>
    obtain ⟨g, n, ts, A, c, hT, rfl, hK⟩ := hrel
    clear hK1 hK2
    have hl := hT.len
    have n0 := hT.n0
    have ng := Int.le_trans hT.ng (fb_bd (by omega))
    obtain ⟨a1, a2, a3, d1, d2, d3, -⟩ := hK.cells
    by_cases hn : 0 < n
    · obtain ⟨g', rfl, hT2, hlt⟩ := hT.next hb hn
      obtain ⟨q1, q2, q3, q4⟩ := tdm hb n0
      have hh := tdm_half hb n0
      obtain ⟨s1, s2, s3, s4⟩ := tdm hb q3
      have hw := few_ways b n
      obtain ⟨d, hd⟩ : ∃ d, n.tmod b = d := ⟨_, rfl⟩
      obtain ⟨r, hr⟩ : ∃ r, n.tdiv b = r := ⟨_, rfl⟩
      rw [hd, hr] at hw
      rw [hr] at q3 hh s1 s2
      rw [hd] at q1 q2
      obtain ⟨x, hx⟩ : ∃ x, r.tmod b = x := ⟨_, rfl⟩
      rw [hx] at hw s1 s2
      have wd : IntKind.i64.wrap d = d := wrapI64 (by omega)
      have wr' : IntKind.i64.wrap r = r := wrapI64 (by omega)
      have wx : IntKind.i64.wrap x = x := wrapI64 (by omega)
      have wd2 : IntKind.i64.wrap (n.tmod b) = d := by rw [hd]; exact wd
      have wr2 : IntKind.i64.wrap (n.tdiv b) = r := by rw [hr]; exact wr'
      have wx2 : IntKind.i64.wrap (r.tmod b) = x := by rw [hx]; exact wx
      have wdd : IntKind.i64.wrap (2 * d) = 2 * d := wrapI64 (by omega)
      have wxx : IntKind.i64.wrap (2 * x) = 2 * x := wrapI64 (by omega)
      have wb1 : IntKind.i64.wrap (b - 1) = b - 1 := wrapI64 (by omega)
      have wdb : IntKind.i64.wrap (d - b) = d - b := wrapI64 (by omega)
      have wr1 : IntKind.i64.wrap (r + 1) = r + 1 := wrapI64 (by omega)
      clear hT q4 s3 s4
      rcases hw with ⟨c1, e1, e2⟩ | ⟨c1, c2, e1, e2⟩ | ⟨c1, c2, c3, e1, e2⟩ | ⟨c1, c2, c3, e1, e2⟩
      all_goals
        rw [e1, e2] at hT2
        rw [e2] at hlt
        have HT := Lib.hid hT2
        clear hT2 e1 e2
      · go_wp2_with (at_builtin; refine kn_pushI rfl _ _ rfl _ ts rfl rfl (hK.al [.int .i64 (d)] 2) (by omega) ?_; intro v5 w6 hK9; obtain ⟨A5, c5, rfl⟩ := row_form hK9.at0; clear a1 a2 a3 d1 d2 d3; obtain ⟨a1, a2, a3, d1, d2, d3, -⟩ := hK9.cells)
        go_roundw
        case rel => exact ⟨g', r, ts ++ [d], A5, c5, HT.out, by go_num, by
          rw [show (ts ++ [d]).length = ts.length + 1 by simp] at hK9
          have h9 := ((hK9.front 1 rfl).st 1 (.slice A5 (ts.length + 1) c5)).sel [1, 0, 2] 99 (by decide) (by decide)
          unfold rowI
          rw [show (ts ++ [d]).length = ts.length + 1 by simp]
          exact h9⟩
        case measure => simp [intOf]; omega
      · go_wp2_with (at_builtin; refine kn_pushI rfl _ _ rfl _ ts rfl rfl (hK.al [.int .i64 (d - b)] 2) (by omega) ?_; intro v5 w6 hK9; obtain ⟨A5, c5, rfl⟩ := row_form hK9.at0; clear a1 a2 a3 d1 d2 d3; obtain ⟨a1, a2, a3, d1, d2, d3, -⟩ := hK9.cells)
        go_roundw
        case rel => exact ⟨g', r + 1, ts ++ [d - b], A5, c5, HT.out, by go_num, by
          rw [show (ts ++ [d - b]).length = ts.length + 1 by simp] at hK9
          have h9 := ((hK9.front 1 rfl).st 1 (.slice A5 (ts.length + 1) c5)).sel [1, 0, 2] 99 (by decide) (by decide)
          unfold rowI
          rw [show (ts ++ [d - b]).length = ts.length + 1 by simp]
          exact h9⟩
        case measure => simp [intOf]; omega
      · go_wp2_with (at_builtin; refine kn_pushI rfl _ _ rfl _ ts rfl rfl (hK.al [.int .i64 (d)] 2) (by omega) ?_; intro v5 w6 hK9; obtain ⟨A5, c5, rfl⟩ := row_form hK9.at0; clear a1 a2 a3 d1 d2 d3; obtain ⟨a1, a2, a3, d1, d2, d3, -⟩ := hK9.cells)
        go_roundw
        case rel => exact ⟨g', r, ts ++ [d], A5, c5, HT.out, by go_num, by
          rw [show (ts ++ [d]).length = ts.length + 1 by simp] at hK9
          have h9 := ((hK9.front 1 rfl).st 1 (.slice A5 (ts.length + 1) c5)).sel [1, 0, 2] 99 (by decide) (by decide)
          unfold rowI
          rw [show (ts ++ [d]).length = ts.length + 1 by simp]
          exact h9⟩
        case measure => simp [intOf]; omega
      · go_wp2_with (at_builtin; refine kn_pushI rfl _ _ rfl _ ts rfl rfl (hK.al [.int .i64 (d - b)] 2) (by omega) ?_; intro v5 w6 hK9; obtain ⟨A5, c5, rfl⟩ := row_form hK9.at0; clear a1 a2 a3 d1 d2 d3; obtain ⟨a1, a2, a3, d1, d2, d3, -⟩ := hK9.cells)
        go_roundw
        case rel => exact ⟨g', r + 1, ts ++ [d - b], A5, c5, HT.out, by go_num, by
          rw [show (ts ++ [d - b]).length = ts.length + 1 by simp] at hK9
          have h9 := ((hK9.front 1 rfl).st 1 (.slice A5 (ts.length + 1) c5)).sel [1, 0, 2] 99 (by decide) (by decide)
          unfold rowI
          rw [show (ts ++ [d - b]).length = ts.length + 1 by simp]
          exact h9⟩
        case measure => simp [intOf]; omega
    · have HD := Lib.hid (hT.done hn)
      clear hT
      go_wp2_with fail
      refine bodyPost.kn (((hK.front 2 rfl).st 0 (.int .i64 b)).st 1 (.slice A ts.length c)) ?_; intro w9 hK9
      clear a1 a2 a3 d1 d2 d3
      obtain ⟨a1, a2, a3, -⟩ := hK9.cells
      refine bodyPost_ret (v := .agg #[.int .i64 b, .slice A ts.length c]) (by simp [results, Tryd.results61, go_sem, a1]) rfl ⟨A, c, by rw [← HD.out], ?_⟩
      rw [← HD.out]
      exact hK9.sel [1] 99 (by decide) (by decide)
/-- what a function of turns returns -/
def TDRet (sh : Bool) (b f : Int) (w : World) (e : Ending) (w' : World) : Prop :=
  (trnC b f = 2 ∧ e = .returned (.tuple #[.agg #[.int .i64 0, .slice none 0 0], .int .i64 2]) ∧ Below w.heap.size w w') ∨
  (trnC b f = 0 ∧ ∃ A c, e = .returned (.tuple #[.agg #[.int .i64 b, .slice A (turnL sh b f).length c], .int .i64 0]) ∧ Kn w [rowI A c (turnL sh b f)] w')
theorem trnC_cases (b f : Int) : trnC b f = 2 ∨ (trnC b f = 0 ∧ 2 ≤ b ∧ b ≤ 16 ∧ 0 ≤ f ∧ f ≤ 62500000) := by
  unfold trnC
  split
  · rename_i h
    simp only [Bool.and_eq_true, betB_iff] at h
    exact .inr ⟨rfl, h.1.1, h.1.2, h.2.1, h.2.2⟩
  · exact .inl rfl
set_option maxRecDepth 100000 in
theorem FewestTurns_any (b f : Int) (w : World) : Calls Tryd.prog 10 #[.int .i64 b, .int .i64 f] w (TDRet true b f w) := by
  unfold TDRet
  rcases trnC_cases b f with hc | ⟨hc, hb, hb2, h0, h1⟩
  · have KC := Lib.hid (fun W => calls_val (l13Code_any b f W) (congrArg (Value.int .i64) hc))
    have HC := Lib.hid hc
    clear hc
    refine Calls.mono ?_ (fun e w' h => .inl ⟨HC.out, h⟩)
    clear HC
    go_enter Tryd.func10, Tryd.ntmps10
    go_wp2_with (go_at_call 60; refine (KC.out _).mono ?_; rintro e w' ⟨rfl, rfl⟩)
    refine bodyPost.kn ((Kn.nil w).al [.int .i64 0, .slice none 0 0] 27) ?_; intro w6 hK6
    obtain ⟨a1, a2, a3, -⟩ := hK6.cells
    exact bodyPost_ret (v := .tuple #[.agg #[.int .i64 0, .slice none 0 0], .int .i64 2]) (by simp [results, Tryd.results10, go_sem, a1]) rfl ⟨rfl, hK6.below⟩
  have KC := Lib.hid (fun W => calls_val (l13Code_any b f W) (congrArg (Value.int .i64) hc))
  have HC := Lib.hid hc
  have KF := (fun W => l13Few_any b f W hb hb2 h0 h1)
  obtain ⟨R, hR⟩ : ∃ R, turnL true b f = R := ⟨_, rfl⟩
  rw [hR] at KF ⊢
  have KF := Lib.hid KF
  clear hc hR
  refine Calls.mono ?_ (fun e w' h => .inr ⟨HC.out, h⟩)
  clear HC
  go_enter Tryd.func10, Tryd.ntmps10
  go_wp2_with (go_at_call 60; refine (KC.out _).mono ?_; rintro e w' ⟨rfl, rfl⟩)
  refine Calls.kn ((Kn.nil w).al [.int .i64 0, .slice none 0 0] 27) ?_; intro w1 hK1
  (with_reducible refine (KF.out _).mono ?_); rintro e w2 ⟨A, c, rfl, hKn⟩
  have hK2 := hK1.join hKn
  obtain ⟨a1, a2, a3, -⟩ := hK2.cells
  go_wp2_with fail
  refine bodyPost.kn (((hK2.front 1 rfl).st 0 (.int .i64 b)).st 1 (.slice A R.length c)) ?_; intro w9 hK9
  clear a1 a2 a3
  obtain ⟨a1, a2, a3, -⟩ := hK9.cells
  exact bodyPost_ret (v := .tuple #[.agg #[.int .i64 b, .slice A R.length c], .int .i64 0]) (by simp [results, Tryd.results10, go_sem, a1]) rfl ⟨A, c, rfl, hK9.sel [1] 99 (by decide) (by decide)⟩
end Go.Proofs.YtlhcilmnfmglfaaDoor

namespace Go.Proofs.YtlhcilmnfmglfaaDoor
open Go.RowKit Go.Sort
theorem mulUpto_next {ts : List Int} {k : Nat} (h : k < ts.length) : mulUpto ts (k + 1) = mulUpto ts k ++ mulIns k ts[k] := by
  rw [← getD_of h]; rfl
theorem turnL_bd (sh : Bool) {b f : Int} (hb : 2 ≤ b) (hb2 : b ≤ 16) (h0 : 0 ≤ f) (h1 : f ≤ 62500000) : (turnL sh b f).length ≤ 30 ∧ ∀ d ∈ turnL sh b f, -16 ≤ d ∧ d ≤ 16 :=
  ⟨turnF_len sh b 30 f, fun d hd => by have := turnF_bd sh hb 30 f h0 (Int.le_trans h1 (by decide)) d hd; omega⟩
end Go.Proofs.YtlhcilmnfmglfaaDoor

namespace Go.Proofs.YtlhcilmnfmglfaaDoor
open Go.RowKit Go.Sort
end Go.Proofs.YtlhcilmnfmglfaaDoor

namespace Go.Proofs.YtlhcilmnfmglfaaDoor
open Go.RowKit Go.Sort
/-- the program that adds values -/
def inV (vs : List Int) : Bool := vs.all (fun v => betB v 0 1000000000000)
theorem inV_take_succ {vs : List Int} {k : Nat} (h : k < vs.length) : inV (vs.take (k + 1)) = (inV (vs.take k) && betB vs[k] 0 1000000000000) := by
  unfold inV; rw [List.take_succ_eq_append_getElem h, List.all_append]; simp only [List.all_cons, List.all_nil, Bool.and_true]
theorem inV_not {vs : List Int} {k : Nat} (h : k < vs.length) (h1 : betB vs[k] 0 1000000000000 = false) : inV vs = false := by
  simp only [inV, List.all_eq_false]; exact ⟨vs[k], List.getElem_mem _, by simp [h1]⟩
def sumL (vs : List Int) : List Ins := ⟨6, 0⟩ :: vs.flatMap (fun v => [⟨1, v⟩, ⟨2, 1⟩])
theorem sumL_step {vs : List Int} {k : Nat} (h : k < vs.length) : sumL (vs.take (k + 1)) = sumL (vs.take k) ++ [⟨1, vs[k]⟩, ⟨2, 1⟩] := by
  unfold sumL; rw [List.take_succ_eq_append_getElem h, List.flatMap_append]; rfl
theorem sumL_len (vs : List Int) : (sumL vs).length = 1 + 2 * vs.length := by
  unfold sumL
  induction vs with
  | nil => rfl
  | cons v vs ih => simp only [List.flatMap_cons, List.length_cons, List.length_append, List.length_nil] at ih ⊢; omega
def spC (vs : List Int) : Int := if inV vs = false then 2 else if 120 < 2 * (vs.length : Int) + 1 then 5 else 0
def spL (vs : List Int) : List Ins := if spC vs = 0 then sumL vs else []
theorem sp_bad {vs : List Int} {c : Int} (h : spC vs = c) (hc : ¬ c = 0) : spC vs = c ∧ spL vs = [] := ⟨h, by unfold spL; rw [h, if_neg hc]⟩
theorem sp_fine {vs : List Int} (h : spC vs = 0) : spC vs = 0 ∧ spL vs = sumL vs := ⟨h, by unfold spL; rw [h, if_pos rfl]⟩
end Go.Proofs.YtlhcilmnfmglfaaDoor

namespace Go.Proofs.YtlhcilmnfmglfaaDoor
open Go.RowKit Go.Sort
/-- a machine, a number, a code -/
def MSRet (M : Tri) (n c : Int) (w : World) (e : Ending) (w' : World) : Prop := ∃ A1 c1 A2 c2 A3 c3, e = .returned (.tuple #[.agg #[.int .i64 M.a.base, .slice A1 M.a.digits.length c1, .int .i64 M.b.base, .slice A2 M.b.digits.length c2, .int .i64 M.s.base, .slice A3 M.s.digits.length c3, .int .i64 M.carry], .int .i64 n, .int .i64 c]) ∧
  Kn w [rowI A3 c3 M.s.digits, rowI A2 c2 M.b.digits, rowI A1 c1 M.a.digits] w'
theorem MSRet.bad {w w' : World} {c : Int} (h : Kn w [] w') : MSRet zTri 0 c w (.returned (.tuple #[.agg #[.int .i64 0, .slice none 0 0, .int .i64 0, .slice none 0 0, .int .i64 0, .slice none 0 0, .int .i64 0], .int .i64 0, .int .i64 c])) w' :=
  ⟨none, 0, none, 0, none, 0, rfl, ((h.nilRow _ _).nilRow _ _).nilRow _ _⟩
noncomputable def soC (t : Tri) (vs : List Int) : Int := if vmach t = false then 1 else if spC vs = 0 then rpC (sumL vs) (clrT t) else spC vs
noncomputable def soM (t : Tri) (vs : List Int) : Tri := if vmach t = true ∧ spC vs = 0 then rpM (sumL vs) (clrT t) else zTri
noncomputable def soN (t : Tri) (vs : List Int) : Int := if vmach t = true ∧ spC vs = 0 then ((rpT (sumL vs) (clrT t)).length : Int) else 0
def SORet (t : Tri) (vs : List Int) (w : World) (e : Ending) (w' : World) : Prop := MSRet (soM t vs) (soN t vs) (soC t vs) w e w'
theorem so_bad {t : Tri} {vs : List Int} (h : vmach t = false) : soM t vs = zTri ∧ soN t vs = 0 ∧ soC t vs = 1 := by
  refine ⟨?_, ?_, ?_⟩
  · unfold soM; rw [if_neg (fun hh => by rw [h] at hh; exact absurd hh.1 (by decide))]
  · unfold soN; rw [if_neg (fun hh => by rw [h] at hh; exact absurd hh.1 (by decide))]
  · unfold soC; rw [if_pos h]
theorem so_bad2 {t : Tri} {vs : List Int} (h : vmach t = true) (h2 : ¬ spC vs = 0) : soM t vs = zTri ∧ soN t vs = 0 ∧ soC t vs = spC vs := by
  refine ⟨?_, ?_, ?_⟩
  · unfold soM; rw [if_neg (fun hh => h2 hh.2)]
  · unfold soN; rw [if_neg (fun hh => h2 hh.2)]
  · unfold soC; rw [if_neg (by rw [h]; decide), if_neg h2]
theorem so_fine {t : Tri} {vs : List Int} (h : vmach t = true) (h2 : spC vs = 0) : soM t vs = rpM (sumL vs) (clrT t) ∧ soN t vs = ((rpT (sumL vs) (clrT t)).length : Int) ∧ soC t vs = rpC (sumL vs) (clrT t) := by
  refine ⟨?_, ?_, ?_⟩
  · unfold soM; rw [if_pos ⟨h, h2⟩]
  · unfold soN; rw [if_pos ⟨h, h2⟩]
  · unfold soC; rw [if_neg (by rw [h]; decide), if_pos h2]
theorem soM_len (t : Tri) (vs : List Int) : (soM t vs).a.digits.length ≤ 16 ∧ (soM t vs).b.digits.length ≤ 16 ∧ (soM t vs).s.digits.length ≤ 16 := by
  unfold soM
  split
  · exact rpM_len _ _
  · exact ⟨by decide, by decide, by decide⟩
end Go.Proofs.YtlhcilmnfmglfaaDoor

namespace Go.Proofs.YtlhcilmnfmglfaaDoor
open Go.RowKit Go.Sort
noncomputable def moE (t : Tri) (x f : Int) (sh : Bool) : RS := endR (mulP (turnL sh t.a.base f)) (dvStart t 0 x)
def moC (t : Tri) (x f : Int) (sh : Bool) : Int :=
  if vmach t = false then 1 else if trnC t.a.base f = 2 then 2 else if betB x 0 (pw t.a.base t.a.digits.length - 1) = false then 2 else if vplaces t < ((turnL sh t.a.base f).length : Int) ∨ pw t.b.base t.b.digits.length - 1 < x * f then 5 else 0
noncomputable def moM (t : Tri) (x f : Int) (sh : Bool) : Tri := if moC t x f sh = 0 ∧ vmach (moE t x f sh).m = true then (moE t x f sh).m else zTri
noncomputable def moN (t : Tri) (x f : Int) (sh : Bool) : Int := if moC t x f sh = 0 then ((moE t x f sh).tr.length : Int) else 0
def MORet (t : Tri) (x f : Int) (sh : Bool) (w : World) (e : Ending) (w' : World) : Prop := MSRet (moM t x f sh) (moN t x f sh) (moC t x f sh) w e w'
theorem mo_code {t : Tri} {x f c : Int} {sh : Bool} (h : moC t x f sh = c) (hc : ¬ c = 0) : moM t x f sh = zTri ∧ moN t x f sh = 0 ∧ moC t x f sh = c := by
  refine ⟨?_, ?_, h⟩
  · unfold moM; rw [h, if_neg (fun h => hc h.1)]
  · unfold moN; rw [h, if_neg hc]
theorem mo_fine {t : Tri} {x f : Int} {sh : Bool} (h : moC t x f sh = 0) {s : RS} {b : Bool} (he : Ev (mulP (turnL sh t.a.base f)) (.run 0 (mulP (turnL sh t.a.base f)).length) (startR (dvStart t 0 x)) s b) (hg : s.Good) :
    moM t x f sh = s.m ∧ moN t x f sh = (s.tr.length : Int) ∧ moC t x f sh = 0 := by
  have h1 : moE t x f sh = s := endR_eq he
  refine ⟨?_, ?_, h⟩
  · unfold moM; rw [h, h1, if_pos ⟨rfl, hg.m⟩]
  · unfold moN; rw [h, h1, if_pos rfl]
theorem moM_len (t : Tri) (x f : Int) (sh : Bool) : (moM t x f sh).a.digits.length ≤ 16 ∧ (moM t x f sh).b.digits.length ≤ 16 ∧ (moM t x f sh).s.digits.length ≤ 16 := by
  unfold moM
  split
  · rename_i h
    have := sized_of h.2
    exact ⟨this.a, this.b, this.s⟩
  · exact ⟨by decide, by decide, by decide⟩
theorem moStart_ok {t : Tri} {x : Int} (hv : vmach t = true) (hx : betB x 0 (pw t.a.base t.a.digits.length - 1) = true) : vmach (dvStart t 0 x) = true := by
  obtain ⟨k1, k2, k3, e1, e2, f1, f2, l1, p0, p1⟩ := vmach_all hv
  obtain ⟨⟨b1, b2⟩, ⟨n1, n2⟩, -⟩ := vreg_iff.1 k1
  obtain ⟨⟨b3, b4⟩, ⟨n3, n4⟩, -⟩ := vreg_iff.1 k2
  have hx' := betB_iff.1 hx
  have hm := pw_mono t.a.base (by omega) _ _ l1
  have hp := pw_pos t.b.base b3 t.b.digits.length
  have f1' := f1
  rw [← e1] at f1
  refine vmach_mk (t := dvStart t 0 x) (digD_vreg _ b1 b2 _ (by omega) (by omega) x (by omega) (by omega) (by omega)) (digD_vreg _ b3 b4 _ (by omega) (by omega) 0 (by omega) (by omega) (by omega)) (zero_ok k3) e1 e2 ?_ ?_ ?_ (by simp [dvStart]) ?_
  · simp only [dvStart, digD_len]; exact f1'
  · simp only [dvStart, digD_len]; exact f2
  · simp only [dvStart, digD_len]; exact l1
  · simp only [dvStart, vplaces, digD_len]; unfold vplaces at p1; omega
/-- how many instructions shift to the right -/
def cntR : List Ins → Nat
  | [] => 0
  | x :: xs => (if x.op = 4 then 1 else 0) + cntR xs
theorem cntR_app (xs ys : List Ins) : cntR (xs ++ ys) = cntR xs + cntR ys := by
  induction xs with
  | nil => simp [cntR]
  | cons x xs ih => simp only [List.cons_append, cntR, ih]; omega
theorem cntR_take {xs : List Ins} {k : Nat} (h : k < xs.length) : cntR (xs.take (k + 1)) = cntR (xs.take k) + (if xs[k].op = 4 then 1 else 0) := by
  rw [List.take_succ_eq_append_getElem h, cntR_app]; rfl
theorem cntR_le (xs : List Ins) : cntR xs ≤ xs.length := by
  induction xs with
  | nil => simp [cntR]
  | cons x xs ih => simp only [cntR, List.length_cons]; split <;> omega
theorem cntR_ins (k : Nat) (n : Int) : cntR (mulIns k n) = if 0 < k then 1 else 0 := by
  unfold mulIns
  rw [cntR_app]
  have h2 : cntR (if 0 < n then [⟨2, n⟩] else if n < 0 then [⟨3, -n⟩] else []) = 0 := by
    split
    · rfl
    · split <;> rfl
  rw [h2]
  split <;> rfl
theorem cntR_upto (ts : List Int) (k : Nat) : cntR (mulUpto ts k) = k - 1 := by
  induction k with
  | zero => rfl
  | succ k ih =>
    unfold mulUpto
    rw [cntR_app, ih, cntR_ins]
    split <;> omega
theorem cntR_mul (sh : Bool) (b f : Int) (_h0 : 0 ≤ f) : (if 0 < f then 1 else 0) + cntR (mulP (turnL sh b f)) = (turnL sh b f).length := by
  unfold mulP
  rw [cntR_upto]
  by_cases h : 0 < f
  · have : turnL sh b f = turnD sh b f :: turnF sh b 29 (turnN sh b f) := turnF_succ h
    rw [if_pos h, this, List.length_cons]
    omega
  · have : turnL sh b f = [] := turnF_zero h
    rw [if_neg h, this]
    rfl
theorem div_less {X x y : Int} (hX : 0 ≤ X) (hy : 0 < y) : X.tdiv y < x ↔ X < x * y := by
  rw [Int.tdiv_eq_ediv_of_nonneg hX]
  exact Int.ediv_lt_iff_lt_mul hy
end Go.Proofs.YtlhcilmnfmglfaaDoor

namespace Go.Proofs.YtlhcilmnfmglfaaDoor
open Go.RowKit Go.Sort
/-! the multiplication, plainly: what the program of turns leaves -/
/-- the value of turns -/
def tvL (b : Int) : List Int → Int
  | [] => 0
  | d :: ts => d + b * tvL b ts
theorem turnF_val {sh : Bool} {b : Int} (hb : 2 ≤ b) : ∀ (g : Nat) (n : Int), 0 ≤ n → n ≤ fb g → tvL b (turnF sh b g n) = n
  | 0, n, h0, hg => by
    have : n = 0 := by have : n ≤ 0 := hg; omega
    subst this; rfl
  | g + 1, n, h0, hg => by
    by_cases h : 0 < n
    · have hs := turn_step (sh := sh) hb h hg
      obtain ⟨q1, q2, q3, q4⟩ := tdm hb h0
      rw [turnF_succ h, tvL, turnF_val hb g _ hs.1 hs.2.2]
      unfold turnD turnN
      split
      · rw [Int.mul_add]; omega
      · omega
    · rw [turnF_zero h]
      show (0 : Int) = n
      omega
theorem turnL_val (sh : Bool) {b f : Int} (hb : 2 ≤ b) (h0 : 0 ≤ f) (h1 : f ≤ 62500000) : tvL b (turnL sh b f) = f :=
  turnF_val hb 30 f h0 (Int.le_trans h1 (by decide))
theorem turn_str {L : List Ins} {b : Int} {n1 n2 n3 : Nat} {y : Int} (h : DvOk b n1 n2 n3 y) {c u : Int} (hu : pw b c.toNat = u) (kind sign : Int) (hk : ∀ t, strokeT kind t = turnT t sign) :
    ∀ (n : Nat) (R N : Int) (tr : List Int) (dn : Nat), 0 ≤ R → R < pw b n2 → 0 ≤ N → N < pw b n3 → dn + n ≤ 3000 →
      ∃ tr' b', Ev L (.str kind n) ⟨mchV b n1 n2 n3 y R N c, tr, dn, 0⟩ ⟨mchV b n1 n2 n3 y ((R + sign * n * (y * u)) % pw b n2) ((N + sign * n * u) % pw b n3) c, tr', dn + n, 0⟩ b'
  | 0, R, N, tr, dn, h0, h1, h2, h3, _ => by
    have e1 : (R + sign * ((0 : Nat) : Int) * (y * u)) % pw b n2 = R := by
      rw [show R + sign * ((0 : Nat) : Int) * (y * u) = R by simp]; exact Int.emod_eq_of_lt h0 h1
    have e2 : (N + sign * ((0 : Nat) : Int) * u) % pw b n3 = N := by
      rw [show N + sign * ((0 : Nat) : Int) * u = N by simp]; exact Int.emod_eq_of_lt h2 h3
    rw [e1, e2]
    exact ⟨tr, false, Ev.s0⟩
  | n + 1, R, N, tr, dn, h0, h1, h2, h3, h4 => by
    have q1 := pw_pos b h.b2 n2
    have q2 := pw_pos b h.b2 n3
    have ht := turn_mch h (R := R) (N := N) ⟨h0, h1⟩ ⟨h2, h3⟩ sign u hu
    obtain ⟨tr', b', hev⟩ := turn_str (L := L) h hu kind sign hk n ((R + sign * (y * u)) % pw b n2) ((N + sign * u) % pw b n3) (tr ++ [kind]) (dn + 1) (Int.emod_nonneg _ (by omega)) (Int.emod_lt_of_pos _ (by omega)) (Int.emod_nonneg _ (by omega)) (Int.emod_lt_of_pos _ (by omega)) (by omega)
    have e1 : ((R + sign * (y * u)) % pw b n2 + sign * (n : Int) * (y * u)) % pw b n2 = (R + sign * ((n + 1 : Nat) : Int) * (y * u)) % pw b n2 := by
      rw [Int.emod_add_emod, Int.natCast_succ, Int.mul_add, Int.mul_one, Int.add_mul]
      congr 1; omega
    have e2 : ((N + sign * u) % pw b n3 + sign * (n : Int) * u) % pw b n3 = (N + sign * ((n + 1 : Nat) : Int) * u) % pw b n3 := by
      rw [Int.emod_add_emod, Int.natCast_succ, Int.mul_add, Int.mul_one, Int.add_mul]
      congr 1; omega
    rw [e1, e2, show dn + 1 + n = dn + (n + 1) by omega] at hev
    have hst : (strokeT kind (mchV b n1 n2 n3 y R N c)).1 = mchV b n1 n2 n3 y ((R + sign * (y * u)) % pw b n2) ((N + sign * u) % pw b n3) c := by rw [hk, ht]
    exact ⟨tr', _, Ev.sStep (by show ¬ dn = 3000; omega) (by rw [hst]; exact hev)⟩
theorem run_str {L : List Ins} {i : Nat} {x : Ins} (hx : L[i]? = some x) (ho : opens x.op = false) (h1 : ¬ x.op = 1) {s s1 s' : RS} {b1 b : Bool} (hc : s.code = 0) (hs : Ev L (.str (x.op - 1) (max 1 x.arg).toNat) s s1 b1) (he : Ev L (.run (i + 1) L.length) s1 s' b) : ∃ b2, Ev L (.run i L.length) s s' b2 := by
  obtain ⟨hl, rfl⟩ := List.getElem?_eq_some_iff.1 hx
  exact ⟨_, Ev.rStr hl hl hc ho h1 hs he⟩
theorem mulUpto_pre (ts : List Int) (k : Nat) : ∀ d, ∃ r, mulUpto ts (k + d) = mulUpto ts k ++ r
  | 0 => ⟨[], by simp⟩
  | d + 1 => by
    obtain ⟨r, hr⟩ := mulUpto_pre ts k d
    refine ⟨r ++ mulIns (k + d) (ts.getD (k + d) 0), ?_⟩
    show mulUpto ts (k + d) ++ _ = _
    rw [hr, List.append_assoc]
    rfl
theorem mul_get {ts : List Int} {k : Nat} (hk : k < ts.length) : ∃ r, mulP ts = mulUpto ts k ++ (mulIns k (ts.getD k 0) ++ r) := by
  obtain ⟨r, hr⟩ := mulUpto_pre ts (k + 1) (ts.length - (k + 1))
  refine ⟨r, ?_⟩
  unfold mulP
  rw [show ts.length = k + 1 + (ts.length - (k + 1)) by omega, hr]
  show (mulUpto ts k ++ mulIns k (ts.getD k 0)) ++ r = _
  rw [List.append_assoc]
/-- the turns at a place -/
theorem mul_turns {L A r : List Ins} {d : Int} (hL : L = A ++ ((if 0 < d then [⟨2, d⟩] else if d < 0 then [⟨3, -d⟩] else []) ++ r)) (hd : -16 ≤ d ∧ d ≤ 16)
    {b : Int} {n1 n2 n3 : Nat} {y : Int} (h : DvOk b n1 n2 n3 y) {c u : Int} (hu : pw b c.toNat = u) {R N : Int} {tr : List Int} {dn : Nat} (h0 : 0 ≤ R) (h1 : R < pw b n2) (h2 : 0 ≤ N) (h3 : N < pw b n3) (h4 : dn + 16 ≤ 3000) :
    ∃ tr' dn', dn' ≤ dn + 16 ∧ ∀ (s' : RS) (b' : Bool), Ev L (.run (A ++ (if 0 < d then [⟨2, d⟩] else if d < 0 then [⟨3, -d⟩] else [] : List Ins)).length L.length) ⟨mchV b n1 n2 n3 y ((R + d * (y * u)) % pw b n2) ((N + d * u) % pw b n3) c, tr', dn', 0⟩ s' b' →
      ∃ b'', Ev L (.run A.length L.length) ⟨mchV b n1 n2 n3 y R N c, tr, dn, 0⟩ s' b'' := by
  by_cases hp : 0 < d
  · rw [if_pos hp] at hL ⊢
    obtain ⟨n, rfl⟩ : ∃ n : Nat, d = n := ⟨d.toNat, by omega⟩
    obtain ⟨tr', b1, hev⟩ := turn_str (L := L) h hu 1 1 (fun t => rfl) n R N tr dn h0 h1 h2 h3 (by omega)
    rw [Int.one_mul] at hev
    refine ⟨tr', dn + n, by omega, fun s' b' he => ?_⟩
    have hx : L[A.length]? = some ⟨2, (n : Int)⟩ := by rw [hL]; simp
    refine run_str (b1 := b1) hx rfl (by show ¬ (2 : Int) = 1; decide) rfl ?_ (by simpa using he)
    rw [show (max 1 (⟨2, (n : Int)⟩ : Ins).arg).toNat = n by show (max (1 : Int) n).toNat = n; omega]
    exact hev
  · rw [if_neg hp] at hL ⊢
    by_cases hn : d < 0
    · rw [if_pos hn] at hL ⊢
      obtain ⟨n, hdn⟩ : ∃ n : Nat, -d = n := ⟨(-d).toNat, by omega⟩
      obtain ⟨tr', b1, hev⟩ := turn_str (L := L) h hu 2 (-1) (fun t => rfl) n R N tr dn h0 h1 h2 h3 (by omega)
      rw [show -1 * (n : Int) = d by omega] at hev
      refine ⟨tr', dn + n, by omega, fun s' b' he => ?_⟩
      have hx : L[A.length]? = some ⟨3, -d⟩ := by rw [hL]; simp
      refine run_str (b1 := b1) hx rfl (by show ¬ (3 : Int) = 1; decide) rfl ?_ (by simpa using he)
      rw [show (max 1 (⟨3, -d⟩ : Ins).arg).toNat = n by show (max (1 : Int) (-d)).toNat = n; omega]
      exact hev
    · rw [if_neg hn] at hL ⊢
      obtain rfl : d = 0 := by omega
      refine ⟨tr, dn, by omega, fun s' b' he => ⟨b', ?_⟩⟩
      rw [Int.zero_mul, Int.zero_mul, Int.add_zero, Int.add_zero, Int.emod_eq_of_lt h0 h1, Int.emod_eq_of_lt h2 h3] at he
      simpa using he
theorem mul_parts {ts : List Int} {b : Int} {n1 n2 n3 : Nat} {y : Int} (h : DvOk b n1 n2 n3 y) {p : Int} (hpl : ∀ R N c, vplaces (mchV b n1 n2 n3 y R N c) = p) (hp : (ts.length : Int) ≤ p) (hp1 : 1 ≤ p) (hd : ∀ d ∈ ts, -16 ≤ d ∧ d ≤ 16) :
    ∀ (r k : Nat) (R N : Int) (tr : List Int) (dn : Nat), k + r = ts.length → 0 ≤ R → R < pw b n2 → 0 ≤ N → N < pw b n3 → dn + 17 * r ≤ 3000 →
      ∃ (s' : RS) (b' : Bool) (c' : Int), Ev (mulP ts) (.run (mulUpto ts k).length (mulP ts).length) ⟨mchV b n1 n2 n3 y R N ((k - 1 : Nat) : Int), tr, dn, 0⟩ s' b' ∧ s'.code = 0 ∧ s'.m = mchV b n1 n2 n3 y ((R + y * (pw b k * tvL b (ts.drop k))) % pw b n2) ((N + pw b k * tvL b (ts.drop k)) % pw b n3) c' ∧ 0 ≤ c' ∧ c' < p
  | 0, k, R, N, tr, dn, hk, h0, h1, h2, h3, h4 => by
    obtain rfl : k = ts.length := by omega
    refine ⟨_, _, ((ts.length - 1 : Nat) : Int), Ev.rEnd (by unfold mulP; omega), rfl, ?_, by omega, by omega⟩
    rw [List.drop_length]
    show mchV b n1 n2 n3 y R N _ = mchV b n1 n2 n3 y ((R + y * (pw b ts.length * 0)) % pw b n2) ((N + pw b ts.length * 0) % pw b n3) _
    rw [Int.mul_zero, Int.mul_zero, Int.add_zero, Int.add_zero, Int.emod_eq_of_lt h0 h1, Int.emod_eq_of_lt h2 h3]
  | r + 1, k, R, N, tr, dn, hk, h0, h1, h2, h3, h4 => by
    have hkl : k < ts.length := by omega
    obtain ⟨rest, hL⟩ := mul_get hkl
    have q1 := pw_pos b h.b2 n2
    have q2 := pw_pos b h.b2 n3
    have hgd : ts.getD k 0 = ts[k] := by rw [List.getD_eq_getElem?_getD, List.getElem?_eq_getElem hkl]; rfl
    have hdk := hd _ (List.getElem_mem hkl)
    have hdrop : ts.drop k = ts[k] :: ts.drop (k + 1) := List.drop_eq_getElem_cons hkl
    obtain ⟨d, hdd⟩ : ∃ d, ts[k] = d := ⟨_, rfl⟩
    rw [hdd] at hgd hdk hdrop
    rw [hgd] at hL
    have hsucc : mulUpto ts (k + 1) = mulUpto ts k ++ mulIns k d := by show mulUpto ts k ++ mulIns k (ts.getD k 0) = _; rw [hgd]
    obtain ⟨u, hu⟩ : ∃ u, pw b k = u := ⟨_, rfl⟩
    have hfin : ∀ (tr1 : List Int) (dn1 : Nat), dn1 ≤ dn + 17 → ∃ (s' : RS) (b' : Bool) (c' : Int), Ev (mulP ts) (.run (mulUpto ts (k + 1)).length (mulP ts).length) ⟨mchV b n1 n2 n3 y ((R + d * (y * u)) % pw b n2) ((N + d * u) % pw b n3) (k : Int), tr1, dn1, 0⟩ s' b' ∧ s'.code = 0 ∧ s'.m = mchV b n1 n2 n3 y ((R + y * (pw b k * tvL b (ts.drop k))) % pw b n2) ((N + pw b k * tvL b (ts.drop k)) % pw b n3) c' ∧ 0 ≤ c' ∧ c' < p := by
      intro tr1 dn1 hdn1
      obtain ⟨s', b', c', hev, hc, hm, hc0, hc1⟩ := mul_parts h hpl hp hp1 hd r (k + 1) ((R + d * (y * u)) % pw b n2) ((N + d * u) % pw b n3) tr1 dn1 (by omega) (Int.emod_nonneg _ (by omega)) (Int.emod_lt_of_pos _ (by omega)) (Int.emod_nonneg _ (by omega)) (Int.emod_lt_of_pos _ (by omega)) (by omega)
      refine ⟨s', b', c', hev, hc, ?_, hc0, hc1⟩
      rw [hm, hdrop, tvL, pw_succ, hu, Int.emod_add_emod, Int.emod_add_emod]
      obtain ⟨v, hv⟩ : ∃ v, tvL b (ts.drop (k + 1)) = v := ⟨_, rfl⟩
      rw [hv]
      have e1 : d * (y * u) = y * (u * d) := by rw [Int.mul_comm d, Int.mul_assoc]
      have e2 : d * u = u * d := Int.mul_comm _ _
      have e3 : u * b * v = u * (b * v) := Int.mul_assoc _ _ _
      rw [e1, e2, e3, Int.mul_add, Int.mul_add, Int.add_assoc, Int.add_assoc]
    rcases Nat.eq_zero_or_pos k with hk0 | hk0
    · subst hk0
      have hi : mulIns 0 d = (if 0 < d then [⟨2, d⟩] else if d < 0 then [⟨3, -d⟩] else []) := rfl
      rw [hi] at hL
      obtain ⟨tr', dn', hdn, hgo⟩ := mul_turns (L := mulP ts) (A := mulUpto ts 0) hL hdk h (c := 0) (u := u) (by rw [← hu]; rfl) (R := R) (N := N) (tr := tr) (dn := dn) h0 h1 h2 h3 (by omega)
      obtain ⟨s', b', c', hev, hrest⟩ := hfin tr' dn' (by omega)
      rw [hsucc, hi] at hev
      obtain ⟨b'', hev2⟩ := hgo s' b' hev
      exact ⟨s', b'', c', hev2, hrest⟩
    · have hi : mulIns k d = [⟨4, 1⟩] ++ (if 0 < d then [⟨2, d⟩] else if d < 0 then [⟨3, -d⟩] else []) := by unfold mulIns; rw [if_pos hk0]
      have hL2 : mulP ts = (mulUpto ts k ++ [⟨4, 1⟩]) ++ ((if 0 < d then [⟨2, d⟩] else if d < 0 then [⟨3, -d⟩] else []) ++ rest) := by
        rw [hL, hi]; simp only [List.append_assoc]
      obtain ⟨tr', dn', hdn, hgo⟩ := mul_turns (L := mulP ts) (A := mulUpto ts k ++ [⟨4, 1⟩]) hL2 hdk h (c := (k : Int)) (u := u) (by rw [Int.toNat_natCast]; exact hu) (R := R) (N := N) (tr := tr ++ [3]) (dn := dn + 1) h0 h1 h2 h3 (by omega)
      obtain ⟨s', b', c', hev, hrest⟩ := hfin tr' dn' (by omega)
      rw [hsucc, hi, ← List.append_assoc] at hev
      obtain ⟨b'', hev2⟩ := hgo s' b' hev
      obtain ⟨tr3, hr⟩ := right_str (L := mulP ts) (R := R) (N := N) (fun c => hpl R N c) 1 ((k - 1 : Nat) : Int) tr dn (by omega) (by omega) (by omega)
      have htr : tr3 = tr ++ [3] := by
        have : Ev (mulP ts) (.str 3 1) ⟨mchV b n1 n2 n3 y R N ((k - 1 : Nat) : Int), tr, dn, 0⟩ ⟨(strokeT 3 (mchV b n1 n2 n3 y R N ((k - 1 : Nat) : Int))).1, tr ++ [3], dn + 1, 0⟩ ((strokeT 3 (mchV b n1 n2 n3 y R N ((k - 1 : Nat) : Int))).2 || false) := Ev.sStep (by show ¬ dn = 3000; omega) Ev.s0
        have := (hr.one this).1
        exact congrArg RS.tr this
      rw [htr, show ((k - 1 : Nat) : Int) + ((1 : Nat) : Int) = (k : Int) by omega] at hr
      have hx : (mulP ts)[(mulUpto ts k).length]? = some ⟨4, 1⟩ := by rw [hL2]; simp
      obtain ⟨b3, hev3⟩ := run_str hx rfl (by decide) (s := ⟨mchV b n1 n2 n3 y R N ((k - 1 : Nat) : Int), tr, dn, 0⟩) rfl hr (by simpa using hev2)
      exact ⟨s', b3, c', hev3, hrest⟩
/-- the product -/
theorem mo_law {t : Tri} {x f : Int} {sh : Bool} (h : moC t x f sh = 0) : vmach (moM t x f sh) = true ∧ valL (moM t x f sh).b.base (moM t x f sh).b.digits = x * f ∧ 0 ≤ x * f ∧ x * f ≤ 1000000000001 := by
  have hv : vmach t = true := by
    cases hv : vmach t with
    | true => rfl
    | false => unfold moC at h; rw [if_pos hv] at h; simp at h
  obtain ⟨k1, k2, k3, e1, e2, f1, f2, l1, c0, c1⟩ := vmach_all hv
  obtain ⟨⟨b1, b2⟩, ⟨n1, n2⟩, -⟩ := vreg_iff.1 k1
  obtain ⟨⟨b3, b4⟩, ⟨n3, n4⟩, -⟩ := vreg_iff.1 k2
  obtain ⟨⟨b5, b6⟩, ⟨n5, n6⟩, -⟩ := vreg_iff.1 k3
  obtain ⟨v1, v2, v3, v4, v5⟩ := vplaces_bd hv
  have hc : trnC t.a.base f = 0 := by
    rcases trnC_cases t.a.base f with hc | hc
    · unfold moC at h; rw [if_neg (by rw [hv]; decide), if_pos hc] at h; cases h
    · exact hc.1
  obtain ⟨-, -, g0, g1⟩ := (trnC_cases t.a.base f).elim (fun h => absurd (h.symm.trans hc) (by decide)) (fun h => h.2)
  have hx : betB x 0 (pw t.a.base t.a.digits.length - 1) = true := by
    cases hb : betB x 0 (pw t.a.base t.a.digits.length - 1) with
    | true => rfl
    | false => unfold moC at h; rw [if_neg (by rw [hv]; decide), if_neg (by rw [hc]; decide), if_pos hb] at h; cases h
  have hq : ¬ (vplaces t < ((turnL sh t.a.base f).length : Int) ∨ pw t.b.base t.b.digits.length - 1 < x * f) := fun hh => by
    unfold moC at h; rw [if_neg (by rw [hv]; decide), if_neg (by rw [hc]; decide), if_neg (by rw [hx]; decide), if_pos hh] at h; cases h
  obtain ⟨x0, x1⟩ := betB_iff.1 hx
  have hm := pw_mono t.a.base (by omega) _ _ l1
  rw [← e1] at f1 hq
  have e3 : t.s.base = t.a.base := e2.trans e1.symm
  rw [e3] at f2
  have hok : DvOk t.a.base t.a.digits.length t.b.digits.length t.s.digits.length x := ⟨b1, by omega, by omega, by omega, f1, f2⟩
  obtain ⟨hl, hd⟩ := turnL_bd sh b1 b2 g0 g1
  have hpl : ∀ R N c, vplaces (mchV t.a.base t.a.digits.length t.b.digits.length t.s.digits.length x R N c) = vplaces t := fun R N c => by simp [vplaces, mchV, digD_len]
  have q1 := pw_pos t.a.base b1 t.b.digits.length
  have q2 := pw_pos t.a.base b1 t.s.digits.length
  obtain ⟨s', b', c', hev, hcode, hmm, hc0, hc1⟩ := mul_parts (ts := turnL sh t.a.base f) hok hpl (by omega) (by omega) hd (turnL sh t.a.base f).length 0 0 0 [] 0 (by omega) (by omega) (by omega) (by omega) (by omega) (by omega)
  have hxf : 0 ≤ x * f := Int.mul_nonneg x0 g0
  have hstart : dvStart t 0 x = mchV t.a.base t.a.digits.length t.b.digits.length t.s.digits.length x 0 0 0 := by
    unfold dvStart mchV; rw [← e1, e3]
  have hE : moE t x f sh = s' := by
    unfold moE
    refine endR_eq (b' := b') ?_
    rw [hstart]
    exact hev
  rw [List.drop_zero, turnL_val sh b1 g0 g1, show pw t.a.base 0 = 1 from rfl, Int.one_mul, Int.zero_add, Int.zero_add, Int.emod_eq_of_lt hxf (by omega)] at hmm
  have hn0 := Int.emod_nonneg f (show pw t.a.base t.s.digits.length ≠ 0 by omega)
  have hn1 := Int.emod_lt_of_pos f (show 0 < pw t.a.base t.s.digits.length by omega)
  have hvm : vmach s'.m = true := by
    rw [hmm]
    refine vmach_mk (t := mchV t.a.base t.a.digits.length t.b.digits.length t.s.digits.length x (x * f) (f % pw t.a.base t.s.digits.length) c') (digD_vreg _ b1 b2 _ (by omega) (by omega) x (by omega) (by omega) (by omega)) (digD_vreg _ b1 b2 _ (by omega) (by omega) _ hxf (by omega) (by omega)) (digD_vreg _ b1 b2 _ (by omega) (by omega) _ hn0 hn1 (by omega)) rfl rfl ?_ ?_ ?_ hc0 ?_
    · simp only [mchV, digD_len]; exact f1
    · simp only [mchV, digD_len]; exact f2
    · simp only [mchV, digD_len]; exact l1
    · rw [hpl]; show c' ≤ vplaces t - 1; omega
  have hM : moM t x f sh = s'.m := by unfold moM; rw [hE, if_pos ⟨h, hvm⟩]
  rw [hM]
  refine ⟨hvm, ?_, hxf, by omega⟩
  rw [hmm]
  exact valL_dig b1 f1 hxf (show x * f < pw t.a.base t.b.digits.length by omega)
end Go.Proofs.YtlhcilmnfmglfaaDoor

namespace Go.Proofs.YtlhcilmnfmglfaaDoor
open Go.RowKit Go.Sort
/-! turns as strokes, plainly -/
def digStr (d : Int) : List Int := List.replicate d.natAbs (if d < 0 then 2 else 1)
/-- the strokes of the places below k, the highest one first -/
def strBody (ts : List Int) : Nat → List Int
  | 0 => []
  | k + 1 => digStr (ts.getD k 0) ++ ((if 0 < k then [4] else []) ++ strBody ts k)
def strOf (ts : List Int) : List Int := List.replicate (ts.length - 1) 3 ++ strBody ts ts.length
/-- what strokes do to the factor and the place, while all is small -/
def absStep (k : Int) (s : Int × Nat) : Option (Int × Nat) :=
  if k = 1 then (if s.1 + 10 ^ s.2 ≤ 9999 then some (s.1 + 10 ^ s.2, s.2) else none)
  else if k = 2 then (if 0 ≤ s.1 - 10 ^ s.2 then some (s.1 - 10 ^ s.2, s.2) else none)
  else if k = 3 then (if s.2 + 1 < 6 then some (s.1, s.2 + 1) else none)
  else if k = 4 then (if 0 < s.2 then some (s.1, s.2 - 1) else none)
  else none
def absRun : List Int → Int × Nat → Option (Int × Nat)
  | [], s => some s
  | k :: ks, s => (absStep k s).bind (absRun ks)
theorem abs_all : ∀ n : Fin 256, absRun (strOf (turnL true 10 (n.val : Int))) (0, 0) = some ((n.val : Int), 0) := by decide +kernel
theorem str_len : ∀ n : Fin 256, (strOf (turnL true 10 (n.val : Int))).length ≤ 100 := by decide +kernel
theorem str_kind : ∀ n : Fin 256, (strOf (turnL true 10 (n.val : Int))).all (fun k => decide (1 ≤ k ∧ k ≤ 6)) = true := by decide +kernel
/-- strokes, up to the first one at which the bell rings -/
def doS : List Int → Tri → Nat → Tri × Nat
  | [], t, n => (t, n)
  | k :: ks, t, n => if (strokeT k t).2 then ((strokeT k t).1, n + 1) else doS ks (strokeT k t).1 (n + 1)
theorem doS_ok : ∀ (ks : List Int) (t : Tri) (n : Nat), vmach t = true → vmach (doS ks t n).1 = true
  | [], t, n, h => h
  | k :: ks, t, n, h => by
    unfold doS
    split
    · exact strokeT_ok k h
    · exact doS_ok ks _ _ (strokeT_ok k h)
theorem doS_le : ∀ (ks : List Int) (t : Tri) (n : Nat), (doS ks t n).2 ≤ n + ks.length
  | [], t, n => Nat.le_refl _
  | k :: ks, t, n => by
    unfold doS
    split
    · simp only [List.length_cons]; omega
    · have := doS_le ks (strokeT k t).1 (n + 1)
      simp only [List.length_cons]; omega
theorem abs_do {y : Int} (h0 : 0 ≤ y) (h1 : y ≤ 255) : ∀ (ks : List Int) (A : Int) (c : Nat) (n : Nat) (A' : Int) (c' : Nat), 0 ≤ A → A ≤ 9999 → c < 6 → absRun ks (A, c) = some (A', c') →
    doS ks (mchV 10 3 9 6 y (y * A) A c) n = (mchV 10 3 9 6 y (y * A') A' c', n + ks.length) ∧ 0 ≤ A' ∧ A' ≤ 9999 ∧ c' < 6
  | [], A, c, n, A', c', a0, a1, hc, h => by
    simp only [absRun, Option.some.injEq, Prod.mk.injEq] at h
    obtain ⟨rfl, rfl⟩ := h
    exact ⟨rfl, a0, a1, hc⟩
  | k :: ks, A, c, n, A', c', a0, a1, hc, h => by
    have hok : DvOk 10 3 9 6 y := ⟨by decide, h0, by show y < 1000; omega, by decide, by decide, by decide⟩
    have hpw : ∀ c : Nat, pw 10 (c : Int).toNat = 10 ^ c := fun c => by
      rw [Int.toNat_natCast]
      induction c with
      | zero => rfl
      | succ c ih => rw [pw_succ, ih, Int.pow_succ]
    have hp2 : pw 10 9 = 1000000000 := by decide
    have hp3 : pw 10 6 = 1000000 := by decide
    have hyA : ∀ a : Int, 0 ≤ a → a ≤ 9999 → 0 ≤ y * a ∧ y * a ≤ 2549745 := fun a b1 b2 => by
      have := Int.mul_le_mul h1 b2 b1 (by omega)
      exact ⟨Int.mul_nonneg h0 b1, by omega⟩
    have hpl : ∀ R N c, vplaces (mchV 10 3 9 6 y R N c) = 6 := fun R N c => by simp [vplaces, mchV, digD_len]; decide
    have q := hyA A a0 a1
    have hturn : ∀ (sign a : Int), A + sign * 10 ^ c = a → 0 ≤ a → a ≤ 9999 → turnT (mchV 10 3 9 6 y (y * A) A c) sign = (mchV 10 3 9 6 y (y * a) a c, false) := fun sign a ha b0 b1 => by
      have q2 := hyA a b0 b1
      have e1 : y * A + sign * (y * 10 ^ c) = y * a := by rw [← ha, Int.mul_add, Int.mul_left_comm]
      rw [turn_mch hok (by rw [hp2]; omega) (by rw [hp3]; omega) sign _ (hpw c), e1, ha, hp2, hp3, Int.emod_eq_of_lt (by omega) (by omega), Int.emod_eq_of_lt (by omega) (by omega), decide_eq_false (by omega), decide_eq_false (by omega)]
      rfl
    have step : ∀ (a : Int) (d : Nat), strokeT k (mchV 10 3 9 6 y (y * A) A c) = (mchV 10 3 9 6 y (y * a) a d, false) → absStep k (A, c) = some (a, d) → 0 ≤ a → a ≤ 9999 → d < 6 →
        doS (k :: ks) (mchV 10 3 9 6 y (y * A) A c) n = (mchV 10 3 9 6 y (y * A') A' c', n + (k :: ks).length) ∧ 0 ≤ A' ∧ A' ≤ 9999 ∧ c' < 6 := fun a d hs ha b0 b1 b2 => by
      have hr : absRun ks (a, d) = some (A', c') := by
        rw [absRun, ha] at h; exact h
      obtain ⟨r1, r2⟩ := abs_do h0 h1 ks a d (n + 1) A' c' b0 b1 b2 hr
      refine ⟨?_, r2⟩
      rw [doS, hs, if_neg (by simp), r1, List.length_cons, show n + 1 + ks.length = n + (ks.length + 1) by omega]
    rw [absRun] at h
    by_cases k1 : k = 1
    · subst k1
      by_cases hb : A + 10 ^ c ≤ 9999
      · have hpos : (0 : Int) ≤ 10 ^ c := by rw [← hpw c]; have := pw_pos 10 (by decide) (c : Int).toNat; omega
        exact step (A + 10 ^ c) c (hturn 1 _ (by rw [Int.one_mul]) (by omega) hb) (by unfold absStep; rw [if_pos rfl, if_pos hb]) (by omega) hb hc
      · exfalso; unfold absStep at h; rw [if_pos rfl, if_neg hb] at h; cases h
    by_cases k2 : k = 2
    · subst k2
      by_cases hb : 0 ≤ A - 10 ^ c
      · have hpos : (0 : Int) ≤ 10 ^ c := by rw [← hpw c]; have := pw_pos 10 (by decide) (c : Int).toNat; omega
        exact step (A - 10 ^ c) c (hturn (-1) _ (by rw [Int.neg_one_mul]; omega) hb (by omega)) (by unfold absStep; rw [if_neg (by decide), if_pos rfl, if_pos hb]) hb (by omega) hc
      · exfalso; unfold absStep at h; rw [if_neg (by decide), if_pos rfl, if_neg hb] at h; cases h
    by_cases k3 : k = 3
    · subst k3
      by_cases hb : c + 1 < 6
      · refine step A (c + 1) ?_ (by unfold absStep; rw [if_neg (by decide), if_neg (by decide), if_pos rfl, if_pos hb]) a0 a1 hb
        have : ¬ (mchV 10 3 9 6 y (y * A) A c).carry + 1 = vplaces (mchV 10 3 9 6 y (y * A) A c) := by rw [hpl]; show ¬ (c : Int) + 1 = 6; omega
        unfold strokeT
        rw [if_neg (by decide), if_neg (by decide), if_pos rfl, if_neg this]
        rfl
      · exfalso; unfold absStep at h; rw [if_neg (by decide), if_neg (by decide), if_pos rfl, if_neg hb] at h; cases h
    by_cases k4 : k = 4
    · subst k4
      by_cases hb : 0 < c
      · refine step A (c - 1) ?_ (by unfold absStep; rw [if_neg (by decide), if_neg (by decide), if_neg (by decide), if_pos rfl, if_pos hb]) a0 a1 (by omega)
        have : ¬ (mchV 10 3 9 6 y (y * A) A c).carry = 0 := by show ¬ (c : Int) = 0; omega
        unfold strokeT
        rw [if_neg (by decide), if_neg (by decide), if_neg (by decide), if_pos rfl, if_neg this]
        show (mchV 10 3 9 6 y (y * A) A ((c : Int) - 1), false) = _
        rw [show ((c : Int) - 1) = ((c - 1 : Nat) : Int) by omega]
      · exfalso; unfold absStep at h; rw [if_neg (by decide), if_neg (by decide), if_neg (by decide), if_pos rfl, if_neg hb] at h; cases h
    · exfalso; unfold absStep at h; rw [if_neg k1, if_neg k2, if_neg k3, if_neg k4] at h; cases h
end Go.Proofs.YtlhcilmnfmglfaaDoor

namespace Go.Proofs.YtlhcilmnfmglfaaDoor
open Go.RowKit Go.Sort
/-! turns and their factor, plainly -/
def facL (b : Int) : List Int → Int
  | [] => 0
  | t :: ts => facL b ts * b + t
def facOk (b : Int) : List Int → Bool
  | [] => true
  | t :: ts => facOk b ts && betB (facL b ts * b + t) (-1000000000) 1000000000
def lastZ (ts : List Int) : Bool := decide (0 < ts.length) && (ts.getD (ts.length - 1) 0 == 0)
def vtur (b : Int) (ts : List Int) : Bool := betB b 2 16 && decide (ts.length ≤ 40) && ts.all (fun t => betB t (-16) 16) && !lastZ ts && facOk b ts
theorem vtur_iff {b : Int} {ts : List Int} : vtur b ts = true ↔ (2 ≤ b ∧ b ≤ 16) ∧ ts.length ≤ 40 ∧ (∀ t ∈ ts, -16 ≤ t ∧ t ≤ 16) ∧ lastZ ts = false ∧ facOk b ts = true := by
  unfold vtur
  simp only [Bool.and_eq_true, betB_iff, decide_eq_true_eq, List.all_eq_true, Bool.not_eq_true', and_assoc]
theorem facOk_tail {b t : Int} {ts : List Int} (h : facOk b (t :: ts) = true) : facOk b ts = true := by
  unfold facOk at h; exact (Bool.and_eq_true_iff.1 h).1
theorem facOk_drop {b : Int} {ts : List Int} (h : facOk b ts = true) : ∀ k : Nat, facOk b (ts.drop k) = true := by
  intro k
  induction k generalizing ts with
  | zero => exact h
  | succ k ih =>
    cases ts with
    | nil => rfl
    | cons t ts => exact ih (facOk_tail h)
theorem facOk_bd {b : Int} {ts : List Int} (h : facOk b ts = true) : -1000000000 ≤ facL b ts ∧ facL b ts ≤ 1000000000 := by
  cases ts with
  | nil => exact ⟨by show (-1000000000 : Int) ≤ 0; decide, by show (0 : Int) ≤ 1000000000; decide⟩
  | cons t ts => unfold facOk at h; exact betB_iff.1 (Bool.and_eq_true_iff.1 h).2
theorem fac_drop (b : Int) {ts : List Int} {k : Nat} (h : k < ts.length) : facL b (ts.drop k) = facL b (ts.drop (k + 1)) * b + ts[k] := by
  rw [List.drop_eq_getElem_cons h]; rfl
theorem facOk_step (b : Int) {ts : List Int} {k : Nat} (h : k < ts.length) : facOk b (ts.drop k) = (facOk b (ts.drop (k + 1)) && betB (facL b (ts.drop (k + 1)) * b + ts[k]) (-1000000000) 1000000000) := by
  rw [List.drop_eq_getElem_cons h]; rfl
theorem fac_snoc0 (b : Int) (ts : List Int) : facL b (ts ++ [0]) = facL b ts := by
  induction ts with
  | nil => simp [facL]
  | cons t ts ih => show facL b (ts ++ [0]) * b + t = facL b ts * b + t; rw [ih]
/-- the sum of two lists of turns -/
def zsum : List Int → List Int → List Int
  | [], ys => ys
  | xs, [] => xs
  | x :: xs, y :: ys => (x + y) :: zsum xs ys
theorem fac_zsum (b : Int) : ∀ xs ys : List Int, facL b (zsum xs ys) = facL b xs + facL b ys
  | [], ys => by simp [zsum, facL]
  | x :: xs, [] => by simp [zsum, facL]
  | x :: xs, y :: ys => by
    show facL b (zsum xs ys) * b + (x + y) = (facL b xs * b + x) + (facL b ys * b + y)
    rw [fac_zsum b xs ys, Int.add_mul]
    omega
theorem zsum_len : ∀ xs ys : List Int, (zsum xs ys).length = max xs.length ys.length
  | [], ys => by simp [zsum]
  | x :: xs, [] => by simp [zsum]
  | x :: xs, y :: ys => by
    show (zsum xs ys).length + 1 = _
    rw [zsum_len xs ys]; simp only [List.length_cons]; omega
theorem zsum_get : ∀ (xs ys : List Int) (k : Nat), k < max xs.length ys.length → (zsum xs ys)[k]? = some (xs.getD k 0 + ys.getD k 0)
  | [], ys, k, h => by
    have h2 : k < ys.length := by simpa using h
    simp [zsum, List.getD_eq_getElem?_getD, h2]
  | x :: xs, [], k, h => by
    have h2 : k < (x :: xs).length := by simpa using h
    show (x :: xs)[k]? = some ((x :: xs).getD k 0 + ([] : List Int).getD k 0)
    rw [getD_of h2, List.getElem?_eq_getElem h2]
    simp
  | x :: xs, y :: ys, 0, h => by simp [zsum]
  | x :: xs, y :: ys, k + 1, h => by
    have := zsum_get xs ys k (by simp only [List.length_cons] at h; omega)
    simpa [zsum] using this
theorem zsum_take {xs ys : List Int} {k : Nat} (h : k < max xs.length ys.length) : (zsum xs ys).take (k + 1) = (zsum xs ys).take k ++ [xs.getD k 0 + ys.getD k 0] := by
  have h1 := zsum_get xs ys k h
  obtain ⟨h2, h3⟩ := List.getElem?_eq_some_iff.1 h1
  rw [List.take_succ_eq_append_getElem h2, h3]
/-! the turns that are drawn are valid -/
theorem lastZ_cons {t : Int} {ts : List Int} (h : ts ≠ []) : lastZ (t :: ts) = lastZ ts := by
  cases ts with
  | nil => exact absurd rfl h
  | cons u us => simp [lastZ]
theorem turn_sum (sh : Bool) {b n : Int} (hb : 2 ≤ b) (h0 : 0 ≤ n) : turnN sh b n * b + turnD sh b n = n := by
  obtain ⟨q1, q2, q3, q4⟩ := tdm hb h0
  unfold turnN turnD
  split
  · rw [Int.add_mul, Int.mul_comm]; omega
  · rw [Int.mul_comm]; exact q4
theorem turnF_fac (sh : Bool) {b : Int} (hb : 2 ≤ b) (g : Nat) (n : Int) (h0 : 0 ≤ n) (hg : n ≤ fb g) (hm : n ≤ 1000000000) : facL b (turnF sh b g n) = n ∧ facOk b (turnF sh b g n) = true ∧ lastZ (turnF sh b g n) = false := by
  induction g generalizing n with
  | zero =>
    have : n ≤ 0 := hg
    obtain rfl : n = 0 := by omega
    exact ⟨rfl, rfl, rfl⟩
  | succ g ih =>
    by_cases h : 0 < n
    · have hs := turn_step (sh := sh) hb h hg
      obtain ⟨i1, i2, i3⟩ := ih (turnN sh b n) hs.1 hs.2.2 (by omega)
      have hsum := turn_sum sh hb h0
      rw [turnF_succ h]
      refine ⟨by rw [facL, i1, hsum], by rw [facOk, i2, i1, hsum, Bool.true_and]; exact betB_iff.2 ⟨by omega, hm⟩, ?_⟩
      by_cases hn : 0 < turnN sh b n
      · rw [lastZ_cons]
        · exact i3
        · intro he
          rw [he] at i1
          have : (0 : Int) = turnN sh b n := i1
          omega
      · rw [turnF_zero hn]
        have : turnN sh b n = 0 := by omega
        rw [this] at hsum
        simp [lastZ]
        omega
    · rw [turnF_zero h]
      obtain rfl : n = 0 := by omega
      exact ⟨rfl, rfl, rfl⟩
theorem turnL_vtur {b n : Int} (hb : 2 ≤ b) (hb2 : b ≤ 16) (h0 : 0 ≤ n) (h1 : n ≤ 62500000) : vtur b (turnL true b n) = true ∧ facL b (turnL true b n) = n := by
  have hf : fb 30 = 268435457 := by decide
  obtain ⟨i1, i2, i3⟩ := turnF_fac true hb 30 n h0 (by omega) (by omega)
  have h2 := turnF_len true b 30 n
  have h3 := turnF_bd true hb 30 n h0 (by omega)
  refine ⟨vtur_iff.2 ⟨⟨hb, hb2⟩, ?_, fun t ht => ?_, i3, i2⟩, i1⟩
  · show (turnF true b 30 n).length ≤ 40; omega
  · have := h3 t ht; omega
theorem pw16_pos (k : Nat) : 1 ≤ (16 : Int) ^ k := by
  induction k with
  | zero => decide
  | succ k ih => rw [Int.pow_succ]; omega
theorem small_fac {b : Int} (hb : 2 ≤ b) (hb2 : b ≤ 16) : ∀ ts : List Int, (∀ t ∈ ts, -4 ≤ t ∧ t ≤ 4) → ts.length ≤ 7 → facOk b ts = true ∧ -(4 * (16 : Int) ^ ts.length - 4) ≤ 15 * facL b ts ∧ 15 * facL b ts ≤ 4 * (16 : Int) ^ ts.length - 4
  | [], _, _ => ⟨rfl, by simp [facL], by simp [facL]⟩
  | t :: ts, h, hl => by
    simp only [List.length_cons] at hl
    obtain ⟨i1, i2, i3⟩ := small_fac hb hb2 ts (fun u hu => h u (List.mem_cons_of_mem _ hu)) (by omega)
    have ht := h t (List.mem_cons_self ..)
    have hp : (16 : Int) ^ (t :: ts).length = 16 ^ ts.length * 16 := by rw [List.length_cons, Int.pow_succ]
    have h16 : (16 : Int) ^ ts.length ≤ 16777216 := by
      have : ts.length = 0 ∨ ts.length = 1 ∨ ts.length = 2 ∨ ts.length = 3 ∨ ts.length = 4 ∨ ts.length = 5 ∨ ts.length = 6 := by omega
      rcases this with e | e | e | e | e | e | e <;> rw [e] <;> decide
    have h1 := pw16_pos ts.length
    obtain ⟨F, hF⟩ : ∃ F, facL b ts = F := ⟨_, rfl⟩
    obtain ⟨P, hP⟩ : ∃ P, (16 : Int) ^ ts.length = P := ⟨_, rfl⟩
    rw [hF] at i2 i3
    rw [hP] at i2 i3 h16 h1 hp
    have hFb : -(16 * (4 * P - 4)) ≤ 15 * (F * b) ∧ 15 * (F * b) ≤ 16 * (4 * P - 4) := by
      have e1 : 15 * (F * b) = (15 * F) * b := by rw [Int.mul_assoc]
      rw [e1]
      obtain ⟨G, hG⟩ : ∃ G, 15 * F = G := ⟨_, rfl⟩
      rw [hG] at i2 i3 ⊢
      have a1 : G * b ≤ (4 * P - 4) * b := Int.mul_le_mul_of_nonneg_right i3 (by omega)
      have a2 : -(4 * P - 4) * b ≤ G * b := Int.mul_le_mul_of_nonneg_right i2 (by omega)
      have a3 : (4 * P - 4) * b ≤ (4 * P - 4) * 16 := Int.mul_le_mul_of_nonneg_left hb2 (by omega)
      rw [Int.neg_mul] at a2
      omega
    have hv : facL b (t :: ts) = F * b + t := by rw [facL, hF]
    rw [hp, hv, facOk, i1, hF, Bool.true_and]
    exact ⟨betB_iff.2 ⟨by omega, by omega⟩, by omega, by omega⟩
theorem small_vtur {b d : Int} (hb : 2 ≤ b) (hb2 : b ≤ 16) {ts : List Int} (h : ∀ t ∈ ts, -4 ≤ t ∧ t ≤ 4) (hl : ts.length ≤ 6) (h1 : 1 ≤ d) (h2 : d ≤ 3) : vtur b (ts ++ [d]) = true := by
  have hm : ∀ t ∈ ts ++ [d], -4 ≤ t ∧ t ≤ 4 := by
    intro t ht
    rcases List.mem_append.1 ht with ht | ht
    · exact h t ht
    · rw [List.mem_singleton.1 ht]; omega
  have hlen : (ts ++ [d]).length = ts.length + 1 := by simp
  obtain ⟨i1, -, -⟩ := small_fac hb hb2 (ts ++ [d]) hm (by omega)
  refine vtur_iff.2 ⟨⟨hb, hb2⟩, by omega, fun t ht => by have := hm t ht; omega, ?_, i1⟩
  simp [lastZ]
  omega
theorem vtur_fac {b : Int} {ts : List Int} (h : vtur b ts = true) : -1000000000 ≤ facL b ts ∧ facL b ts ≤ 1000000000 := facOk_bd (vtur_iff.1 h).2.2.2.2
end Go.Proofs.YtlhcilmnfmglfaaDoor

namespace Go.Proofs.YtlhcilmnfmglfaaDoor
open Go.RowKit Go.Sort
def facV (b : Int) (ts : List Int) : Int := if facOk b ts = true then facL b ts else 0
theorem tuall_drop {ts : List Int} {j : Nat} (h : j < ts.length) : (ts.drop j).all (fun t => betB t (-16) 16) = (betB ts[j] (-16) 16 && (ts.drop (j + 1)).all (fun t => betB t (-16) 16)) := by
  rw [List.drop_eq_getElem_cons h, List.all_cons]
theorem tuall_take {ts : List Int} {j : Nat} (h : j < ts.length) : (ts.take (j + 1)).all (fun t => betB t (-16) 16) = ((ts.take j).all (fun t => betB t (-16) 16) && betB ts[j] (-16) 16) := by
  rw [List.take_succ_eq_append_getElem h, List.all_append]; simp
theorem tuall_false {ts : List Int} {j : Nat} (h : (ts.take j).all (fun t => betB t (-16) 16) = false) : ts.all (fun t => betB t (-16) 16) = false := by
  rw [← List.take_append_drop j ts, List.all_append, h, Bool.false_and]
theorem facOk_false {b : Int} {ts : List Int} {j : Nat} (h : facOk b (ts.drop j) = false) : facOk b ts = false := by
  cases hf : facOk b ts with
  | false => rfl
  | true => rw [facOk_drop hf j] at h; cases h
set_option maxRecDepth 100000 in
set_option maxHeartbeats 3200000 in
theorem factor_any (b : Int) (A : Option Addr) (c : Nat) (ts : List Int) (w : World) (hr : RI w A ts.length ts) (hb : 2 ≤ b) (hb2 : b ≤ 16) (hl : ts.length ≤ 1000) (hd : ∀ t ∈ ts, -1000 ≤ t ∧ t ≤ 1000) :
    Calls Tryd.prog 82 #[.agg #[.int .i64 b, .slice A ts.length c]] w fun e w' => e = .returned (.tuple #[.int .i64 (facV b ts), .bool (facOk b ts)]) ∧ Below w.heap.size w w' := by
  obtain ⟨FV, hFV⟩ : ∃ v, facV b ts = v := ⟨_, rfl⟩
  obtain ⟨FB, hFB⟩ : ∃ v, facOk b ts = v := ⟨_, rfl⟩
  rw [hFV, hFB]
  have HFV := Lib.hid hFV
  have HFB := Lib.hid hFB
  have HR := Lib.hid (fun W (hW : Below w.heap.size w W) => hr.below hW)
  have HD := Lib.hid hd
  clear hFV hFB hr hd
  obtain ⟨g, hg⟩ : ∃ g, w.heap.size = g := ⟨_, rfl⟩
  have K0 := (Kn.nil w).al [.int .i64 b, .slice A ts.length c] 27
  rw [hg] at K0
  obtain ⟨n, hn⟩ : ∃ n, ts.length = n := ⟨_, rfl⟩
  have HN := Lib.hid hn
  rw [hn] at K0 hl ⊢
  clear hn
  have q0 : IntKind.i64.wrap ((n : Int) - 1) = (n : Int) - 1 := wrapI64 (by omega)
  go_enter Tryd.func82, Tryd.ntmps82
  go_upto_region 2 with fail
  try rw [hg]
  refine Code.wp.kn K0 ?_; clear K0 hg; intro w1 K1
  obtain ⟨a1, a2, a3, -⟩ := K1.cells
  go_wp2_with fail
  clear a1 a2 a3
  go_loopw [4, 5] (fun ss kk wr => ∃ (j : Nat) (v : Int), j ≤ n ∧ kk = .int .i64 v ∧ v = (j : Int) - 1 ∧ ss = .int .i64 (facL b (ts.drop j)) ∧ Hid (facOk b (ts.drop j) = true) ∧ Kn w [.blk g [.int .i64 b, .slice A n c] 27] wr) (fun _ kk _ => (intOf kk + 1).toNat)
  case atStart => exact ⟨n, _, Nat.le_refl _, rfl, rfl, by rw [← HN.out, List.drop_length]; rfl, Lib.hid (by rw [← HN.out, List.drop_length]; rfl), K1⟩
  case round =>
    clear K1 q0
    obtain ⟨j, v, hj, rfl, hv, rfl, HO, KR⟩ := hrel
    obtain ⟨S, hS⟩ : ∃ s, facL b (ts.drop j) = s := ⟨_, rfl⟩
    have hb3 := facOk_bd HO.out
    rw [hS] at hb3 ⊢
    cases j with
    | zero =>
      obtain rfl : v = -1 := by omega
      clear hv
      have e1 : facL b ts = S := by rw [← hS, List.drop_zero]
      have e2 : facOk b ts = true := by have h := HO.out; rw [List.drop_zero] at h; exact h
      have e3 : FV = S := by rw [← HFV.out, facV, if_pos e2, e1]
      have e4 : FB = true := by rw [← HFB.out, e2]
      subst e3 e4
      clear hS e1 e2
      go_wp2_with fail
      go_ret2
      exact ⟨rfl, KR.below⟩
    | succ i =>
      obtain rfl : v = (i : Int) := by omega
      clear hv
      have hi : i < n := by omega
      have hi' : i < ts.length := by rw [HN.out]; exact hi
      have hri := HR.out _ KR.below
      rw [HN.out] at hri
      obtain ⟨ad, hA, hlt, hkx, hcx⟩ := hri.at_ hi
      have hdx := HD.out ts[i] (List.getElem_mem hkx)
      have hfs := fac_drop b hi'
      have hos := facOk_step b hi'
      rw [HO.out, Bool.true_and] at hos
      rw [hS] at hfs hos
      obtain ⟨t, ht⟩ : ∃ t, ts[i] = t := ⟨_, rfl⟩
      rw [ht] at hcx hdx hfs hos
      have hm1 : S * b ≤ 1000000000 * 16 := Int.le_trans (Int.mul_le_mul_of_nonneg_right hb3.2 (by omega)) (Int.mul_le_mul_of_nonneg_left hb2 (by omega))
      have hm2 : -(1000000000 * 16) ≤ S * b := by
        have h1 : -1000000000 * b ≤ S * b := Int.mul_le_mul_of_nonneg_right hb3.1 (by omega)
        omega
      obtain ⟨P, hP⟩ : ∃ p, S * b = p := ⟨_, rfl⟩
      rw [hP] at hm1 hm2 hfs hos
      obtain ⟨V, hV⟩ : ∃ v, P + t = v := ⟨_, rfl⟩
      rw [hV] at hfs hos
      have q1 : IntKind.i64.wrap (S * b) = P := by rw [hP]; exact wrapI64 (by omega)
      have q2 : IntKind.i64.wrap (P + t) = V := by rw [hV]; exact wrapI64 (by omega)
      have q3 : IntKind.i64.wrap ((i : Int) - 1) = (i : Int) - 1 := wrapI64 (by omega)
      have i0 : (0 : Int) ≤ (i : Int) := by omega
      have i1 : (i : Int) < (n : Int) := by omega
      subst hA
      have HFS := Lib.hid hfs
      have HOS := Lib.hid hos
      obtain ⟨B, hB⟩ : ∃ v, betB V (-1000000000) 1000000000 = v := ⟨_, rfl⟩
      have HBB := Lib.hid (between_any V (-1000000000) 1000000000)
      rw [hB] at HBB
      have HB := Lib.hid hB
      clear ht hP hV hS hfs hos hri hB hkx hi'
      obtain ⟨a1, a2, a3, -⟩ := KR.cells
      cases B with
      | true =>
        go_wp2_with fail
        go_quiet (fail)
        go_wp2_with (go_at_call 105; refine (HBB.out _).mono ?_; rintro e w' ⟨rfl, rfl⟩)
        go_roundw
        case rel => exact ⟨i, _, by omega, by go_num, rfl, by rw [HFS.out], Lib.hid (by rw [HOS.out, HB.out]), by first | exact KR | exact KR.drewN _⟩
        case measure => simp [intOf] <;> omega
      | false =>
        have e2 : facOk b ts = false := facOk_false (j := i) (by rw [HOS.out, HB.out])
        have e3 : FV = 0 := by rw [← HFV.out, facV, e2]; rfl
        have e4 : FB = false := by rw [← HFB.out, e2]
        subst e3 e4
        go_wp2_with fail
        go_quiet (fail)
        go_wp2_with (go_at_call 105; refine (HBB.out _).mono ?_; rintro e w' ⟨rfl, rfl⟩)
        go_ret2
        exact ⟨rfl, by first | exact KR.below | exact (KR.drewN _).below⟩
end Go.Proofs.YtlhcilmnfmglfaaDoor

namespace Go.Proofs.YtlhcilmnfmglfaaDoor
open Go.RowKit Go.Sort
set_option maxRecDepth 100000 in
set_option maxHeartbeats 3200000 in
theorem ValidTurns_any (b : Int) (A : Option Addr) (c : Nat) (ts : List Int) (w : World) (hr : RI w A ts.length ts) (hb : 2 ≤ b) (hb2 : b ≤ 16) (hl : ts.length ≤ 40) :
    Calls Tryd.prog 62 #[.agg #[.int .i64 b, .slice A ts.length c]] w fun e w' => e = .returned (.bool (vtur b ts)) ∧ Below w.heap.size w w' := by
  have hVV : vtur b ts = (ts.all (fun t => betB t (-16) 16) && !lastZ ts && facOk b ts) := by
    unfold vtur
    rw [betB_iff.2 ⟨hb, hb2⟩, decide_eq_true hl]; simp
  obtain ⟨VV, hV⟩ : ∃ v, vtur b ts = v := ⟨_, rfl⟩
  rw [hV] at hVV ⊢
  have HVV := Lib.hid hVV
  have HR := Lib.hid (fun W (hW : Below w.heap.size w W) => hr.below hW)
  have HBB := Lib.hid (fun W => calls_val (Go.Proofs.YtlhcilmnfmglfaaDoor.isBase_any b W) (congrArg Value.bool (betB_iff.2 ⟨hb, hb2⟩)))
  have HF := Lib.hid (fun W (hW : Below w.heap.size w W) (hd : ∀ t ∈ ts, -1000 ≤ t ∧ t ≤ 1000) => factor_any b A c ts W (hr.below hW) hb hb2 (by omega) hd)
  clear hV hVV hr
  obtain ⟨FV, hFV⟩ : ∃ v, facV b ts = v := ⟨_, rfl⟩
  obtain ⟨FB, hFB⟩ : ∃ v, facOk b ts = v := ⟨_, rfl⟩
  rw [hFV, hFB] at HF
  rw [hFB] at HVV
  clear hFV hFB
  obtain ⟨g, hg⟩ : ∃ g, w.heap.size = g := ⟨_, rfl⟩
  have K0 := (Kn.nil w).al [.int .i64 b, .slice A ts.length c] 27
  rw [hg] at K0
  obtain ⟨n, hn⟩ : ∃ n, ts.length = n := ⟨_, rfl⟩
  have HN := Lib.hid hn
  rw [hn] at K0 hl HF HR ⊢
  clear hn
  have hl2 : ¬ (40 : Int) < (n : Int) := by omega
  have hl3 : ¬ 40 < n := by omega
  go_enter Tryd.func62, Tryd.ntmps62
  go_upto_region 1 with fail
  try rw [hg]
  refine Code.wp.kn K0 ?_; clear K0 hg; intro w1 K1
  obtain ⟨a1, a2, a3, -⟩ := K1.cells
  go_wp2_with (go_at_call 85; refine (HBB.out _).mono ?_; rintro e w' ⟨rfl, rfl⟩)
  clear a1 a2 a3
  go_loopw [21] (fun ii wr => ∃ (k : Nat), k ≤ n ∧ ii = .int .i64 (k : Int) ∧ Hid ((ts.take k).all (fun t => betB t (-16) 16) = true) ∧ Kn w [.blk g [.int .i64 b, .slice A n c] 27] wr) (fun ii _ => n - (intOf ii).toNat)
  case atStart => exact ⟨0, Nat.zero_le _, rfl, Lib.hid rfl, K1⟩
  case round =>
    clear K1
    obtain ⟨k, hk, rfl, HI, KR⟩ := hrel
    obtain ⟨a1, a2, a3, -⟩ := KR.cells
    by_cases hkn : k < n
    · have i1 : (k : Int) < (n : Int) := by omega
      have i0 : (0 : Int) ≤ (k : Int) := by omega
      obtain ⟨ad, hA, hlt, hkx, hcx⟩ := (HR.out _ KR.below).at_ hkn
      have hat := tuall_take hkx
      rw [HI.out, Bool.true_and] at hat
      obtain ⟨t, ht⟩ : ∃ t, ts[k] = t := ⟨_, rfl⟩
      rw [ht] at hcx hat
      obtain ⟨B, hB⟩ : ∃ v, betB t (-16) 16 = v := ⟨_, rfl⟩
      have HBT := Lib.hid (between_any t (-16) 16)
      rw [hB] at HBT hat
      have HAT := Lib.hid hat
      subst hA
      clear ht hB hat hkx
      cases B with
      | true =>
        go_wp2_with (go_at_call 105; refine (HBT.out _).mono ?_; rintro e w' ⟨rfl, rfl⟩)
        go_roundw
        case rel => exact ⟨k + 1, by omega, by go_num, HAT, KR⟩
        case measure => simp [intOf] <;> omega
      | false =>
        have e1 : VV = false := by rw [HVV.out, tuall_false HAT.out]; rfl
        subst e1
        go_wp2_with (go_at_call 105; refine (HBT.out _).mono ?_; rintro e w' ⟨rfl, rfl⟩)
        go_ret
        exact ⟨rfl, KR.below⟩
    · have i1 : ¬ (k : Int) < (n : Int) := by omega
      obtain rfl : k = n := by omega
      have hall := HI.out
      rw [← HN.out, List.take_length] at hall
      have HD := Lib.hid (fun t (h : t ∈ ts) => (show -1000 ≤ t ∧ t ≤ 1000 by
        have h2 := betB_iff.1 (List.all_eq_true.1 hall t h)
        omega))
      have HVV2 := Lib.hid (show VV = (!lastZ ts && FB) by rw [HVV.out, hall, Bool.true_and])
      clear hall HI HVV
      have q0 : IntKind.i64.wrap ((k : Int) - 1) = (k : Int) - 1 := wrapI64 (by omega)
      rcases Nat.eq_zero_or_pos k with h0 | h0
      · subst h0
        have hz : lastZ ts = false := by unfold lastZ; rw [HN.out]; rfl
        have e1 : VV = FB := by rw [HVV2.out, hz]; rfl
        subst e1
        go_wp2_with (go_at_call 82; refine (HF.out _ KR.below HD.out).mono ?_; rintro e w2 ⟨rfl, hw⟩)
        go_ret
        exact ⟨rfl, KR.below.trans (hw.mono KR.size)⟩
      · obtain ⟨m, rfl⟩ : ∃ m, k = m + 1 := ⟨k - 1, by omega⟩
        have q1 : IntKind.i64.wrap (((m + 1 : Nat) : Int) - 1) = (m : Int) := by rw [wrapI64 (by omega)]; omega
        have q4 : IntKind.i64.wrap ((m : Int) + 1 - 1) = (m : Int) := by rw [wrapI64 (by omega)]; omega
        have i0 : (0 : Int) ≤ (m : Int) := by omega
        have i2 : (m : Int) < (m : Int) + 1 := by omega
        obtain ⟨ad, hA, hlt, hkx, hcx⟩ := (HR.out _ KR.below).at_ (show m < m + 1 by omega)
        have hz : lastZ ts = (ts[m] == 0) := by
          unfold lastZ
          rw [HN.out, Nat.add_sub_cancel, decide_eq_true (show 0 < m + 1 by omega), Bool.true_and, getD_of hkx]
        obtain ⟨t, ht⟩ : ∃ t, ts[m] = t := ⟨_, rfl⟩
        rw [ht] at hcx hz
        have HZ := Lib.hid (show VV = (!(t == 0) && FB) by rw [HVV2.out, hz])
        subst hA
        clear ht hz HVV2 hkx q0
        by_cases ht0 : t = 0
        · subst ht0
          have e1 : VV = false := by rw [HZ.out]; rfl
          subst e1
          go_wp2_with fail
          go_ret
          exact ⟨rfl, KR.below⟩
        · have t1 : (t == 0) = false := beq_eq_false_iff_ne.2 ht0
          have e1 : VV = FB := by rw [HZ.out, t1]; rfl
          subst e1
          go_wp2_with (go_at_call 82; refine (HF.out _ KR.below HD.out).mono ?_; rintro e w2 ⟨rfl, hw⟩)
          go_ret
          exact ⟨rfl, KR.below.trans (hw.mono KR.size)⟩
set_option maxRecDepth 100000 in
theorem FactorOf_ok (b : Int) (A : Option Addr) (c : Nat) (ts : List Int) (w : World) (hr : RI w A ts.length ts) (hv : vtur b ts = true) :
    Calls Tryd.prog 20 #[.agg #[.int .i64 b, .slice A ts.length c]] w fun e w' => e = .returned (.tuple #[.int .i64 (facL b ts), .int .i64 0]) ∧ Below w.heap.size w w' := by
  have hv1 := vtur_iff.1 hv
  obtain ⟨⟨hb, hb2⟩, hl, hd, hz, hf⟩ := hv1
  have KV := Lib.hid (fun W (hW : Below w.heap.size w W) => calls_val (ValidTurns_any b A c ts W (hr.below hW) hb hb2 hl) (congrArg Value.bool hv))
  have KF := (fun W (hW : Below w.heap.size w W) => factor_any b A c ts W (hr.below hW) hb hb2 (by omega) (fun t h => by have := hd t h; omega))
  have e1 : facV b ts = facL b ts := by unfold facV; rw [if_pos hf]
  rw [e1, hf] at KF
  obtain ⟨F, hF⟩ : ∃ F, facL b ts = F := ⟨_, rfl⟩
  rw [hF] at KF ⊢
  replace KF := Lib.hid KF
  clear e1 hF hd hv hr hf hz
  obtain ⟨g, hg⟩ : ∃ g, w.heap.size = g := ⟨_, rfl⟩
  have K0 := (Kn.nil w).al [.int .i64 b, .slice A ts.length c] 27
  rw [hg] at K0
  obtain ⟨n, hn⟩ : ∃ n, ts.length = n := ⟨_, rfl⟩
  rw [hn] at K0 KV KF ⊢
  clear hn
  go_enter Tryd.func20, Tryd.ntmps20
  go_upto_region 1 with fail
  try rw [hg]
  refine Code.wp.kn K0 ?_; clear K0 hg; intro w1 K1
  obtain ⟨a1, a2, a3, -⟩ := K1.cells
  go_wp2_with (first
    | (go_at_call 62; (refine (KV.out _ K1.below).mono ?_); rintro e w2 ⟨rfl, hw⟩; have K2 := K1.keep hw; clear hw a1 a2 a3; obtain ⟨a1, a2, a3, -⟩ := K2.cells)
    | (go_at_call 82; (refine (KF.out _ K2.below).mono ?_); rintro e w3 ⟨rfl, hw⟩; have K3 := K2.keep hw; clear hw))
  go_ret2
  exact ⟨rfl, K3.below⟩
end Go.Proofs.YtlhcilmnfmglfaaDoor
