/- Part 11: lemmas and contracts of the claim's functions. -/
import Derived.Test.YtafnebpbfmbgiaaGreatDoorZC1
import Derived.Test.YtafnebpbfmbgiaaGreatDoorZC2
import Derived.Test.YtafnebpbfmbgiaaGreatDoorZC3
import Derived.Test.YtafnebpbfmbgiaaGreatDoorZC4
import Derived.Test.YtafnebpbfmbgiaaGreatDoorZC5
import Derived.Test.YtafnebpbfmbgiaaGreatDoorZC6
import Derived.Test.YtafnebpbfmbgiaaGreatDoorZC7
import Derived.Test.YtafnebpbfmbgiaaGreatDoorZC8
import Derived.Test.YtafnebpbfmbgiaaGreatDoorZC9
import Derived.Test.YtafnebpbfmbgiaaGreatDoorZC10
import Derived.Test.YtafnebpbfmbgiaaGreatDoorTie
import Derived.Test.YtafnebpbfmbgiaaGreatDoorCards
import Derived.Deep.DeepHandedRow
import Derived.Lib.LaidTab
import Derived.ProofKit
import Derived.Carry
namespace Go.Proofs.YtafnebpbfmbgiaaGreatDoor
open Go.RowKit Go.Sort
/-! the division, plainly: what the program that divides leaves -/
/-- a machine with values -/
def mchV (b : Int) (n1 n2 n3 : Nat) (y R N c : Int) : Tri := ⟨⟨b, digD b n1 y⟩, ⟨b, digD b n2 R⟩, ⟨b, digD b n3 N⟩, c⟩
structure DvOk (b : Int) (n1 n2 n3 : Nat) (y : Int) : Prop where
  b2 : 2 ≤ b
  y0 : 0 ≤ y
  y1 : y < pw b n1
  p1 : pw b n1 ≤ 1000000000001
  p2 : pw b n2 ≤ 1000000000001
  p3 : pw b n3 ≤ 1000000000001
theorem valL_dig {b : Int} {n : Nat} {v : Int} (hb : 2 ≤ b) (hp : pw b n ≤ 1000000000001) (h0 : 0 ≤ v) (h1 : v < pw b n) : valL b (digD b n v) = v := valL_digD b hb n v h0 h1 (by omega)
theorem turn_mch {b : Int} {n1 n2 n3 : Nat} {y : Int} (h : DvOk b n1 n2 n3 y) {R N c : Int} (hR : 0 ≤ R ∧ R < pw b n2) (hN : 0 ≤ N ∧ N < pw b n3) (sign u : Int) (hu : pw b c.toNat = u) :
    turnT (mchV b n1 n2 n3 y R N c) sign = (mchV b n1 n2 n3 y ((R + sign * (y * u)) % pw b n2) ((N + sign * u) % pw b n3) c, decide (R + sign * (y * u) < 0) || decide (pw b n2 ≤ R + sign * (y * u))) := by
  have q1 := pw_pos b h.b2 n2
  have q2 := pw_pos b h.b2 n3
  simp only [turnT, mchV, shiftD, shiftB, digD_len, hu, valL_dig h.b2 h.p1 h.y0 h.y1, valL_dig h.b2 h.p2 hR.1 hR.2, valL_dig h.b2 h.p3 hN.1 hN.2]
  rw [tmod_wrap _ _ (by omega), tmod_wrap _ _ (by omega)]
/-- one stroke as a program's part -/
theorem run_one {L : List Ins} {i tt : Nat} (hi : i < tt) (hl : i < L.length) {op : Int} (hL : L[i] = ⟨op, 1⟩) (ho : opens op = false) (h1 : ¬ op = 1) {s s' : RS} {b' : Bool} (hc : s.code = 0) (hd : s.done < 3000) {r : Tri × Bool} (hr : strokeT (op - 1) s.m = r)
    (he : Ev L (.run (i + 1) tt) ⟨r.1, s.tr ++ [op - 1], s.done + 1, 0⟩ s' b') : Ev L (.run i tt) s s' (r.2 || b') := by
  have e1 : (L[i]).op = op := by rw [hL]
  have e2 : (L[i]).arg = 1 := by rw [hL]
  have hs : Ev L (.str ((L[i]).op - 1) (max 1 (L[i]).arg).toNat) s ⟨r.1, s.tr ++ [op - 1], s.done + 1, 0⟩ (r.2 || false) := by
    rw [e1, e2]
    have := @Ev.sStep L (op - 1) 0 s ⟨r.1, s.tr ++ [op - 1], s.done + 1, 0⟩ false (by omega) (by rw [hr]; exact Ev.s0)
    rw [hr] at this
    exact this
  have := Ev.rStr hi hl hc (by rw [e1]; exact ho) (by rw [e1]; exact h1) hs he
  simpa using this
theorem dv_loop {L : List Ins} {b : Int} {n1 n2 n3 : Nat} {y : Int} (h : DvOk b n1 n2 n3 y) {c u : Int} (hu : pw b c.toNat = u) {i : Nat} (hl1 : i + 1 < L.length) (hL1 : L[i + 1] = ⟨3, 1⟩) (hD : 0 ≤ y * u) :
    ∀ (q : Nat) (R N : Int) (tr : List Int) (dn k : Nat), 0 ≤ R → R < pw b n2 → 0 ≤ N → N < pw b n3 → (q : Int) * (y * u) ≤ R → R < ((q : Int) + 1) * (y * u) → dn + 2 * (q + 1) ≤ 3000 →
      ∃ tr', Ev L (.loop 9 0 (i + 1) (i + 2) k) ⟨mchV b n1 n2 n3 y R N c, tr, dn, 0⟩ ⟨mchV b n1 n2 n3 y ((R - ((q : Int) + 1) * (y * u)) % pw b n2) ((N - ((q : Int) + 1) * u) % pw b n3) c, tr', dn + 2 * (q + 1), 0⟩ false
  | 0, R, N, tr, dn, k, h0, h1, h2, h3, h4, h5, h6 => by
    have ht := turn_mch h (R := R) (N := N) ⟨h0, h1⟩ ⟨h2, h3⟩ (-1) u hu
    refine ⟨tr ++ [2], ?_⟩
    have hb : R + -1 * (y * u) < 0 := by simp at h5; omega
    have hst : strokeT 2 (mchV b n1 n2 n3 y R N c) = (mchV b n1 n2 n3 y ((R + -1 * (y * u)) % pw b n2) ((N + -1 * u) % pw b n3) c, true) := by
      rw [show strokeT 2 (mchV b n1 n2 n3 y R N c) = turnT (mchV b n1 n2 n3 y R N c) (-1) from rfl, ht, decide_eq_true hb, Bool.true_or]
    have hrun := run_one (L := L) (i := i + 1) (tt := i + 2) (by omega) hl1 hL1 rfl (by decide) (s := ⟨mchV b n1 n2 n3 y R N c, tr, dn + 1, 0⟩) rfl (by show dn + 1 < 3000; omega) hst (Ev.rEnd (by omega))
    have := Ev.lOut (L := L) (op := 9) (arg := 0) (i := i + 1) (e := i + 2) (k := k) (s := ⟨mchV b n1 n2 n3 y R N c, tr, dn, 0⟩) (by omega) (by show ¬ dn = 3000; omega) hrun (.inr ⟨rfl, rfl⟩)
    simpa [Int.sub_eq_add_neg] using this
  | q + 1, R, N, tr, dn, k, h0, h1, h2, h3, h4, h5, h6 => by
    have ht := turn_mch h (R := R) (N := N) ⟨h0, h1⟩ ⟨h2, h3⟩ (-1) u hu
    have q1 := pw_pos b h.b2 n3
    have m1 : ((q + 1 : Nat) : Int) * (y * u) = (q : Int) * (y * u) + y * u := by rw [Int.natCast_succ, Int.add_mul, Int.one_mul]
    have m2 : (((q + 1 : Nat) : Int) + 1) * (y * u) = ((q : Int) + 1) * (y * u) + y * u := by rw [Int.natCast_succ, Int.add_mul, Int.one_mul]
    have m3 : ((q : Int) + 1) * (y * u) = (q : Int) * (y * u) + y * u := by rw [Int.add_mul, Int.one_mul]
    have hqD : 0 ≤ (q : Int) * (y * u) := Int.mul_nonneg (by omega) hD
    have hb : ¬ R + -1 * (y * u) < 0 := by omega
    have hb2 : ¬ pw b n2 ≤ R + -1 * (y * u) := by omega
    have hst : strokeT 2 (mchV b n1 n2 n3 y R N c) = (mchV b n1 n2 n3 y (R - y * u) ((N + -1 * u) % pw b n3) c, false) := by
      rw [show strokeT 2 (mchV b n1 n2 n3 y R N c) = turnT (mchV b n1 n2 n3 y R N c) (-1) from rfl, ht, decide_eq_false hb, decide_eq_false hb2, Int.emod_eq_of_lt (by omega) (by omega), show R + -1 * (y * u) = R - y * u by omega]
      rfl
    have hrun := run_one (L := L) (i := i + 1) (tt := i + 2) (by omega) hl1 hL1 rfl (by decide) (s := ⟨mchV b n1 n2 n3 y R N c, tr, dn + 1, 0⟩) rfl (by show dn + 1 < 3000; omega) hst (Ev.rEnd (by omega))
    obtain ⟨tr', hev⟩ := dv_loop h hu hl1 hL1 hD q (R - y * u) ((N + -1 * u) % pw b n3) (tr ++ [2]) (dn + 2) (k + 1) (by omega) (by omega) (Int.emod_nonneg _ (by omega)) (Int.emod_lt_of_pos _ (by omega)) (by omega) (by omega) (by omega)
    refine ⟨tr', ?_⟩
    have e1 : (R - y * u - ((q : Int) + 1) * (y * u)) % pw b n2 = (R - (((q + 1 : Nat) : Int) + 1) * (y * u)) % pw b n2 := by congr 1; omega
    have e2 : ((N + -1 * u) % pw b n3 - ((q : Int) + 1) * u) % pw b n3 = (N - (((q + 1 : Nat) : Int) + 1) * u) % pw b n3 := by
      rw [Int.sub_eq_add_neg, Int.emod_add_emod]
      congr 1
      rw [Int.natCast_succ, Int.add_mul ((q : Int) + 1) 1 u]; omega
    rw [e1, e2, show dn + 2 + 2 * (q + 1) = dn + 2 * (q + 1 + 1) by omega] at hev
    exact Ev.lStep (L := L) (op := 9) (arg := 0) (i := i + 1) (e := i + 2) (k := k) (s := ⟨mchV b n1 n2 n3 y R N c, tr, dn, 0⟩) (by omega) (by show ¬ dn = 3000; omega) hrun ⟨rfl, by simp⟩ hev
theorem right_str {L : List Ins} {b : Int} {n1 n2 n3 : Nat} {y R N : Int} {p : Int} (hp : ∀ c, vplaces (mchV b n1 n2 n3 y R N c) = p) :
    ∀ (n : Nat) (c : Int) (tr : List Int) (dn : Nat), 0 ≤ c → c + n ≤ p - 1 → dn + n ≤ 3000 →
      ∃ tr', Ev L (.str 3 n) ⟨mchV b n1 n2 n3 y R N c, tr, dn, 0⟩ ⟨mchV b n1 n2 n3 y R N (c + n), tr', dn + n, 0⟩ false
  | 0, c, tr, dn, _, _, _ => ⟨tr, by simpa using Ev.s0⟩
  | n + 1, c, tr, dn, h0, h1, h2 => by
    have hst : strokeT 3 (mchV b n1 n2 n3 y R N c) = (mchV b n1 n2 n3 y R N (c + 1), false) := by
      have : ¬ (mchV b n1 n2 n3 y R N c).carry + 1 = vplaces (mchV b n1 n2 n3 y R N c) := by rw [hp]; show ¬ c + 1 = p; omega
      unfold strokeT
      rw [if_neg (by decide), if_neg (by decide), if_pos rfl, if_neg this]; rfl
    obtain ⟨tr', hev⟩ := right_str hp n (c + 1) (tr ++ [3]) (dn + 1) (by omega) (by omega) (by omega)
    refine ⟨tr', ?_⟩
    rw [show c + 1 + (n : Int) = c + ((n + 1 : Nat) : Int) by omega, show dn + 1 + n = dn + (n + 1) by omega] at hev
    have := @Ev.sStep L 3 n ⟨mchV b n1 n2 n3 y R N c, tr, dn, 0⟩ _ false (by show ¬ dn = 3000; omega) (by rw [hst]; exact hev)
    rw [hst] at this
    exact this
/-- where the parts of the program lie -/
def offP (p : Nat) : Nat := if 1 < p then 1 else 0
theorem div_shape : ∀ p : Fin 17, ∀ j : Fin 17, j.val < p.val → (divProg p.val).length = offP p.val + 5 * p.val - 1 ∧ (divProg p.val)[offP p.val + 5 * j.val]? = some ⟨9, 0⟩ ∧ (divProg p.val)[offP p.val + 5 * j.val + 1]? = some ⟨3, 1⟩ ∧ (divProg p.val)[offP p.val + 5 * j.val + 3]? = some ⟨2, 1⟩ ∧ (j.val + 1 < p.val → (divProg p.val)[offP p.val + 5 * j.val + 4]? = some ⟨5, 1⟩) ∧
    depA (divProg p.val) (offP p.val + 5 * j.val) = 0 ∧ depA (divProg p.val) (offP p.val + 5 * j.val + 1) = 1 ∧ depA (divProg p.val) (offP p.val + 5 * j.val + 2) = 1 ∧ depA (divProg p.val) (offP p.val + 5 * j.val + 3) = 0 := by decide +kernel
theorem div_match {p j : Nat} (hp : p ≤ 16) (hj : j < p) : IsMatch (divProg p) (offP p + 5 * j) (offP p + 5 * j + 2) := by
  obtain ⟨h1, h2, h3, h4, h5, d0, d1, d2, d3⟩ := div_shape ⟨p, by omega⟩ ⟨j, by omega⟩ hj
  simp only at h1 h2 h3 h4 h5 d0 d1 d2 d3
  refine ⟨by omega, by rw [h1]; omega, by rw [d3, d0], fun k hk1 hk2 => ?_⟩
  have : k = offP p + 5 * j + 1 ∨ k = offP p + 5 * j + 2 := by omega
  rcases this with rfl | rfl
  · rw [d0, d1]; decide
  · rw [d0, d2]; decide
theorem get_of {L : List Ins} {i : Nat} {x : Ins} (h : L[i]? = some x) : ∃ hl : i < L.length, L[i] = x := by
  obtain ⟨hl, e⟩ := List.getElem?_eq_some_iff.1 h
  exact ⟨hl, e⟩
theorem dv_place {b : Int} {n1 n2 n3 : Nat} {y : Int} (h : DvOk b n1 n2 n3 y) (hy : 1 ≤ y) {p j : Nat} (hp16 : p ≤ 16) (hj : j < p) {c u : Int} (hu : pw b c.toNat = u) (hu1 : 1 ≤ u) {q : Nat} {R N : Int} {tr : List Int} {dn : Nat}
    (h0 : 0 ≤ R) (h1 : R < pw b n2) (h2 : 0 ≤ N) (h3 : N < pw b n3) (h4 : (q : Int) * (y * u) ≤ R) (h5 : R < ((q : Int) + 1) * (y * u)) (h6 : dn + 2 * (q + 1) + 1 ≤ 3000) :
    ∃ tr', ∀ (s' : RS) (b' : Bool), Ev (divProg p) (.run (offP p + 5 * j + 4) (divProg p).length) ⟨mchV b n1 n2 n3 y (R - (q : Int) * (y * u)) ((N - (q : Int) * u) % pw b n3) c, tr', dn + 2 * (q + 1) + 1, 0⟩ s' b' →
      ∃ b'', Ev (divProg p) (.run (offP p + 5 * j) (divProg p).length) ⟨mchV b n1 n2 n3 y R N c, tr, dn, 0⟩ s' b'' := by
  obtain ⟨g1, g2, g3, g4, -⟩ := div_shape ⟨p, by omega⟩ ⟨j, by omega⟩ hj
  simp only at g1 g2 g3 g4
  obtain ⟨l0, e0⟩ := get_of g2
  obtain ⟨l1, e1⟩ := get_of g3
  obtain ⟨l3, e3⟩ := get_of g4
  have q1 := pw_pos b h.b2 n3
  have q2 := pw_pos b h.b2 n2
  have hD : 0 ≤ y * u := Int.mul_nonneg (by omega) (by omega)
  have hqD : 0 ≤ (q : Int) * (y * u) := Int.mul_nonneg (by omega) hD
  obtain ⟨tr1, hlp⟩ := dv_loop (L := divProg p) h hu l1 e1 hD q R N tr dn 0 h0 h1 h2 h3 h4 h5 (by omega)
  have ht := turn_mch h (c := c) (R := (R - ((q : Int) + 1) * (y * u)) % pw b n2) (N := (N - ((q : Int) + 1) * u) % pw b n3) ⟨Int.emod_nonneg _ (by omega), Int.emod_lt_of_pos _ (by omega)⟩ ⟨Int.emod_nonneg _ (by omega), Int.emod_lt_of_pos _ (by omega)⟩ 1 u hu
  have f1 : ((R - ((q : Int) + 1) * (y * u)) % pw b n2 + 1 * (y * u)) % pw b n2 = R - (q : Int) * (y * u) := by
    rw [Int.emod_add_emod, show R - ((q : Int) + 1) * (y * u) + 1 * (y * u) = R - (q : Int) * (y * u) by rw [Int.add_mul]; omega]
    exact Int.emod_eq_of_lt (by omega) (by omega)
  have f2 : ((N - ((q : Int) + 1) * u) % pw b n3 + 1 * u) % pw b n3 = (N - (q : Int) * u) % pw b n3 := by
    rw [Int.emod_add_emod, show N - ((q : Int) + 1) * u + 1 * u = N - (q : Int) * u by rw [Int.add_mul]; omega]
  rw [f1, f2] at ht
  refine ⟨tr1 ++ [1], fun s' b' he => ?_⟩
  have hst : strokeT (2 - 1) (mchV b n1 n2 n3 y ((R - ((q : Int) + 1) * (y * u)) % pw b n2) ((N - ((q : Int) + 1) * u) % pw b n3) c) = _ := ht
  have h7 := run_one (L := divProg p) (i := offP p + 5 * j + 3) (tt := (divProg p).length) l3 l3 e3 rfl (by decide) (s := ⟨mchV b n1 n2 n3 y ((R - ((q : Int) + 1) * (y * u)) % pw b n2) ((N - ((q : Int) + 1) * u) % pw b n3) c, tr1, dn + 2 * (q + 1), 0⟩) rfl (by show dn + 2 * (q + 1) < 3000; omega) hst he
  have hop : (divProg p)[offP p + 5 * j].op = 9 := by rw [e0]
  have har : (divProg p)[offP p + 5 * j].arg = 0 := by rw [e0]
  exact ⟨_, Ev.rLoop l0 l0 rfl (by rw [hop]; rfl) (div_match hp16 hj) (by rw [hop, har]; exact hlp) h7⟩
theorem dv_parts {b : Int} {n1 n2 n3 : Nat} {y x : Int} (h : DvOk b n1 n2 n3 y) (hb16 : b ≤ 16) (hy : 1 ≤ y) {p : Nat} (hp16 : p ≤ 16) :
    ∀ (r j : Nat) (R Q : Int) (tr : List Int) (dn : Nat), j + (r + 1) = p → 0 ≤ R → R < pw b n2 → R < y * pw b (r + 1) → x = Q * y + R → dn + 34 * (r + 1) ≤ 3000 →
      ∃ (R' Q' : Int) (s' : RS) (b' : Bool), Ev (divProg p) (.run (offP p + 5 * j) (divProg p).length) ⟨mchV b n1 n2 n3 y R ((-Q) % pw b n3) (r : Int), tr, dn, 0⟩ s' b' ∧ s'.code = 0 ∧ s'.m = mchV b n1 n2 n3 y R' ((-Q') % pw b n3) 0 ∧ 0 ≤ R' ∧ R' < y ∧ R' < pw b n2 ∧ x = Q' * y + R' := by
  intro r
  induction r with
  | zero =>
    intro j R Q tr dn hj h0 h1 h2 h3 h4
    obtain ⟨g1, -⟩ := div_shape ⟨p, by omega⟩ ⟨j, by omega⟩ (show j < p by omega)
    simp only at g1
    have q1 := pw_pos b h.b2 n3
    simp only [pw, Int.one_mul] at h2
    have hq0 : 0 ≤ R / y := Int.ediv_nonneg h0 (by omega)
    have hqb : R / y < b := Int.ediv_lt_of_lt_mul (by omega) (by rw [Int.mul_comm]; exact h2)
    obtain ⟨q, hq⟩ : ∃ q : Nat, R / y = q := ⟨(R / y).toNat, by omega⟩
    have hmd := Int.emod_add_mul_ediv R y
    have hm0 := Int.emod_nonneg R (show y ≠ 0 by omega)
    have hm1 := Int.emod_lt_of_pos R (show 0 < y by omega)
    rw [hq, Int.mul_comm] at hmd
    obtain ⟨tr1, hk⟩ := dv_place h hy hp16 (show j < p by omega) (c := 0) (u := 1) rfl (by omega) (q := q) (R := R) (N := (-Q) % pw b n3) (tr := tr) (dn := dn) h0 h1 (Int.emod_nonneg _ (by omega)) (Int.emod_lt_of_pos _ (by omega)) (by rw [Int.mul_one]; omega) (by rw [Int.mul_one, Int.add_mul, Int.one_mul]; omega) (by omega)
    obtain ⟨b'', hev⟩ := hk _ _ (Ev.rEnd (by rw [g1]; omega))
    refine ⟨R - (q : Int) * (y * 1), Q + q, _, _, hev, rfl, ?_, by rw [Int.mul_one]; omega, by rw [Int.mul_one]; omega, ?_, ?_⟩
    · have e1 : ((-Q) % pw b n3 - (q : Int) * 1) % pw b n3 = (-(Q + q)) % pw b n3 := by
        rw [Int.sub_eq_add_neg, Int.emod_add_emod]; congr 1; omega
      show mchV b n1 n2 n3 y _ (((-Q) % pw b n3 - (q : Int) * 1) % pw b n3) 0 = _
      rw [e1]
    · have hqy : 0 ≤ (q : Int) * y := Int.mul_nonneg (by omega) (by omega)
      rw [Int.mul_one]; omega
    · rw [Int.mul_one, Int.add_mul]; omega
  | succ r ih =>
    intro j R Q tr dn hj h0 h1 h2 h3 h4
    obtain ⟨g1, -, -, -, g5, -⟩ := div_shape ⟨p, by omega⟩ ⟨j, by omega⟩ (show j < p by omega)
    simp only at g1 g5
    obtain ⟨l4, e4⟩ := get_of (g5 (by omega))
    have q1 := pw_pos b h.b2 n3
    obtain ⟨u, hu⟩ : ∃ u, pw b (r + 1) = u := ⟨_, rfl⟩
    have hu1 : 1 ≤ u := by rw [← hu]; exact pw_pos b h.b2 _
    have hub : pw b (r + 1 + 1) = u * b := by rw [pw_succ, hu]
    have hD1 : y * 1 ≤ y * u := Int.mul_le_mul_of_nonneg_left hu1 (by omega)
    rw [Int.mul_one] at hD1
    rw [hub, ← Int.mul_assoc] at h2
    obtain ⟨D, hD⟩ : ∃ D, y * u = D := ⟨_, rfl⟩
    rw [hD] at h2 hD1
    have hq0 : 0 ≤ R / D := Int.ediv_nonneg h0 (by omega)
    have hqb : R / D < b := Int.ediv_lt_of_lt_mul (by omega) (by rw [Int.mul_comm]; exact h2)
    obtain ⟨q, hq⟩ : ∃ q : Nat, R / D = q := ⟨(R / D).toNat, by omega⟩
    have hmd := Int.emod_add_mul_ediv R D
    have hm0 := Int.emod_nonneg R (show D ≠ 0 by omega)
    have hm1 := Int.emod_lt_of_pos R (show 0 < D by omega)
    rw [hq, Int.mul_comm] at hmd
    have hqD : 0 ≤ (q : Int) * D := Int.mul_nonneg (by omega) (by omega)
    obtain ⟨tr1, hk⟩ := dv_place h hy hp16 (show j < p by omega) (c := ((r + 1 : Nat) : Int)) (u := u) (by rw [Int.toNat_natCast]; exact hu) hu1 (q := q) (R := R) (N := (-Q) % pw b n3) (tr := tr) (dn := dn) h0 h1 (Int.emod_nonneg _ (by omega)) (Int.emod_lt_of_pos _ (by omega)) (by rw [hD]; omega) (by rw [hD, Int.add_mul, Int.one_mul]; omega) (by omega)
    rw [hD] at hk
    have e1 : ((-Q) % pw b n3 - (q : Int) * u) % pw b n3 = (-(Q + q * u)) % pw b n3 := by
      rw [Int.sub_eq_add_neg, Int.emod_add_emod]; congr 1; omega
    rw [e1] at hk
    have hx : x = (Q + q * u) * y + (R - (q : Int) * D) := by
      rw [Int.add_mul, Int.mul_assoc, Int.mul_comm u y, hD]; omega
    obtain ⟨R', Q', s', b', hev, hc, hm, r0, r1, r2, hxx⟩ := ih (j + 1) (R - (q : Int) * D) (Q + q * u) (tr1 ++ [4]) (dn + 2 * (q + 1) + 1 + 1) (by omega) (by omega) (by omega) (by rw [hu, hD]; omega) hx (by omega)
    rw [show offP p + 5 * (j + 1) = offP p + 5 * j + 4 + 1 by omega] at hev
    have hst : strokeT (5 - 1) (mchV b n1 n2 n3 y (R - (q : Int) * D) ((-(Q + q * u)) % pw b n3) ((r + 1 : Nat) : Int)) = (mchV b n1 n2 n3 y (R - (q : Int) * D) ((-(Q + q * u)) % pw b n3) (r : Int), false) := by
      have hne : ¬ (mchV b n1 n2 n3 y (R - (q : Int) * D) ((-(Q + q * u)) % pw b n3) ((r + 1 : Nat) : Int)).carry = 0 := by show ¬ ((r + 1 : Nat) : Int) = 0; omega
      unfold strokeT
      rw [if_neg (by decide), if_neg (by decide), if_neg (by decide), if_pos (by decide), if_neg hne]
      show (mchV b n1 n2 n3 y (R - (q : Int) * D) ((-(Q + q * u)) % pw b n3) (((r + 1 : Nat) : Int) - 1), false) = _
      rw [show ((r + 1 : Nat) : Int) - 1 = (r : Int) by omega]
    have h7 := run_one (L := divProg p) (i := offP p + 5 * j + 4) (tt := (divProg p).length) l4 l4 e4 rfl (by decide) (s := ⟨mchV b n1 n2 n3 y (R - (q : Int) * D) ((-(Q + q * u)) % pw b n3) ((r + 1 : Nat) : Int), tr1, dn + 2 * (q + 1) + 1, 0⟩) rfl (by show dn + 2 * (q + 1) + 1 < 3000; omega) hst hev
    obtain ⟨b'', h8⟩ := hk _ _ h7
    exact ⟨R', Q', s', b'', h8, hc, hm, r0, r1, r2, hxx⟩
/-- the whole program -/
theorem dv_run {b : Int} {n1 n2 n3 : Nat} {y x : Int} (h : DvOk b n1 n2 n3 y) (hb16 : b ≤ 16) (hy : 1 ≤ y) {p : Nat} (hp1 : 1 ≤ p) (hp16 : p ≤ 16) (hpl : ∀ R N c, vplaces (mchV b n1 n2 n3 y R N c) = p) (hx0 : 0 ≤ x) (hx1 : x < pw b n2) (hxy : x < y * pw b p) :
    ∃ (R' Q' : Int) (s' : RS) (b' : Bool), Ev (divProg p) (.run 0 (divProg p).length) (startR (mchV b n1 n2 n3 y x 0 0)) s' b' ∧ s'.code = 0 ∧ s'.m = mchV b n1 n2 n3 y R' ((-Q') % pw b n3) 0 ∧ 0 ≤ R' ∧ R' < y ∧ R' < pw b n2 ∧ x = Q' * y + R' := by
  obtain ⟨r, rfl⟩ : ∃ r, p = r + 1 := ⟨p - 1, by omega⟩
  rcases Nat.eq_zero_or_pos r with hr | hr
  · subst hr
    obtain ⟨R', Q', s', b', hev, rest⟩ := dv_parts (x := x) h hb16 hy hp16 0 0 x 0 [] 0 rfl hx0 hx1 hxy (by omega) (by omega)
    refine ⟨R', Q', s', b', ?_, rest⟩
    simpa [offP, startR] using hev
  · obtain ⟨tr1, hs⟩ := right_str (L := divProg (r + 1)) (R := x) (N := 0) (fun c => hpl x 0 c) r 0 [] 0 (by omega) (by omega) (by omega)
    obtain ⟨R', Q', s', b', hev, rest⟩ := dv_parts (x := x) h hb16 hy hp16 r 0 x 0 tr1 r (by omega) hx0 hx1 hxy (by omega) (by omega)
    have hL0 : (divProg (r + 1))[0]? = some ⟨4, ((r + 1 : Nat) : Int) - 1⟩ := by
      have H : ∀ p : Fin 17, 1 < p.val → (divProg p.val)[0]? = some ⟨4, (p.val : Int) - 1⟩ := by decide +kernel
      exact H ⟨r + 1, by omega⟩ (by show 1 < r + 1; omega)
    obtain ⟨l0, e0⟩ := get_of hL0
    have hop : (divProg (r + 1))[0].op = 4 := by rw [e0]
    have har : (max (1 : Int) (divProg (r + 1))[0].arg).toNat = r := by rw [e0]; show (max (1 : Int) (((r + 1 : Nat) : Int) - 1)).toNat = r; omega
    refine ⟨R', Q', s', false || b', ?_, rest⟩
    refine Ev.rStr (by omega) l0 rfl (by rw [hop]; rfl) (by rw [hop]; decide) (by rw [hop, har]; exact hs) ?_
    have ho : offP (r + 1) = 1 := by unfold offP; rw [if_pos (by omega)]
    rw [ho] at hev
    simpa using hev
theorem dv_law {t : Tri} {x y : Int} (hv : vmach t = true) (h : dvC t x y = 0) : dvQ t x y * y + dvR t x y = x ∧ 0 ≤ dvR t x y ∧ dvR t x y < y ∧ 0 ≤ dvQ t x y * y ∧ dvQ t x y * y ≤ x ∧ x ≤ 1000000000001 := by
  obtain ⟨k1, k2, k3, e1, e2, f1, f2, l1, c0, c1⟩ := vmach_all hv
  obtain ⟨⟨b1, b2⟩, ⟨n1, n2⟩, -⟩ := vreg_iff.1 k1
  obtain ⟨⟨b3, b4⟩, ⟨n3, n4⟩, -⟩ := vreg_iff.1 k2
  obtain ⟨⟨b5, b6⟩, ⟨n5, n6⟩, -⟩ := vreg_iff.1 k3
  obtain ⟨v1, v2, v3, v4, v5⟩ := vplaces_bd hv
  have hx : betB x 0 (pw t.b.base t.b.digits.length - 1) = true := by
    cases hb : betB x 0 (pw t.b.base t.b.digits.length - 1) with
    | true => rfl
    | false => unfold dvC at h; rw [hv, hb] at h; simp at h
  have hy : betB y 1 (pw t.a.base t.a.digits.length - 1) = true := by
    cases hb : betB y 1 (pw t.a.base t.a.digits.length - 1) with
    | true => rfl
    | false => unfold dvC at h; rw [hv, hx, hb] at h; simp at h
  have hq : ¬ pw t.a.base (vplaces t).toNat ≤ x.tdiv y := fun hc => by
    unfold dvC at h; rw [hv, hx, hy, if_neg (by decide), if_neg (by decide), if_neg (by decide), if_pos hc] at h; cases h
  obtain ⟨x0, x1⟩ := betB_iff.1 hx
  obtain ⟨y0, y1⟩ := betB_iff.1 hy
  have hm := pw_mono t.a.base (by omega) _ _ l1
  have hm3 := pw_mono t.a.base (by omega) (vplaces t).toNat t.s.digits.length (by unfold vplaces; omega)
  rw [← e1] at f1 x1
  have e3 : t.s.base = t.a.base := e2.trans e1.symm
  rw [e3] at f2
  have hok : DvOk t.a.base t.a.digits.length t.b.digits.length t.s.digits.length y := ⟨b1, by omega, by omega, by omega, f1, f2⟩
  obtain ⟨P, hP⟩ : ∃ P, pw t.a.base (vplaces t).toNat = P := ⟨_, rfl⟩
  rw [hP] at hq hm3
  have hdiv : x.tdiv y = x / y := Int.tdiv_eq_ediv_of_nonneg x0
  rw [hdiv] at hq
  have hxy : x < y * P := by
    rw [Int.mul_comm]; exact Int.lt_mul_of_ediv_lt (by omega) (by omega)
  obtain ⟨R', Q', s', b', hev, hc, hmm, r0, r1, r2, hxx⟩ := dv_run (x := x) hok b2 y0 v1 v2 (fun R N c => by rw [v3]; simp [vplaces, mchV, digD_len]) x0 (by omega) (by rw [hP]; exact hxy)
  have hstart : dvStart t x y = mchV t.a.base t.a.digits.length t.b.digits.length t.s.digits.length y x 0 0 := by
    unfold dvStart mchV; rw [← e1, e3]
  obtain ⟨a1, a2, -, -⟩ := dv_fine (x := x) (y := y) h (by rw [hstart]; exact hev)
  rw [hmm] at a1 a2
  have hQ0 : 0 ≤ Q' := by
    rcases Int.lt_or_le Q' 0 with hn | hn
    · have : Q' * y ≤ (-1) * y := Int.mul_le_mul_of_nonneg_right (by omega) (by omega)
      omega
    · exact hn
  have hQP : Q' < P := by
    rcases Int.lt_or_le Q' P with hn | hn
    · exact hn
    · have : P * y ≤ Q' * y := Int.mul_le_mul_of_nonneg_right hn (by omega)
      rw [Int.mul_comm] at hxy
      omega
  have q1 := pw_pos t.a.base b1 t.s.digits.length
  have hr : dvR t x y = R' := by
    rw [a2]; exact valL_dig b1 f1 r0 r2
  have hvn : valL t.a.base (digD t.a.base t.s.digits.length ((-Q') % pw t.a.base t.s.digits.length)) = (-Q') % pw t.a.base t.s.digits.length := valL_dig b1 f2 (Int.emod_nonneg _ (by omega)) (Int.emod_lt_of_pos _ (by omega))
  have hqq : dvQ t x y = Q' := by
    rw [a1]
    show (pw t.s.base t.s.digits.length - valL t.a.base (digD t.a.base t.s.digits.length ((-Q') % pw t.a.base t.s.digits.length))).tmod (pw t.s.base t.s.digits.length) = Q'
    rw [hvn, e3]
    have h1 := Int.emod_lt_of_pos (-Q') (show 0 < pw t.a.base t.s.digits.length by omega)
    rw [Int.tmod_eq_emod_of_nonneg (by omega), Int.sub_emod, Int.emod_emod, ← Int.sub_emod, show pw t.a.base t.s.digits.length - -Q' = Q' + pw t.a.base t.s.digits.length by omega, Int.add_emod_right]
    exact Int.emod_eq_of_lt hQ0 (by omega)
  have hq0 : 0 ≤ Q' * y := Int.mul_nonneg hQ0 (by omega)
  rw [hr, hqq]
  omega
end Go.Proofs.YtafnebpbfmbgiaaGreatDoor

namespace Go.Proofs.YtafnebpbfmbgiaaGreatDoor
open Go.RowKit Go.Sort
end Go.Proofs.YtafnebpbfmbgiaaGreatDoor

namespace Go.Proofs.YtafnebpbfmbgiaaGreatDoor
open Go.RowKit Go.Sort
/-- the program that adds values -/
def inV (vs : List Int) : Bool := vs.all (fun v => betB v 0 1000000000000)
theorem inV_take_succ {vs : List Int} {k : Nat} (h : k < vs.length) : inV (vs.take (k + 1)) = (inV (vs.take k) && betB vs[k] 0 1000000000000) := by
  unfold inV; rw [List.take_succ_eq_append_getElem h, List.all_append]; simp only [List.all_cons, List.all_nil, Bool.and_true]
theorem inV_not {vs : List Int} {k : Nat} (h : k < vs.length) (h1 : betB vs[k] 0 1000000000000 = false) : inV vs = false := by
  simp only [inV, List.all_eq_false]; exact ⟨vs[k], List.getElem_mem _, by simp [h1]⟩
def sumL (vs : List Int) : List Ins := ⟨6, 0⟩ :: vs.flatMap (fun v => [⟨1, v⟩, ⟨2, 1⟩])
theorem sumL_step {vs : List Int} {k : Nat} (h : k < vs.length) : sumL (vs.take (k + 1)) = sumL (vs.take k) ++ [⟨1, vs[k]⟩, ⟨2, 1⟩] := by
  unfold sumL; rw [List.take_succ_eq_append_getElem h, List.flatMap_append]; rfl
theorem sumL_len (vs : List Int) : (sumL vs).length = 1 + 2 * vs.length := by
  unfold sumL
  induction vs with
  | nil => rfl
  | cons v vs ih => simp only [List.flatMap_cons, List.length_cons, List.length_append, List.length_nil] at ih ⊢; omega
def spC (vs : List Int) : Int := if inV vs = false then 2 else if 120 < 2 * (vs.length : Int) + 1 then 5 else 0
def spL (vs : List Int) : List Ins := if spC vs = 0 then sumL vs else []
theorem sp_bad {vs : List Int} {c : Int} (h : spC vs = c) (hc : ¬ c = 0) : spC vs = c ∧ spL vs = [] := ⟨h, by unfold spL; rw [h, if_neg hc]⟩
theorem sp_fine {vs : List Int} (h : spC vs = 0) : spC vs = 0 ∧ spL vs = sumL vs := ⟨h, by unfold spL; rw [h, if_pos rfl]⟩
def SPRet (vs : List Int) (w : World) (e : Ending) (w' : World) : Prop := ∃ LA lc, e = .returned (.tuple #[.slice LA (spL vs).length lc, .int .i64 (spC vs)]) ∧ Kn w [rowIns (.slice LA (spL vs).length lc) (spL vs)] w'
theorem SPRet.bad {vs : List Int} {c : Int} {w w' : World} (h : spC vs = c ∧ spL vs = []) (hk : Kn w [] w') : SPRet vs w (.returned (.tuple #[.slice none 0 0, .int .i64 c])) w' := by
  unfold SPRet
  rw [h.1, h.2]
  exact ⟨none, 0, rfl, hk.nilRow _ _⟩
theorem SPRet.fine {vs : List Int} {w w' : World} {A : Option Addr} {c : Nat} (h : spC vs = 0 ∧ spL vs = sumL vs) (hk : Kn w [rowIns (.slice A (sumL vs).length c) (sumL vs)] w') : SPRet vs w (.returned (.tuple #[.slice A (sumL vs).length c, .int .i64 0])) w' := by
  unfold SPRet
  rw [h.1, h.2]
  exact ⟨A, c, rfl, hk⟩
end Go.Proofs.YtafnebpbfmbgiaaGreatDoor

namespace Go.Proofs.YtafnebpbfmbgiaaGreatDoor
open Go.RowKit Go.Sort
/-- a machine, a number, a code -/
def MSRet (M : Tri) (n c : Int) (w : World) (e : Ending) (w' : World) : Prop := ∃ A1 c1 A2 c2 A3 c3, e = .returned (.tuple #[.agg #[.int .i64 M.a.base, .slice A1 M.a.digits.length c1, .int .i64 M.b.base, .slice A2 M.b.digits.length c2, .int .i64 M.s.base, .slice A3 M.s.digits.length c3, .int .i64 M.carry], .int .i64 n, .int .i64 c]) ∧
  Kn w [rowI A3 c3 M.s.digits, rowI A2 c2 M.b.digits, rowI A1 c1 M.a.digits] w'
theorem MSRet.bad {w w' : World} {c : Int} (h : Kn w [] w') : MSRet zTri 0 c w (.returned (.tuple #[.agg #[.int .i64 0, .slice none 0 0, .int .i64 0, .slice none 0 0, .int .i64 0, .slice none 0 0, .int .i64 0], .int .i64 0, .int .i64 c])) w' :=
  ⟨none, 0, none, 0, none, 0, rfl, ((h.nilRow _ _).nilRow _ _).nilRow _ _⟩
noncomputable def soC (t : Tri) (vs : List Int) : Int := if vmach t = false then 1 else if spC vs = 0 then rpC (sumL vs) (clrT t) else spC vs
noncomputable def soM (t : Tri) (vs : List Int) : Tri := if vmach t = true ∧ spC vs = 0 then rpM (sumL vs) (clrT t) else zTri
noncomputable def soN (t : Tri) (vs : List Int) : Int := if vmach t = true ∧ spC vs = 0 then ((rpT (sumL vs) (clrT t)).length : Int) else 0
def SORet (t : Tri) (vs : List Int) (w : World) (e : Ending) (w' : World) : Prop := MSRet (soM t vs) (soN t vs) (soC t vs) w e w'
theorem so_bad {t : Tri} {vs : List Int} (h : vmach t = false) : soM t vs = zTri ∧ soN t vs = 0 ∧ soC t vs = 1 := by
  refine ⟨?_, ?_, ?_⟩
  · unfold soM; rw [if_neg (fun hh => by rw [h] at hh; exact absurd hh.1 (by decide))]
  · unfold soN; rw [if_neg (fun hh => by rw [h] at hh; exact absurd hh.1 (by decide))]
  · unfold soC; rw [if_pos h]
theorem so_bad2 {t : Tri} {vs : List Int} (h : vmach t = true) (h2 : ¬ spC vs = 0) : soM t vs = zTri ∧ soN t vs = 0 ∧ soC t vs = spC vs := by
  refine ⟨?_, ?_, ?_⟩
  · unfold soM; rw [if_neg (fun hh => h2 hh.2)]
  · unfold soN; rw [if_neg (fun hh => h2 hh.2)]
  · unfold soC; rw [if_neg (by rw [h]; decide), if_neg h2]
theorem so_fine {t : Tri} {vs : List Int} (h : vmach t = true) (h2 : spC vs = 0) : soM t vs = rpM (sumL vs) (clrT t) ∧ soN t vs = ((rpT (sumL vs) (clrT t)).length : Int) ∧ soC t vs = rpC (sumL vs) (clrT t) := by
  refine ⟨?_, ?_, ?_⟩
  · unfold soM; rw [if_pos ⟨h, h2⟩]
  · unfold soN; rw [if_pos ⟨h, h2⟩]
  · unfold soC; rw [if_neg (by rw [h]; decide), if_pos h2]
theorem soM_len (t : Tri) (vs : List Int) : (soM t vs).a.digits.length ≤ 16 ∧ (soM t vs).b.digits.length ≤ 16 ∧ (soM t vs).s.digits.length ≤ 16 := by
  unfold soM
  split
  · exact rpM_len _ _
  · exact ⟨by decide, by decide, by decide⟩
end Go.Proofs.YtafnebpbfmbgiaaGreatDoor

namespace Go.Proofs.YtafnebpbfmbgiaaGreatDoor
open Go.RowKit Go.Sort
def sameM (t u : Tri) : Bool := sameR t.a u.a && sameR t.b u.b && sameR t.s u.s && (t.carry == u.carry)
theorem sameR_refl (r : Reg) : sameR r r = true := by simp [sameR]
theorem sameM_refl (t : Tri) : sameM t t = true := by simp [sameM, sameR_refl]
set_option maxRecDepth 100000 in
set_option maxHeartbeats 1600000 in
theorem l10Same_any (p q : Addr) (t u : Tri) (w : World) (hT : TriM w p t) (hU : TriM w q u) (hs : SmallTri t) (hu : SmallTri u) :
    Calls Tryz.prog 51 #[.pointer (some p), .pointer (some q)] w fun e w' => e = .returned (.bool (sameM t u)) ∧ ∃ m, w' = w.drewN m := by
  have HM := Lib.hid (show sameM t u = (sameR t.a u.a && sameR t.b u.b && sameR t.s u.s && (t.carry == u.carry)) from rfl)
  have K1 := (fun (m : Nat) => l02Same_any p q t.a u.a (w.drewN m) hT.1 hU.1 hs.1 hu.1)
  have K2 := (fun (m : Nat) => l02Same_any ⟨p.block, p.off + 2, none⟩ ⟨q.block, q.off + 2, none⟩ t.b u.b (w.drewN m) hT.2.1 hU.2.1 hs.2.1 hu.2.1)
  have K3 := (fun (m : Nat) => l02Same_any ⟨p.block, p.off + 4, none⟩ ⟨q.block, q.off + 4, none⟩ t.s u.s (w.drewN m) hT.2.2.1 hU.2.2.1 hs.2.2 hu.2.2)
  have hc1 := hT.2.2.2
  have hc2 := hU.2.2.2
  obtain ⟨e1, h1⟩ : ∃ b, sameR t.a u.a = b := ⟨_, rfl⟩
  obtain ⟨e2, h2⟩ : ∃ b, sameR t.b u.b = b := ⟨_, rfl⟩
  obtain ⟨e3, h3⟩ : ∃ b, sameR t.s u.s = b := ⟨_, rfl⟩
  rw [h1] at K1 HM
  rw [h2] at K2 HM
  rw [h3] at K3 HM
  replace K1 := Lib.hid K1
  replace K2 := Lib.hid K2
  replace K3 := Lib.hid K3
  obtain ⟨R, hR⟩ : ∃ R, sameM t u = R := ⟨_, rfl⟩
  rw [hR] at HM ⊢
  clear h1 h2 h3 hT hU hs hu hR
  rcases e1 with _ | _
  · have HQ : Hid (R = false) := by simp only [Hid]; rw [HM.out]; rfl
    go_enter Tryz.func51, Tryz.ntmps51
    go_wp2_with fail
    go_quiet ((go_at_call 92; first | (with_reducible exact quiet_of_ex (K1.out _)) | (with_reducible exact quiet_add_ex (K1.out _)) | (with_reducible exact quiet_of_ex (K2.out _)) | (with_reducible exact quiet_add_ex (K2.out _)) | (with_reducible exact quiet_of_ex (K3.out _)) | (with_reducible exact quiet_add_ex (K3.out _))))
    go_wp2_with fail
    go_ret
    exact ⟨ret_bool HQ.out.symm, by first | exact ⟨_, rfl⟩ | exact ⟨_, World.drewN_drewN _ _ _⟩⟩
  rcases e2 with _ | _
  · have HQ : Hid (R = false) := by simp only [Hid]; rw [HM.out]; rfl
    go_enter Tryz.func51, Tryz.ntmps51
    go_wp2_with fail
    go_quiet ((go_at_call 92; first | (with_reducible exact quiet_of_ex (K1.out _)) | (with_reducible exact quiet_add_ex (K1.out _)) | (with_reducible exact quiet_of_ex (K2.out _)) | (with_reducible exact quiet_add_ex (K2.out _)) | (with_reducible exact quiet_of_ex (K3.out _)) | (with_reducible exact quiet_add_ex (K3.out _))))
    go_wp2_with fail
    go_ret
    exact ⟨ret_bool HQ.out.symm, by first | exact ⟨_, rfl⟩ | exact ⟨_, World.drewN_drewN _ _ _⟩⟩
  rcases e3 with _ | _
  · have HQ : Hid (R = false) := by simp only [Hid]; rw [HM.out]; rfl
    go_enter Tryz.func51, Tryz.ntmps51
    go_wp2_with fail
    go_quiet ((go_at_call 92; first | (with_reducible exact quiet_of_ex (K1.out _)) | (with_reducible exact quiet_add_ex (K1.out _)) | (with_reducible exact quiet_of_ex (K2.out _)) | (with_reducible exact quiet_add_ex (K2.out _)) | (with_reducible exact quiet_of_ex (K3.out _)) | (with_reducible exact quiet_add_ex (K3.out _))))
    go_wp2_with fail
    go_ret
    exact ⟨ret_bool HQ.out.symm, by first | exact ⟨_, rfl⟩ | exact ⟨_, World.drewN_drewN _ _ _⟩⟩
  · have HQ : Hid (R = (t.carry == u.carry)) := by simp only [Hid]; rw [HM.out]; simp
    go_enter Tryz.func51, Tryz.ntmps51
    go_wp2_with fail
    go_quiet ((go_at_call 92; first | (with_reducible exact quiet_of_ex (K1.out _)) | (with_reducible exact quiet_add_ex (K1.out _)) | (with_reducible exact quiet_of_ex (K2.out _)) | (with_reducible exact quiet_add_ex (K2.out _)) | (with_reducible exact quiet_of_ex (K3.out _)) | (with_reducible exact quiet_add_ex (K3.out _))))
    go_wp2_with fail
    go_ret
    exact ⟨ret_bool HQ.out.symm, by first | exact ⟨_, rfl⟩ | exact ⟨_, World.drewN_drewN _ _ _⟩⟩
theorem specSameMachine_any (t u : Tri) (A1 A2 A3 B1 B2 B3 : Option Addr) (c1 c2 c3 d1 d2 d3 : Nat) (w : World) (r1 : RI w A1 t.a.digits.length t.a.digits) (r2 : RI w A2 t.b.digits.length t.b.digits) (r3 : RI w A3 t.s.digits.length t.s.digits)
    (q1 : RI w B1 u.a.digits.length u.a.digits) (q2 : RI w B2 u.b.digits.length u.b.digits) (q3 : RI w B3 u.s.digits.length u.s.digits) (hs : SmallTri t) (hu : SmallTri u) :
    Calls Tryz.prog 21 #[.agg #[.int .i64 t.a.base, .slice A1 t.a.digits.length c1, .int .i64 t.b.base, .slice A2 t.b.digits.length c2, .int .i64 t.s.base, .slice A3 t.s.digits.length c3, .int .i64 t.carry], .agg #[.int .i64 u.a.base, .slice B1 u.a.digits.length d1, .int .i64 u.b.base, .slice B2 u.b.digits.length d2, .int .i64 u.s.base, .slice B3 u.s.digits.length d3, .int .i64 u.carry]] w fun e w' => e = .returned (.bool (sameM t u)) ∧ Below w.heap.size w w' := by
  have KV := Lib.hid (fun W (hW : Kn w ([.blk (w.heap.size + 1) [.int .i64 u.a.base, .slice B1 u.a.digits.length d1, .int .i64 u.b.base, .slice B2 u.b.digits.length d2, .int .i64 u.s.base, .slice B3 u.s.digits.length d3, .int .i64 u.carry] 32, .blk w.heap.size [.int .i64 t.a.base, .slice A1 t.a.digits.length c1, .int .i64 t.b.base, .slice A2 t.b.digits.length c2, .int .i64 t.s.base, .slice A3 t.s.digits.length c3, .int .i64 t.carry] 32]) W) => l10Same_any ⟨w.heap.size, 0, none⟩ ⟨w.heap.size + 1, 0, none⟩ t u W
    (TriC.tri (A1 := A1) (c1 := c1) (A2 := A2) (c2 := c2) (A3 := A3) (c3 := c3) ⟨⟨hW.drop.blkAt.1 0, hW.drop.blkAt.1 1, hW.drop.blkAt.1 2, hW.drop.blkAt.1 3, hW.drop.blkAt.1 4, hW.drop.blkAt.1 5, hW.drop.blkAt.1 6⟩, r1.below hW.below, r2.below hW.below, r3.below hW.below⟩)
    (TriC.tri (A1 := B1) (c1 := d1) (A2 := B2) (c2 := d2) (A3 := B3) (c3 := d3) ⟨⟨hW.blkAt.1 0, hW.blkAt.1 1, hW.blkAt.1 2, hW.blkAt.1 3, hW.blkAt.1 4, hW.blkAt.1 5, hW.blkAt.1 6⟩, q1.below hW.below, q2.below hW.below, q3.below hW.below⟩) hs hu)
  clear r1 r2 r3 q1 q2 q3
  go_enter Tryz.func21, Tryz.ntmps21
  go_wp2_with fail
  refine Calls.kn (((Kn.nil w).al [.int .i64 t.a.base, .slice A1 t.a.digits.length c1, .int .i64 t.b.base, .slice A2 t.b.digits.length c2, .int .i64 t.s.base, .slice A3 t.s.digits.length c3, .int .i64 t.carry] 32).al [.int .i64 u.a.base, .slice B1 u.a.digits.length d1, .int .i64 u.b.base, .slice B2 u.b.digits.length d2, .int .i64 u.s.base, .slice B3 u.s.digits.length d3, .int .i64 u.carry] 32) ?_; intro w1 hK0
  simp only [World.size_alloc] at hK0
  refine (KV.out _ hK0).mono ?_; rintro e w2 ⟨rfl, m, rfl⟩
  go_wp2_with fail
  go_ret
  exact ⟨rfl, (hK0.drewN m).below⟩
end Go.Proofs.YtafnebpbfmbgiaaGreatDoor

namespace Go.Proofs.YtafnebpbfmbgiaaGreatDoor
open Go.RowKit Go.Sort
theorem f6bigP_any (A : Option Addr) (n c : Nat) (w : World) : Calls Tryz.prog 5 #[.slice A n c] w fun e w' => e = .returned (.bool (decide ((n : Int) > 4096))) ∧ w' = w := by
  go_enter Tryz.func5, Tryz.ntmps5
  go_wp2
  go_ret
  exact ⟨rfl, rfl⟩
theorem Kn.rowSmall {w0 w : World} {m : List Ent} {A : Option Addr} {c : Nat} {ds : List Int} (h : Kn w0 (rowI A c ds :: m) w) : ds.length ≤ 9223372036854775807 := by
  have h0 : w.ownsRow 0 2 1 (.slice A ds.length c) ds.length _ := h.at0
  rcases h0.2 with ⟨_, h2⟩ | ⟨g, cap, cur, hv, -, -, h5, h6, -⟩
  · omega
  · unfold maxLen at h6; omega
theorem sumL_fold : ∀ {vs : List Int}, inV vs = true → (vs.flatMap (fun v => [⟨1, v⟩, ⟨2, 1⟩] : Int → List Ins)).foldl stepI (some 0) = some 0
  | [], _ => rfl
  | v :: l, h => by
    simp only [inV, List.all_cons, Bool.and_eq_true] at h
    have h2 : inV l = true := h.2
    have e1 : stepI (some 0) ⟨1, v⟩ = some 0 := by simp [stepI, instrOk, h.1, depthStep, opens]
    have e2 : stepI (some 0) ⟨2, 1⟩ = some 0 := by decide
    simp only [List.flatMap_cons, List.foldl_append, List.foldl_cons, List.foldl_nil, e1, e2]
    exact sumL_fold h2
theorem sumL_ok {vs : List Int} (h : spC vs = 0) : vprog (sumL vs) = true := by
  unfold spC at h
  have hi : inV vs = true := by
    cases hv : inV vs with
    | true => rfl
    | false => rw [if_pos hv] at h; simp at h
  rw [if_neg (by rw [hi]; decide)] at h
  have hl : ¬ 120 < 2 * (vs.length : Int) + 1 := by
    intro h2; rw [if_pos h2] at h; simp at h
  have e1 : stepI (some 0) ⟨6, 0⟩ = some 0 := by decide
  unfold vprog
  simp only [Bool.and_eq_true, decide_eq_true_eq]
  refine ⟨?_, by rw [sumL_len]; omega⟩
  unfold progD sumL
  rw [List.foldl_cons, e1]
  exact sumL_fold hi
/-- the program that divides, and a code -/
def dpC (p : Int) : Int := if betB p 1 16 = true then 0 else 2
def dpL (p : Int) : List Ins := if betB p 1 16 = true then divProg p.toNat else []
def DPRet (p : Int) (w : World) (e : Ending) (w' : World) : Prop := ∃ LA lc, e = .returned (.tuple #[.slice LA (dpL p).length lc, .int .i64 (dpC p)]) ∧ Kn w [rowIns (.slice LA (dpL p).length lc) (dpL p)] w'
theorem dp_ok {p : Int} (h : dpC p = 0) : vprog (dpL p) = true := by
  unfold dpC at h
  unfold dpL
  split at h
  · rename_i hb
    rw [if_pos hb]
    have := betB_iff.1 hb
    exact divProg_ok (by omega) (by omega)
  · simp at h
end Go.Proofs.YtafnebpbfmbgiaaGreatDoor

namespace Go.Proofs.YtafnebpbfmbgiaaGreatDoor
open Go.RowKit Go.ChangeShapes Go.WideShapes Go.ChangeAt
theorem laid_tail {P : Program} {W : World} {x : String × DataW Unit} {rest : List (String × DataW Unit)} (h : laidMet P (x :: rest) W) : laidMet P rest W := by
  obtain ⟨ps, ⟨g, t, cs, fuel, p, q, h1, h2, h3, h4, h5, rfl⟩, hn, hr⟩ := h
  exact ⟨q, h5, (List.nodup_append.1 hn).2.1, fun b off hb => hr b off (List.mem_append_right _ hb)⟩
theorem cellsU64 : Tryz.prog.cellsOf 106 = 1 := by kernel_rfl
theorem cellsTab : Tryz.prog.cellsOf 181 = 20 := by kernel_rfl
theorem gTab : Tryz.prog.globalNamed "internal/strconv.uint64pow10" = some 0 := by kernel_rfl
theorem gTabType : (Tryz.prog.globals[0]?).map (·.type) = some 181 := by kernel_rfl
theorem tb_of_laid {W : World} (h : laidMetH Tryz.prog [("math/bits.deBruijn32tab", Rows.laid_math_bits_deBruijn32tab), ("math/bits.deBruijn64tab", Rows.laid_math_bits_deBruijn64tab), ("internal/strconv.uint64pow10", Rows.laid_internal_strconv_uint64pow10)] W) : TB W := by
  have h1 : laidMet Tryz.prog [("math/bits.deBruijn32tab", Rows.laid_math_bits_deBruijn32tab), ("math/bits.deBruijn64tab", Rows.laid_math_bits_deBruijn64tab), ("internal/strconv.uint64pow10", Rows.laid_internal_strconv_uint64pow10)] W := h
  exact Lib.tabIs_of_head (rest := []) gTab gTabType Tryz.underlying181 Tryz.underlying106 cellsU64 cellsTab (laid_tail (laid_tail h1))
def tabCells (l : DataW Unit) (k : IntKind) : Array Value := match l with
  | .agg ds => (ds.map fun d => match d with | .lit (.int _ n) => Value.int k n | _ => .int k 0).toArray
  | _ => #[]
def setTab (cs : Array Value) (o : Obj) : Obj := match o with
  | .cells _ t frozen => .cells cs t frozen
  | o => o
noncomputable def laidWorld (os : Os) : World :=
  { World.holding Tryz.prog os ⟨#[], #[], []⟩ with heap := (((World.holding Tryz.prog os ⟨#[], #[], []⟩).heap.modify 0 (setTab (tabCells Rows.laid_internal_strconv_uint64pow10 .u64))).modify 1 (setTab (tabCells Rows.laid_math_bits_deBruijn32tab .u8))).modify 2 (setTab (tabCells Rows.laid_math_bits_deBruijn64tab .u8)) }
theorem laid_met (os : Os) (args : Array Value) : laidMet Tryz.prog [("math/bits.deBruijn32tab", Rows.laid_math_bits_deBruijn32tab), ("math/bits.deBruijn64tab", Rows.laid_math_bits_deBruijn64tab), ("internal/strconv.uint64pow10", Rows.laid_internal_strconv_uint64pow10)] ((laidWorld os).forCall (fun _ _ => 0) ⟨#[], args, []⟩).memory :=
  laidMet_of_run' 8 (by kernel_rfl) (by kernel_rfl)
theorem own : ownKnob Tryz.prog.godebug = none := by kernel_rfl
theorem laidOut : laidOutB Tryz.prog = true := by kernel_rfl
end Go.Proofs.YtafnebpbfmbgiaaGreatDoor

namespace Go.Proofs.YtafnebpbfmbgiaaGreatDoor
open Go.RowKit Go.ChangeShapes Go.WideShapes Go.ChangeAt
section
variable {H : Type} {enc : TypeId × Value → H} {w : World} {base : Nat} {spare : Nat → Bool} {held : Bool} {fuel : Nat} {cs : List Value} {x : DataW H × List MemPlace}
theorem cellsU8 : Tryz.prog.cellsOf 5 = 1 := by kernel_rfl
theorem byteV_of (z : Int) (h0 : 0 ≤ z) (h1 : z ≤ 255) : Value.int .u8 z = byteV (UInt8.ofNat z.toNat) := by
  unfold byteV
  congr 1
  rw [UInt8.toNat_ofNat']
  omega
theorem rd_bytes (h : DataW.trod enc Tryz.prog w base spare held fuel 22 cs = some x) : ∃ A n c bs, cs = [.slice A n c] ∧ RB w A n bs ∧ n ≤ 9223372036854775807 := by
  rcases open_ints Tryz.underlying22 Tryz.underlying5 cellsU8 h with ⟨rfl, _⟩ | ⟨a, len, cap, zs, rfl, _, hl, hm, hz, _, hcell, hwf⟩
  · exact ⟨none, 0, 0, [], rfl, ⟨rfl, fun h => absurd h (by omega)⟩, by omega⟩
  · have hlen : len ≤ zs.length := by rw [hz]; split <;> omega
    have hw : ∀ z ∈ zs, 0 ≤ z ∧ z ≤ 255 := fun z hz => by
      have h := hwf z hz
      have h1 : IntKind.u8.min = 0 := by decide
      have h2 : IntKind.u8.max = 255 := by decide
      simp [Lit.wf] at h
      omega
    refine ⟨some a, len, cap, (zs.take len).map (fun z => UInt8.ofNat z.toNat), rfl, ⟨by simp; omega, fun h0 => ⟨a, rfl, ?_, fun j u hu => ?_⟩⟩, by simp only [maxLen] at hm; omega⟩
    · have := World.block_lt_of_cell? w _ (hcell 0 (by omega)); rwa [block_of_add] at this
    · rw [List.getElem?_map, List.getElem?_take] at hu
      split at hu
      · have hj : j < zs.length := by omega
        rw [List.getElem?_eq_getElem hj] at hu
        have hu' : UInt8.ofNat zs[j].toNat = u := by simpa using hu
        obtain ⟨z0, z1⟩ := hw zs[j] (List.getElem_mem _)
        rw [hcell j hj, ← hu', ← byteV_of _ z0 z1]
        simp [List.getD, List.getElem?_eq_getElem hj]
      · simp at hu
end
end Go.Proofs.YtafnebpbfmbgiaaGreatDoor
