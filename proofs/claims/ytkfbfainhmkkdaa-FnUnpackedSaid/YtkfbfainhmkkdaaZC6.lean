/- Part 6: lemmas and contracts of the claim's functions. -/
import Derived.Test.YtkfbfainhmkkdaaZC1
import Derived.Test.YtkfbfainhmkkdaaZC2
import Derived.Test.YtkfbfainhmkkdaaZC3
import Derived.Test.YtkfbfainhmkkdaaZC4
import Derived.Test.YtkfbfainhmkkdaaZC5
import Derived.Deep.RegionHeld3
import Derived.Deep.DeepCutAuto
namespace Go.Proofs.Ytkfbfainhmkkdaa
open Go.RowKit Go.Sort
/-! the division, plainly: what the program that divides leaves -/
/-- a machine with values -/
def mchV (b : Int) (n1 n2 n3 : Nat) (y R N c : Int) : Tri := ⟨⟨b, digD b n1 y⟩, ⟨b, digD b n2 R⟩, ⟨b, digD b n3 N⟩, c⟩
structure DvOk (b : Int) (n1 n2 n3 : Nat) (y : Int) : Prop where
  b2 : 2 ≤ b
  y0 : 0 ≤ y
  y1 : y < pw b n1
  p1 : pw b n1 ≤ 1000000000001
  p2 : pw b n2 ≤ 1000000000001
  p3 : pw b n3 ≤ 1000000000001
theorem valL_dig {b : Int} {n : Nat} {v : Int} (hb : 2 ≤ b) (hp : pw b n ≤ 1000000000001) (h0 : 0 ≤ v) (h1 : v < pw b n) : valL b (digD b n v) = v := valL_digD b hb n v h0 h1 (by omega)
theorem turn_mch {b : Int} {n1 n2 n3 : Nat} {y : Int} (h : DvOk b n1 n2 n3 y) {R N c : Int} (hR : 0 ≤ R ∧ R < pw b n2) (hN : 0 ≤ N ∧ N < pw b n3) (sign u : Int) (hu : pw b c.toNat = u) :
    turnT (mchV b n1 n2 n3 y R N c) sign = (mchV b n1 n2 n3 y ((R + sign * (y * u)) % pw b n2) ((N + sign * u) % pw b n3) c, decide (R + sign * (y * u) < 0) || decide (pw b n2 ≤ R + sign * (y * u))) := by
  have q1 := pw_pos b h.b2 n2
  have q2 := pw_pos b h.b2 n3
  simp only [turnT, mchV, shiftD, shiftB, digD_len, hu, valL_dig h.b2 h.p1 h.y0 h.y1, valL_dig h.b2 h.p2 hR.1 hR.2, valL_dig h.b2 h.p3 hN.1 hN.2]
  rw [tmod_wrap _ _ (by omega), tmod_wrap _ _ (by omega)]
/-- one stroke as a program's part -/
theorem run_one {L : List Ins} {i tt : Nat} (hi : i < tt) (hl : i < L.length) {op : Int} (hL : L[i] = ⟨op, 1⟩) (ho : opens op = false) (h1 : ¬ op = 1) {s s' : RS} {b' : Bool} (hc : s.code = 0) (hd : s.done < 3000) {r : Tri × Bool} (hr : strokeT (op - 1) s.m = r)
    (he : Ev L (.run (i + 1) tt) ⟨r.1, s.tr ++ [op - 1], s.done + 1, 0⟩ s' b') : Ev L (.run i tt) s s' (r.2 || b') := by
  have e1 : (L[i]).op = op := by rw [hL]
  have e2 : (L[i]).arg = 1 := by rw [hL]
  have hs : Ev L (.str ((L[i]).op - 1) (max 1 (L[i]).arg).toNat) s ⟨r.1, s.tr ++ [op - 1], s.done + 1, 0⟩ (r.2 || false) := by
    rw [e1, e2]
    have := @Ev.sStep L (op - 1) 0 s ⟨r.1, s.tr ++ [op - 1], s.done + 1, 0⟩ false (by omega) (by rw [hr]; exact Ev.s0)
    rw [hr] at this
    exact this
  have := Ev.rStr hi hl hc (by rw [e1]; exact ho) (by rw [e1]; exact h1) hs he
  simpa using this
theorem dv_loop {L : List Ins} {b : Int} {n1 n2 n3 : Nat} {y : Int} (h : DvOk b n1 n2 n3 y) {c u : Int} (hu : pw b c.toNat = u) {i : Nat} (hl1 : i + 1 < L.length) (hL1 : L[i + 1] = ⟨3, 1⟩) (hD : 0 ≤ y * u) :
    ∀ (q : Nat) (R N : Int) (tr : List Int) (dn k : Nat), 0 ≤ R → R < pw b n2 → 0 ≤ N → N < pw b n3 → (q : Int) * (y * u) ≤ R → R < ((q : Int) + 1) * (y * u) → dn + 2 * (q + 1) ≤ 3000 →
      ∃ tr', Ev L (.loop 9 0 (i + 1) (i + 2) k) ⟨mchV b n1 n2 n3 y R N c, tr, dn, 0⟩ ⟨mchV b n1 n2 n3 y ((R - ((q : Int) + 1) * (y * u)) % pw b n2) ((N - ((q : Int) + 1) * u) % pw b n3) c, tr', dn + 2 * (q + 1), 0⟩ false
  | 0, R, N, tr, dn, k, h0, h1, h2, h3, h4, h5, h6 => by
    have ht := turn_mch h (R := R) (N := N) ⟨h0, h1⟩ ⟨h2, h3⟩ (-1) u hu
    refine ⟨tr ++ [2], ?_⟩
    have hb : R + -1 * (y * u) < 0 := by simp at h5; omega
    have hst : strokeT 2 (mchV b n1 n2 n3 y R N c) = (mchV b n1 n2 n3 y ((R + -1 * (y * u)) % pw b n2) ((N + -1 * u) % pw b n3) c, true) := by
      rw [show strokeT 2 (mchV b n1 n2 n3 y R N c) = turnT (mchV b n1 n2 n3 y R N c) (-1) from rfl, ht, decide_eq_true hb, Bool.true_or]
    have hrun := run_one (L := L) (i := i + 1) (tt := i + 2) (by omega) hl1 hL1 rfl (by decide) (s := ⟨mchV b n1 n2 n3 y R N c, tr, dn + 1, 0⟩) rfl (by show dn + 1 < 3000; omega) hst (Ev.rEnd (by omega))
    have := Ev.lOut (L := L) (op := 9) (arg := 0) (i := i + 1) (e := i + 2) (k := k) (s := ⟨mchV b n1 n2 n3 y R N c, tr, dn, 0⟩) (by omega) (by show ¬ dn = 3000; omega) hrun (.inr ⟨rfl, rfl⟩)
    simpa [Int.sub_eq_add_neg] using this
  | q + 1, R, N, tr, dn, k, h0, h1, h2, h3, h4, h5, h6 => by
    have ht := turn_mch h (R := R) (N := N) ⟨h0, h1⟩ ⟨h2, h3⟩ (-1) u hu
    have q1 := pw_pos b h.b2 n3
    have m1 : ((q + 1 : Nat) : Int) * (y * u) = (q : Int) * (y * u) + y * u := by rw [Int.natCast_succ, Int.add_mul, Int.one_mul]
    have m2 : (((q + 1 : Nat) : Int) + 1) * (y * u) = ((q : Int) + 1) * (y * u) + y * u := by rw [Int.natCast_succ, Int.add_mul, Int.one_mul]
    have m3 : ((q : Int) + 1) * (y * u) = (q : Int) * (y * u) + y * u := by rw [Int.add_mul, Int.one_mul]
    have hqD : 0 ≤ (q : Int) * (y * u) := Int.mul_nonneg (by omega) hD
    have hb : ¬ R + -1 * (y * u) < 0 := by omega
    have hb2 : ¬ pw b n2 ≤ R + -1 * (y * u) := by omega
    have hst : strokeT 2 (mchV b n1 n2 n3 y R N c) = (mchV b n1 n2 n3 y (R - y * u) ((N + -1 * u) % pw b n3) c, false) := by
      rw [show strokeT 2 (mchV b n1 n2 n3 y R N c) = turnT (mchV b n1 n2 n3 y R N c) (-1) from rfl, ht, decide_eq_false hb, decide_eq_false hb2, Int.emod_eq_of_lt (by omega) (by omega), show R + -1 * (y * u) = R - y * u by omega]
      rfl
    have hrun := run_one (L := L) (i := i + 1) (tt := i + 2) (by omega) hl1 hL1 rfl (by decide) (s := ⟨mchV b n1 n2 n3 y R N c, tr, dn + 1, 0⟩) rfl (by show dn + 1 < 3000; omega) hst (Ev.rEnd (by omega))
    obtain ⟨tr', hev⟩ := dv_loop h hu hl1 hL1 hD q (R - y * u) ((N + -1 * u) % pw b n3) (tr ++ [2]) (dn + 2) (k + 1) (by omega) (by omega) (Int.emod_nonneg _ (by omega)) (Int.emod_lt_of_pos _ (by omega)) (by omega) (by omega) (by omega)
    refine ⟨tr', ?_⟩
    have e1 : (R - y * u - ((q : Int) + 1) * (y * u)) % pw b n2 = (R - (((q + 1 : Nat) : Int) + 1) * (y * u)) % pw b n2 := by congr 1; omega
    have e2 : ((N + -1 * u) % pw b n3 - ((q : Int) + 1) * u) % pw b n3 = (N - (((q + 1 : Nat) : Int) + 1) * u) % pw b n3 := by
      rw [Int.sub_eq_add_neg, Int.emod_add_emod]
      congr 1
      rw [Int.natCast_succ, Int.add_mul ((q : Int) + 1) 1 u]; omega
    rw [e1, e2, show dn + 2 + 2 * (q + 1) = dn + 2 * (q + 1 + 1) by omega] at hev
    exact Ev.lStep (L := L) (op := 9) (arg := 0) (i := i + 1) (e := i + 2) (k := k) (s := ⟨mchV b n1 n2 n3 y R N c, tr, dn, 0⟩) (by omega) (by show ¬ dn = 3000; omega) hrun ⟨rfl, by simp⟩ hev
theorem right_str {L : List Ins} {b : Int} {n1 n2 n3 : Nat} {y R N : Int} {p : Int} (hp : ∀ c, vplaces (mchV b n1 n2 n3 y R N c) = p) :
    ∀ (n : Nat) (c : Int) (tr : List Int) (dn : Nat), 0 ≤ c → c + n ≤ p - 1 → dn + n ≤ 3000 →
      ∃ tr', Ev L (.str 3 n) ⟨mchV b n1 n2 n3 y R N c, tr, dn, 0⟩ ⟨mchV b n1 n2 n3 y R N (c + n), tr', dn + n, 0⟩ false
  | 0, c, tr, dn, _, _, _ => ⟨tr, by simpa using Ev.s0⟩
  | n + 1, c, tr, dn, h0, h1, h2 => by
    have hst : strokeT 3 (mchV b n1 n2 n3 y R N c) = (mchV b n1 n2 n3 y R N (c + 1), false) := by
      have : ¬ (mchV b n1 n2 n3 y R N c).carry + 1 = vplaces (mchV b n1 n2 n3 y R N c) := by rw [hp]; show ¬ c + 1 = p; omega
      unfold strokeT
      rw [if_neg (by decide), if_neg (by decide), if_pos rfl, if_neg this]; rfl
    obtain ⟨tr', hev⟩ := right_str hp n (c + 1) (tr ++ [3]) (dn + 1) (by omega) (by omega) (by omega)
    refine ⟨tr', ?_⟩
    rw [show c + 1 + (n : Int) = c + ((n + 1 : Nat) : Int) by omega, show dn + 1 + n = dn + (n + 1) by omega] at hev
    have := @Ev.sStep L 3 n ⟨mchV b n1 n2 n3 y R N c, tr, dn, 0⟩ _ false (by show ¬ dn = 3000; omega) (by rw [hst]; exact hev)
    rw [hst] at this
    exact this
/-- where the parts of the program lie -/
def offP (p : Nat) : Nat := if 1 < p then 1 else 0
theorem div_shape : ∀ p : Fin 17, ∀ j : Fin 17, j.val < p.val → (divProg p.val).length = offP p.val + 5 * p.val - 1 ∧ (divProg p.val)[offP p.val + 5 * j.val]? = some ⟨9, 0⟩ ∧ (divProg p.val)[offP p.val + 5 * j.val + 1]? = some ⟨3, 1⟩ ∧ (divProg p.val)[offP p.val + 5 * j.val + 3]? = some ⟨2, 1⟩ ∧ (j.val + 1 < p.val → (divProg p.val)[offP p.val + 5 * j.val + 4]? = some ⟨5, 1⟩) ∧
    depA (divProg p.val) (offP p.val + 5 * j.val) = 0 ∧ depA (divProg p.val) (offP p.val + 5 * j.val + 1) = 1 ∧ depA (divProg p.val) (offP p.val + 5 * j.val + 2) = 1 ∧ depA (divProg p.val) (offP p.val + 5 * j.val + 3) = 0 := by decide +kernel
theorem div_match {p j : Nat} (hp : p ≤ 16) (hj : j < p) : IsMatch (divProg p) (offP p + 5 * j) (offP p + 5 * j + 2) := by
  obtain ⟨h1, h2, h3, h4, h5, d0, d1, d2, d3⟩ := div_shape ⟨p, by omega⟩ ⟨j, by omega⟩ hj
  simp only at h1 h2 h3 h4 h5 d0 d1 d2 d3
  refine ⟨by omega, by rw [h1]; omega, by rw [d3, d0], fun k hk1 hk2 => ?_⟩
  have : k = offP p + 5 * j + 1 ∨ k = offP p + 5 * j + 2 := by omega
  rcases this with rfl | rfl
  · rw [d0, d1]; decide
  · rw [d0, d2]; decide
theorem get_of {L : List Ins} {i : Nat} {x : Ins} (h : L[i]? = some x) : ∃ hl : i < L.length, L[i] = x := by
  obtain ⟨hl, e⟩ := List.getElem?_eq_some_iff.1 h
  exact ⟨hl, e⟩
theorem dv_place {b : Int} {n1 n2 n3 : Nat} {y : Int} (h : DvOk b n1 n2 n3 y) (hy : 1 ≤ y) {p j : Nat} (hp16 : p ≤ 16) (hj : j < p) {c u : Int} (hu : pw b c.toNat = u) (hu1 : 1 ≤ u) {q : Nat} {R N : Int} {tr : List Int} {dn : Nat}
    (h0 : 0 ≤ R) (h1 : R < pw b n2) (h2 : 0 ≤ N) (h3 : N < pw b n3) (h4 : (q : Int) * (y * u) ≤ R) (h5 : R < ((q : Int) + 1) * (y * u)) (h6 : dn + 2 * (q + 1) + 1 ≤ 3000) :
    ∃ tr', ∀ (s' : RS) (b' : Bool), Ev (divProg p) (.run (offP p + 5 * j + 4) (divProg p).length) ⟨mchV b n1 n2 n3 y (R - (q : Int) * (y * u)) ((N - (q : Int) * u) % pw b n3) c, tr', dn + 2 * (q + 1) + 1, 0⟩ s' b' →
      ∃ b'', Ev (divProg p) (.run (offP p + 5 * j) (divProg p).length) ⟨mchV b n1 n2 n3 y R N c, tr, dn, 0⟩ s' b'' := by
  obtain ⟨g1, g2, g3, g4, -⟩ := div_shape ⟨p, by omega⟩ ⟨j, by omega⟩ hj
  simp only at g1 g2 g3 g4
  obtain ⟨l0, e0⟩ := get_of g2
  obtain ⟨l1, e1⟩ := get_of g3
  obtain ⟨l3, e3⟩ := get_of g4
  have q1 := pw_pos b h.b2 n3
  have q2 := pw_pos b h.b2 n2
  have hD : 0 ≤ y * u := Int.mul_nonneg (by omega) (by omega)
  have hqD : 0 ≤ (q : Int) * (y * u) := Int.mul_nonneg (by omega) hD
  obtain ⟨tr1, hlp⟩ := dv_loop (L := divProg p) h hu l1 e1 hD q R N tr dn 0 h0 h1 h2 h3 h4 h5 (by omega)
  have ht := turn_mch h (c := c) (R := (R - ((q : Int) + 1) * (y * u)) % pw b n2) (N := (N - ((q : Int) + 1) * u) % pw b n3) ⟨Int.emod_nonneg _ (by omega), Int.emod_lt_of_pos _ (by omega)⟩ ⟨Int.emod_nonneg _ (by omega), Int.emod_lt_of_pos _ (by omega)⟩ 1 u hu
  have f1 : ((R - ((q : Int) + 1) * (y * u)) % pw b n2 + 1 * (y * u)) % pw b n2 = R - (q : Int) * (y * u) := by
    rw [Int.emod_add_emod, show R - ((q : Int) + 1) * (y * u) + 1 * (y * u) = R - (q : Int) * (y * u) by rw [Int.add_mul]; omega]
    exact Int.emod_eq_of_lt (by omega) (by omega)
  have f2 : ((N - ((q : Int) + 1) * u) % pw b n3 + 1 * u) % pw b n3 = (N - (q : Int) * u) % pw b n3 := by
    rw [Int.emod_add_emod, show N - ((q : Int) + 1) * u + 1 * u = N - (q : Int) * u by rw [Int.add_mul]; omega]
  rw [f1, f2] at ht
  refine ⟨tr1 ++ [1], fun s' b' he => ?_⟩
  have hst : strokeT (2 - 1) (mchV b n1 n2 n3 y ((R - ((q : Int) + 1) * (y * u)) % pw b n2) ((N - ((q : Int) + 1) * u) % pw b n3) c) = _ := ht
  have h7 := run_one (L := divProg p) (i := offP p + 5 * j + 3) (tt := (divProg p).length) l3 l3 e3 rfl (by decide) (s := ⟨mchV b n1 n2 n3 y ((R - ((q : Int) + 1) * (y * u)) % pw b n2) ((N - ((q : Int) + 1) * u) % pw b n3) c, tr1, dn + 2 * (q + 1), 0⟩) rfl (by show dn + 2 * (q + 1) < 3000; omega) hst he
  have hop : (divProg p)[offP p + 5 * j].op = 9 := by rw [e0]
  have har : (divProg p)[offP p + 5 * j].arg = 0 := by rw [e0]
  exact ⟨_, Ev.rLoop l0 l0 rfl (by rw [hop]; rfl) (div_match hp16 hj) (by rw [hop, har]; exact hlp) h7⟩
theorem dv_parts {b : Int} {n1 n2 n3 : Nat} {y x : Int} (h : DvOk b n1 n2 n3 y) (hb16 : b ≤ 16) (hy : 1 ≤ y) {p : Nat} (hp16 : p ≤ 16) :
    ∀ (r j : Nat) (R Q : Int) (tr : List Int) (dn : Nat), j + (r + 1) = p → 0 ≤ R → R < pw b n2 → R < y * pw b (r + 1) → x = Q * y + R → dn + 34 * (r + 1) ≤ 3000 →
      ∃ (R' Q' : Int) (s' : RS) (b' : Bool), Ev (divProg p) (.run (offP p + 5 * j) (divProg p).length) ⟨mchV b n1 n2 n3 y R ((-Q) % pw b n3) (r : Int), tr, dn, 0⟩ s' b' ∧ s'.code = 0 ∧ s'.m = mchV b n1 n2 n3 y R' ((-Q') % pw b n3) 0 ∧ 0 ≤ R' ∧ R' < y ∧ R' < pw b n2 ∧ x = Q' * y + R' := by
  intro r
  induction r with
  | zero =>
    intro j R Q tr dn hj h0 h1 h2 h3 h4
    obtain ⟨g1, -⟩ := div_shape ⟨p, by omega⟩ ⟨j, by omega⟩ (show j < p by omega)
    simp only at g1
    have q1 := pw_pos b h.b2 n3
    simp only [pw, Int.one_mul] at h2
    have hq0 : 0 ≤ R / y := Int.ediv_nonneg h0 (by omega)
    have hqb : R / y < b := Int.ediv_lt_of_lt_mul (by omega) (by rw [Int.mul_comm]; exact h2)
    obtain ⟨q, hq⟩ : ∃ q : Nat, R / y = q := ⟨(R / y).toNat, by omega⟩
    have hmd := Int.emod_add_mul_ediv R y
    have hm0 := Int.emod_nonneg R (show y ≠ 0 by omega)
    have hm1 := Int.emod_lt_of_pos R (show 0 < y by omega)
    rw [hq, Int.mul_comm] at hmd
    obtain ⟨tr1, hk⟩ := dv_place h hy hp16 (show j < p by omega) (c := 0) (u := 1) rfl (by omega) (q := q) (R := R) (N := (-Q) % pw b n3) (tr := tr) (dn := dn) h0 h1 (Int.emod_nonneg _ (by omega)) (Int.emod_lt_of_pos _ (by omega)) (by rw [Int.mul_one]; omega) (by rw [Int.mul_one, Int.add_mul, Int.one_mul]; omega) (by omega)
    obtain ⟨b'', hev⟩ := hk _ _ (Ev.rEnd (by rw [g1]; omega))
    refine ⟨R - (q : Int) * (y * 1), Q + q, _, _, hev, rfl, ?_, by rw [Int.mul_one]; omega, by rw [Int.mul_one]; omega, ?_, ?_⟩
    · have e1 : ((-Q) % pw b n3 - (q : Int) * 1) % pw b n3 = (-(Q + q)) % pw b n3 := by
        rw [Int.sub_eq_add_neg, Int.emod_add_emod]; congr 1; omega
      show mchV b n1 n2 n3 y _ (((-Q) % pw b n3 - (q : Int) * 1) % pw b n3) 0 = _
      rw [e1]
    · have hqy : 0 ≤ (q : Int) * y := Int.mul_nonneg (by omega) (by omega)
      rw [Int.mul_one]; omega
    · rw [Int.mul_one, Int.add_mul]; omega
  | succ r ih =>
    intro j R Q tr dn hj h0 h1 h2 h3 h4
    obtain ⟨g1, -, -, -, g5, -⟩ := div_shape ⟨p, by omega⟩ ⟨j, by omega⟩ (show j < p by omega)
    simp only at g1 g5
    obtain ⟨l4, e4⟩ := get_of (g5 (by omega))
    have q1 := pw_pos b h.b2 n3
    obtain ⟨u, hu⟩ : ∃ u, pw b (r + 1) = u := ⟨_, rfl⟩
    have hu1 : 1 ≤ u := by rw [← hu]; exact pw_pos b h.b2 _
    have hub : pw b (r + 1 + 1) = u * b := by rw [pw_succ, hu]
    have hD1 : y * 1 ≤ y * u := Int.mul_le_mul_of_nonneg_left hu1 (by omega)
    rw [Int.mul_one] at hD1
    rw [hub, ← Int.mul_assoc] at h2
    obtain ⟨D, hD⟩ : ∃ D, y * u = D := ⟨_, rfl⟩
    rw [hD] at h2 hD1
    have hq0 : 0 ≤ R / D := Int.ediv_nonneg h0 (by omega)
    have hqb : R / D < b := Int.ediv_lt_of_lt_mul (by omega) (by rw [Int.mul_comm]; exact h2)
    obtain ⟨q, hq⟩ : ∃ q : Nat, R / D = q := ⟨(R / D).toNat, by omega⟩
    have hmd := Int.emod_add_mul_ediv R D
    have hm0 := Int.emod_nonneg R (show D ≠ 0 by omega)
    have hm1 := Int.emod_lt_of_pos R (show 0 < D by omega)
    rw [hq, Int.mul_comm] at hmd
    have hqD : 0 ≤ (q : Int) * D := Int.mul_nonneg (by omega) (by omega)
    obtain ⟨tr1, hk⟩ := dv_place h hy hp16 (show j < p by omega) (c := ((r + 1 : Nat) : Int)) (u := u) (by rw [Int.toNat_natCast]; exact hu) hu1 (q := q) (R := R) (N := (-Q) % pw b n3) (tr := tr) (dn := dn) h0 h1 (Int.emod_nonneg _ (by omega)) (Int.emod_lt_of_pos _ (by omega)) (by rw [hD]; omega) (by rw [hD, Int.add_mul, Int.one_mul]; omega) (by omega)
    rw [hD] at hk
    have e1 : ((-Q) % pw b n3 - (q : Int) * u) % pw b n3 = (-(Q + q * u)) % pw b n3 := by
      rw [Int.sub_eq_add_neg, Int.emod_add_emod]; congr 1; omega
    rw [e1] at hk
    have hx : x = (Q + q * u) * y + (R - (q : Int) * D) := by
      rw [Int.add_mul, Int.mul_assoc, Int.mul_comm u y, hD]; omega
    obtain ⟨R', Q', s', b', hev, hc, hm, r0, r1, r2, hxx⟩ := ih (j + 1) (R - (q : Int) * D) (Q + q * u) (tr1 ++ [4]) (dn + 2 * (q + 1) + 1 + 1) (by omega) (by omega) (by omega) (by rw [hu, hD]; omega) hx (by omega)
    rw [show offP p + 5 * (j + 1) = offP p + 5 * j + 4 + 1 by omega] at hev
    have hst : strokeT (5 - 1) (mchV b n1 n2 n3 y (R - (q : Int) * D) ((-(Q + q * u)) % pw b n3) ((r + 1 : Nat) : Int)) = (mchV b n1 n2 n3 y (R - (q : Int) * D) ((-(Q + q * u)) % pw b n3) (r : Int), false) := by
      have hne : ¬ (mchV b n1 n2 n3 y (R - (q : Int) * D) ((-(Q + q * u)) % pw b n3) ((r + 1 : Nat) : Int)).carry = 0 := by show ¬ ((r + 1 : Nat) : Int) = 0; omega
      unfold strokeT
      rw [if_neg (by decide), if_neg (by decide), if_neg (by decide), if_pos (by decide), if_neg hne]
      show (mchV b n1 n2 n3 y (R - (q : Int) * D) ((-(Q + q * u)) % pw b n3) (((r + 1 : Nat) : Int) - 1), false) = _
      rw [show ((r + 1 : Nat) : Int) - 1 = (r : Int) by omega]
    have h7 := run_one (L := divProg p) (i := offP p + 5 * j + 4) (tt := (divProg p).length) l4 l4 e4 rfl (by decide) (s := ⟨mchV b n1 n2 n3 y (R - (q : Int) * D) ((-(Q + q * u)) % pw b n3) ((r + 1 : Nat) : Int), tr1, dn + 2 * (q + 1) + 1, 0⟩) rfl (by show dn + 2 * (q + 1) + 1 < 3000; omega) hst hev
    obtain ⟨b'', h8⟩ := hk _ _ h7
    exact ⟨R', Q', s', b'', h8, hc, hm, r0, r1, r2, hxx⟩
/-- the whole program -/
theorem dv_run {b : Int} {n1 n2 n3 : Nat} {y x : Int} (h : DvOk b n1 n2 n3 y) (hb16 : b ≤ 16) (hy : 1 ≤ y) {p : Nat} (hp1 : 1 ≤ p) (hp16 : p ≤ 16) (hpl : ∀ R N c, vplaces (mchV b n1 n2 n3 y R N c) = p) (hx0 : 0 ≤ x) (hx1 : x < pw b n2) (hxy : x < y * pw b p) :
    ∃ (R' Q' : Int) (s' : RS) (b' : Bool), Ev (divProg p) (.run 0 (divProg p).length) (startR (mchV b n1 n2 n3 y x 0 0)) s' b' ∧ s'.code = 0 ∧ s'.m = mchV b n1 n2 n3 y R' ((-Q') % pw b n3) 0 ∧ 0 ≤ R' ∧ R' < y ∧ R' < pw b n2 ∧ x = Q' * y + R' := by
  obtain ⟨r, rfl⟩ : ∃ r, p = r + 1 := ⟨p - 1, by omega⟩
  rcases Nat.eq_zero_or_pos r with hr | hr
  · subst hr
    obtain ⟨R', Q', s', b', hev, rest⟩ := dv_parts (x := x) h hb16 hy hp16 0 0 x 0 [] 0 rfl hx0 hx1 hxy (by omega) (by omega)
    refine ⟨R', Q', s', b', ?_, rest⟩
    simpa [offP, startR] using hev
  · obtain ⟨tr1, hs⟩ := right_str (L := divProg (r + 1)) (R := x) (N := 0) (fun c => hpl x 0 c) r 0 [] 0 (by omega) (by omega) (by omega)
    obtain ⟨R', Q', s', b', hev, rest⟩ := dv_parts (x := x) h hb16 hy hp16 r 0 x 0 tr1 r (by omega) hx0 hx1 hxy (by omega) (by omega)
    have hL0 : (divProg (r + 1))[0]? = some ⟨4, ((r + 1 : Nat) : Int) - 1⟩ := by
      have H : ∀ p : Fin 17, 1 < p.val → (divProg p.val)[0]? = some ⟨4, (p.val : Int) - 1⟩ := by decide +kernel
      exact H ⟨r + 1, by omega⟩ (by show 1 < r + 1; omega)
    obtain ⟨l0, e0⟩ := get_of hL0
    have hop : (divProg (r + 1))[0].op = 4 := by rw [e0]
    have har : (max (1 : Int) (divProg (r + 1))[0].arg).toNat = r := by rw [e0]; show (max (1 : Int) (((r + 1 : Nat) : Int) - 1)).toNat = r; omega
    refine ⟨R', Q', s', false || b', ?_, rest⟩
    refine Ev.rStr (by omega) l0 rfl (by rw [hop]; rfl) (by rw [hop]; decide) (by rw [hop, har]; exact hs) ?_
    have ho : offP (r + 1) = 1 := by unfold offP; rw [if_pos (by omega)]
    rw [ho] at hev
    simpa using hev
theorem dv_law {t : Tri} {x y : Int} (hv : vmach t = true) (h : dvC t x y = 0) : dvQ t x y * y + dvR t x y = x ∧ 0 ≤ dvR t x y ∧ dvR t x y < y ∧ 0 ≤ dvQ t x y * y ∧ dvQ t x y * y ≤ x ∧ x ≤ 1000000000001 := by
  obtain ⟨k1, k2, k3, e1, e2, f1, f2, l1, c0, c1⟩ := vmach_all hv
  obtain ⟨⟨b1, b2⟩, ⟨n1, n2⟩, -⟩ := vreg_iff.1 k1
  obtain ⟨⟨b3, b4⟩, ⟨n3, n4⟩, -⟩ := vreg_iff.1 k2
  obtain ⟨⟨b5, b6⟩, ⟨n5, n6⟩, -⟩ := vreg_iff.1 k3
  obtain ⟨v1, v2, v3, v4, v5⟩ := vplaces_bd hv
  have hx : betB x 0 (pw t.b.base t.b.digits.length - 1) = true := by
    cases hb : betB x 0 (pw t.b.base t.b.digits.length - 1) with
    | true => rfl
    | false => unfold dvC at h; rw [hv, hb] at h; simp at h
  have hy : betB y 1 (pw t.a.base t.a.digits.length - 1) = true := by
    cases hb : betB y 1 (pw t.a.base t.a.digits.length - 1) with
    | true => rfl
    | false => unfold dvC at h; rw [hv, hx, hb] at h; simp at h
  have hq : ¬ pw t.a.base (vplaces t).toNat ≤ x.tdiv y := fun hc => by
    unfold dvC at h; rw [hv, hx, hy, if_neg (by decide), if_neg (by decide), if_neg (by decide), if_pos hc] at h; cases h
  obtain ⟨x0, x1⟩ := betB_iff.1 hx
  obtain ⟨y0, y1⟩ := betB_iff.1 hy
  have hm := pw_mono t.a.base (by omega) _ _ l1
  have hm3 := pw_mono t.a.base (by omega) (vplaces t).toNat t.s.digits.length (by unfold vplaces; omega)
  rw [← e1] at f1 x1
  have e3 : t.s.base = t.a.base := e2.trans e1.symm
  rw [e3] at f2
  have hok : DvOk t.a.base t.a.digits.length t.b.digits.length t.s.digits.length y := ⟨b1, by omega, by omega, by omega, f1, f2⟩
  obtain ⟨P, hP⟩ : ∃ P, pw t.a.base (vplaces t).toNat = P := ⟨_, rfl⟩
  rw [hP] at hq hm3
  have hdiv : x.tdiv y = x / y := Int.tdiv_eq_ediv_of_nonneg x0
  rw [hdiv] at hq
  have hxy : x < y * P := by
    rw [Int.mul_comm]; exact Int.lt_mul_of_ediv_lt (by omega) (by omega)
  obtain ⟨R', Q', s', b', hev, hc, hmm, r0, r1, r2, hxx⟩ := dv_run (x := x) hok b2 y0 v1 v2 (fun R N c => by rw [v3]; simp [vplaces, mchV, digD_len]) x0 (by omega) (by rw [hP]; exact hxy)
  have hstart : dvStart t x y = mchV t.a.base t.a.digits.length t.b.digits.length t.s.digits.length y x 0 0 := by
    unfold dvStart mchV; rw [← e1, e3]
  obtain ⟨a1, a2, -, -⟩ := dv_fine (x := x) (y := y) h (by rw [hstart]; exact hev)
  rw [hmm] at a1 a2
  have hQ0 : 0 ≤ Q' := by
    rcases Int.lt_or_le Q' 0 with hn | hn
    · have : Q' * y ≤ (-1) * y := Int.mul_le_mul_of_nonneg_right (by omega) (by omega)
      omega
    · exact hn
  have hQP : Q' < P := by
    rcases Int.lt_or_le Q' P with hn | hn
    · exact hn
    · have : P * y ≤ Q' * y := Int.mul_le_mul_of_nonneg_right hn (by omega)
      rw [Int.mul_comm] at hxy
      omega
  have q1 := pw_pos t.a.base b1 t.s.digits.length
  have hr : dvR t x y = R' := by
    rw [a2]; exact valL_dig b1 f1 r0 r2
  have hvn : valL t.a.base (digD t.a.base t.s.digits.length ((-Q') % pw t.a.base t.s.digits.length)) = (-Q') % pw t.a.base t.s.digits.length := valL_dig b1 f2 (Int.emod_nonneg _ (by omega)) (Int.emod_lt_of_pos _ (by omega))
  have hqq : dvQ t x y = Q' := by
    rw [a1]
    show (pw t.s.base t.s.digits.length - valL t.a.base (digD t.a.base t.s.digits.length ((-Q') % pw t.a.base t.s.digits.length))).tmod (pw t.s.base t.s.digits.length) = Q'
    rw [hvn, e3]
    have h1 := Int.emod_lt_of_pos (-Q') (show 0 < pw t.a.base t.s.digits.length by omega)
    rw [Int.tmod_eq_emod_of_nonneg (by omega), Int.sub_emod, Int.emod_emod, ← Int.sub_emod, show pw t.a.base t.s.digits.length - -Q' = Q' + pw t.a.base t.s.digits.length by omega, Int.add_emod_right]
    exact Int.emod_eq_of_lt hQ0 (by omega)
  have hq0 : 0 ≤ Q' * y := Int.mul_nonneg hQ0 (by omega)
  rw [hr, hqq]
  omega
end Go.Proofs.Ytkfbfainhmkkdaa

namespace Go.Proofs.Ytkfbfainhmkkdaa
open Go.RowKit Go.Sort
end Go.Proofs.Ytkfbfainhmkkdaa

namespace Go.Proofs.Ytkfbfainhmkkdaa
open Go.RowKit Go.Sort
/-- the program that adds values -/
def inV (vs : List Int) : Bool := vs.all (fun v => betB v 0 1000000000000)
theorem inV_take_succ {vs : List Int} {k : Nat} (h : k < vs.length) : inV (vs.take (k + 1)) = (inV (vs.take k) && betB vs[k] 0 1000000000000) := by
  unfold inV; rw [List.take_succ_eq_append_getElem h, List.all_append]; simp only [List.all_cons, List.all_nil, Bool.and_true]
theorem inV_not {vs : List Int} {k : Nat} (h : k < vs.length) (h1 : betB vs[k] 0 1000000000000 = false) : inV vs = false := by
  simp only [inV, List.all_eq_false]; exact ⟨vs[k], List.getElem_mem _, by simp [h1]⟩
def sumL (vs : List Int) : List Ins := ⟨6, 0⟩ :: vs.flatMap (fun v => [⟨1, v⟩, ⟨2, 1⟩])
theorem sumL_step {vs : List Int} {k : Nat} (h : k < vs.length) : sumL (vs.take (k + 1)) = sumL (vs.take k) ++ [⟨1, vs[k]⟩, ⟨2, 1⟩] := by
  unfold sumL; rw [List.take_succ_eq_append_getElem h, List.flatMap_append]; rfl
theorem sumL_len (vs : List Int) : (sumL vs).length = 1 + 2 * vs.length := by
  unfold sumL
  induction vs with
  | nil => rfl
  | cons v vs ih => simp only [List.flatMap_cons, List.length_cons, List.length_append, List.length_nil] at ih ⊢; omega
def spC (vs : List Int) : Int := if inV vs = false then 2 else if 120 < 2 * (vs.length : Int) + 1 then 5 else 0
def spL (vs : List Int) : List Ins := if spC vs = 0 then sumL vs else []
theorem sp_bad {vs : List Int} {c : Int} (h : spC vs = c) (hc : ¬ c = 0) : spC vs = c ∧ spL vs = [] := ⟨h, by unfold spL; rw [h, if_neg hc]⟩
theorem sp_fine {vs : List Int} (h : spC vs = 0) : spC vs = 0 ∧ spL vs = sumL vs := ⟨h, by unfold spL; rw [h, if_pos rfl]⟩
def SPRet (vs : List Int) (w : World) (e : Ending) (w' : World) : Prop := ∃ LA lc, e = .returned (.tuple #[.slice LA (spL vs).length lc, .int .i64 (spC vs)]) ∧ Kn w [rowIns (.slice LA (spL vs).length lc) (spL vs)] w'
theorem SPRet.bad {vs : List Int} {c : Int} {w w' : World} (h : spC vs = c ∧ spL vs = []) (hk : Kn w [] w') : SPRet vs w (.returned (.tuple #[.slice none 0 0, .int .i64 c])) w' := by
  unfold SPRet
  rw [h.1, h.2]
  exact ⟨none, 0, rfl, hk.nilRow _ _⟩
theorem SPRet.fine {vs : List Int} {w w' : World} {A : Option Addr} {c : Nat} (h : spC vs = 0 ∧ spL vs = sumL vs) (hk : Kn w [rowIns (.slice A (sumL vs).length c) (sumL vs)] w') : SPRet vs w (.returned (.tuple #[.slice A (sumL vs).length c, .int .i64 0])) w' := by
  unfold SPRet
  rw [h.1, h.2]
  exact ⟨A, c, rfl, hk⟩
end Go.Proofs.Ytkfbfainhmkkdaa

namespace Go.Proofs.Ytkfbfainhmkkdaa
open Go.RowKit Go.Sort
/-- a machine, a number, a code -/
def MSRet (M : Tri) (n c : Int) (w : World) (e : Ending) (w' : World) : Prop := ∃ A1 c1 A2 c2 A3 c3, e = .returned (.tuple #[.agg #[.int .i64 M.a.base, .slice A1 M.a.digits.length c1, .int .i64 M.b.base, .slice A2 M.b.digits.length c2, .int .i64 M.s.base, .slice A3 M.s.digits.length c3, .int .i64 M.carry], .int .i64 n, .int .i64 c]) ∧
  Kn w [rowI A3 c3 M.s.digits, rowI A2 c2 M.b.digits, rowI A1 c1 M.a.digits] w'
theorem MSRet.bad {w w' : World} {c : Int} (h : Kn w [] w') : MSRet zTri 0 c w (.returned (.tuple #[.agg #[.int .i64 0, .slice none 0 0, .int .i64 0, .slice none 0 0, .int .i64 0, .slice none 0 0, .int .i64 0], .int .i64 0, .int .i64 c])) w' :=
  ⟨none, 0, none, 0, none, 0, rfl, ((h.nilRow _ _).nilRow _ _).nilRow _ _⟩
noncomputable def soC (t : Tri) (vs : List Int) : Int := if vmach t = false then 1 else if spC vs = 0 then rpC (sumL vs) (clrT t) else spC vs
noncomputable def soM (t : Tri) (vs : List Int) : Tri := if vmach t = true ∧ spC vs = 0 then rpM (sumL vs) (clrT t) else zTri
noncomputable def soN (t : Tri) (vs : List Int) : Int := if vmach t = true ∧ spC vs = 0 then ((rpT (sumL vs) (clrT t)).length : Int) else 0
def SORet (t : Tri) (vs : List Int) (w : World) (e : Ending) (w' : World) : Prop := MSRet (soM t vs) (soN t vs) (soC t vs) w e w'
theorem so_bad {t : Tri} {vs : List Int} (h : vmach t = false) : soM t vs = zTri ∧ soN t vs = 0 ∧ soC t vs = 1 := by
  refine ⟨?_, ?_, ?_⟩
  · unfold soM; rw [if_neg (fun hh => by rw [h] at hh; exact absurd hh.1 (by decide))]
  · unfold soN; rw [if_neg (fun hh => by rw [h] at hh; exact absurd hh.1 (by decide))]
  · unfold soC; rw [if_pos h]
theorem so_bad2 {t : Tri} {vs : List Int} (h : vmach t = true) (h2 : ¬ spC vs = 0) : soM t vs = zTri ∧ soN t vs = 0 ∧ soC t vs = spC vs := by
  refine ⟨?_, ?_, ?_⟩
  · unfold soM; rw [if_neg (fun hh => h2 hh.2)]
  · unfold soN; rw [if_neg (fun hh => h2 hh.2)]
  · unfold soC; rw [if_neg (by rw [h]; decide), if_neg h2]
theorem so_fine {t : Tri} {vs : List Int} (h : vmach t = true) (h2 : spC vs = 0) : soM t vs = rpM (sumL vs) (clrT t) ∧ soN t vs = ((rpT (sumL vs) (clrT t)).length : Int) ∧ soC t vs = rpC (sumL vs) (clrT t) := by
  refine ⟨?_, ?_, ?_⟩
  · unfold soM; rw [if_pos ⟨h, h2⟩]
  · unfold soN; rw [if_pos ⟨h, h2⟩]
  · unfold soC; rw [if_neg (by rw [h]; decide), if_pos h2]
theorem soM_len (t : Tri) (vs : List Int) : (soM t vs).a.digits.length ≤ 16 ∧ (soM t vs).b.digits.length ≤ 16 ∧ (soM t vs).s.digits.length ≤ 16 := by
  unfold soM
  split
  · exact rpM_len _ _
  · exact ⟨by decide, by decide, by decide⟩
end Go.Proofs.Ytkfbfainhmkkdaa

namespace Go.Proofs.Ytkfbfainhmkkdaa
open Go.RowKit Go.Sort
theorem info_ins : (Try.prog.info? 46).map (fun i => (i.zero, i.size, i.bytes)) = some (some (.agg #[.int .i64 0, .int .i64 0]), 2, 16) := by kernel_rfl
theorem cellsIns_ext {xs : List Ins} {cs : List Value} (hl : cs.length = xs.length * 2) (h : ∀ (i : Nat) (h : i < xs.length), cs[i * 2]? = some (.int .i64 xs[i].op) ∧ cs[i * 2 + 1]? = some (.int .i64 xs[i].arg)) : cs = cellsIns xs := by
  apply List.ext_getElem?
  intro j
  by_cases hj : j < xs.length * 2
  · obtain ⟨h1, h2⟩ := h (j / 2) (by omega)
    obtain ⟨h3, h4⟩ := cellsIns_get xs (j / 2) (by omega)
    rcases Nat.mod_two_eq_zero_or_one j with he | he
    · have e : j / 2 * 2 = j := by omega
      rw [e] at h1 h3; rw [h1, h3]
    · have e : j / 2 * 2 + 1 = j := by omega
      rw [e] at h2 h4; rw [h2, h4]
  · rw [List.getElem?_eq_none (by omega), List.getElem?_eq_none (by rw [cellsIns_len]; omega)]
def rowInsN (A : Option Addr) (n c : Nat) (xs : List Ins) : Ent := .row (.slice A n c) 46 2 n (cellsIns xs)
theorem Kn.rlInsN {w0 w : World} {m : List Ent} {A : Option Addr} {n c : Nat} {xs : List Ins} (h : Kn w0 (rowInsN A n c xs :: m) w) (hl : xs.length = n) : RL InsM 2 w A n xs := by
  subst hl
  exact (Kn.rlIns (m := m) h).2
/-- the first j cells are marked -/
def markedV (k : Int) (cs : List Value) (j : Nat) : List Value := (upto k j).map (Value.int .i64) ++ cs.drop j
theorem markedV_set (k : Int) (cs : List Value) {j : Nat} (h : j < cs.length) : (markedV k cs j).set j (.int .i64 (k + j)) = markedV k cs (j + 1) := by
  unfold markedV
  rw [List.set_append_right _ _ (by rw [List.length_map, upto_len]; exact Nat.le_refl _), List.length_map, upto_len, Nat.sub_self, List.drop_eq_getElem_cons h, List.set_cons_zero]
  simp [upto, List.range_succ]
theorem markedV_len (k : Int) (cs : List Value) {j : Nat} (h : j ≤ cs.length) : (markedV k cs j).length = cs.length := by simp [markedV, upto_len]; omega
end Go.Proofs.Ytkfbfainhmkkdaa

namespace Go.Proofs.Ytkfbfainhmkkdaa
open Go.RowKit Go.Sort
set_option maxHeartbeats 400000 in
theorem l00Same_any (A B : Option Addr) (n c m d : Nat) (ds es : List Int) (w : World) (hr : RI w A n ds) (hs : RI w B m es) (hm : n ≤ 9223372036854775807) (hm2 : m ≤ 9223372036854775807) :
    Calls Try.prog 148 #[.slice A n c, .slice B m d] w fun e w' => e = .returned (.bool (decide (ds = es))) ∧ ∃ q, w' = w.drewN q := by
  have HL := Lib.hid hr.1
  have HM := Lib.hid hs.1
  by_cases hnm : n = m
  · subst hnm
    go_enter Try.func148, Try.ntmps148
    go_wp2
    go_loopw [5] (fun i wr => ∃ k : Nat, k ≤ n ∧ i = .int .i64 k ∧ ds.take k = es.take k ∧ ∃ q, wr = w.drewN q) (fun i _ => n - (intOf i).toNat)
    case atStart => exact ⟨0, Nat.zero_le _, rfl, by simp, 0, rfl⟩
    case round =>
      obtain ⟨k, hk, rfl, hdg, q, rfl⟩ := hrel
      have HD := Lib.hid hdg; clear hdg
      by_cases hkn : k < n
      · obtain ⟨ad, hA, hlt, hkl, hc⟩ := hr.at_ hkn
        obtain ⟨ad2, hB, hlt2, hkl2, hc2⟩ := hs.at_ hkn
        subst hA; subst hB
        have hi0 : (0 : Int) ≤ (k : Int) := by omega
        have hi1 : (k : Int) < (n : Int) := by omega
        rcases hd : (ds[k] != es[k]) with _ | _
        · go_wp2
          go_quiet (fail)
          go_wp2
          have he : ds[k] = es[k] := by simpa using hd
          have HE := Lib.hid he; clear he
          go_roundw
          case rel => exact ⟨k + 1, by omega, by go_num, take_eq_of_succ HD.out hkl hkl2 HE.out, by first | exact ⟨_, rfl⟩ | exact ⟨_, World.drewN_drewN _ _ _⟩⟩
          case measure => simp [intOf]; omega
        · go_wp2
          go_quiet (fail)
          go_wp2
          go_ret
          refine ⟨ret_bool ?_, by first | exact ⟨_, rfl⟩ | exact ⟨_, World.drewN_drewN _ _ _⟩⟩
          have : ds ≠ es := by rintro rfl; simp at hd
          simp [this]
      · have HF : Hid (ds = es) := by
          have := HD.out
          rwa [List.take_of_length_le (by have := HL.out; omega), List.take_of_length_le (by have := HM.out; omega)] at this
        go_wp2
        go_ret
        exact ⟨ret_bool (by simp [HF.out]), q, rfl⟩
  · have HF : Hid (ds ≠ es) := by rintro rfl; exact hnm (hr.1.symm.trans hs.1)
    go_enter Try.func148, Try.ntmps148
    go_wp2
    go_ret
    exact ⟨ret_bool (by simp [HF.out]), 0, rfl⟩
def sameR (r s : Reg) : Bool := r.base == s.base && decide (r.digits = s.digits)
theorem l02Same_any (p q : Addr) (r s : Reg) (w : World) (hp : RegM w p r) (hq : RegM w q s) (hm : SmallReg r) (hm2 : SmallReg s) :
    Calls Try.prog 99 #[.pointer (some p), .pointer (some q)] w fun e w' => e = .returned (.bool (sameR r s)) ∧ ∃ m, w' = w.drewN m := by
  obtain ⟨A, c, ⟨ha, hb⟩, hr⟩ := hp
  obtain ⟨B, d, ⟨ha0, hb0⟩, hs⟩ := hq
  unfold SmallReg at hm hm2
  have K1 := Lib.hid (fun (m : Nat) => l00Same_any A B _ c _ d r.digits s.digits (w.drewN m) hr hs (by omega) (by omega))
  rcases k : (r.base == s.base) with _ | _
  · have HF : Hid (sameR r s = false) := by simp only [Hid, sameR]; rw [k]; rfl
    go_enter Try.func99, Try.ntmps99
    go_wp2_with fail
    go_quiet ((go_at_call 148; exact quiet_of_ex (K1.out _)))
    go_wp2
    go_ret
    exact ⟨ret_bool HF.out.symm, _, rfl⟩
  · have HF : Hid (sameR r s = decide (r.digits = s.digits)) := by simp only [Hid, sameR]; rw [k]; rfl
    go_enter Try.func99, Try.ntmps99
    go_wp2_with fail
    go_quiet ((go_at_call 148; exact quiet_of_ex (K1.out _)))
    go_wp2
    go_ret
    exact ⟨ret_bool HF.out.symm, _, rfl⟩
/-- the carry out of a digit with a kind of fault -/
def cstep (base t c kind : Int) : Int := if kind = 1 then 0 else if kind = 2 then 1 else if kind = 3 then (if t < base then 0 else 1) else if t + c < base then 0 else 1
end Go.Proofs.Ytkfbfainhmkkdaa

namespace Go.Proofs.Ytkfbfainhmkkdaa
open Go.RowKit Go.Sort
def sameM (t u : Tri) : Bool := sameR t.a u.a && sameR t.b u.b && sameR t.s u.s && (t.carry == u.carry)
theorem sameR_refl (r : Reg) : sameR r r = true := by simp [sameR]
theorem sameM_refl (t : Tri) : sameM t t = true := by simp [sameM, sameR_refl]
set_option maxRecDepth 100000 in
set_option maxHeartbeats 1600000 in
theorem l10Same_any (p q : Addr) (t u : Tri) (w : World) (hT : TriM w p t) (hU : TriM w q u) (hs : SmallTri t) (hu : SmallTri u) :
    Calls Try.prog 87 #[.pointer (some p), .pointer (some q)] w fun e w' => e = .returned (.bool (sameM t u)) ∧ ∃ m, w' = w.drewN m := by
  have HM := Lib.hid (show sameM t u = (sameR t.a u.a && sameR t.b u.b && sameR t.s u.s && (t.carry == u.carry)) from rfl)
  have K1 := (fun (m : Nat) => l02Same_any p q t.a u.a (w.drewN m) hT.1 hU.1 hs.1 hu.1)
  have K2 := (fun (m : Nat) => l02Same_any ⟨p.block, p.off + 2, none⟩ ⟨q.block, q.off + 2, none⟩ t.b u.b (w.drewN m) hT.2.1 hU.2.1 hs.2.1 hu.2.1)
  have K3 := (fun (m : Nat) => l02Same_any ⟨p.block, p.off + 4, none⟩ ⟨q.block, q.off + 4, none⟩ t.s u.s (w.drewN m) hT.2.2.1 hU.2.2.1 hs.2.2 hu.2.2)
  have hc1 := hT.2.2.2
  have hc2 := hU.2.2.2
  obtain ⟨e1, h1⟩ : ∃ b, sameR t.a u.a = b := ⟨_, rfl⟩
  obtain ⟨e2, h2⟩ : ∃ b, sameR t.b u.b = b := ⟨_, rfl⟩
  obtain ⟨e3, h3⟩ : ∃ b, sameR t.s u.s = b := ⟨_, rfl⟩
  rw [h1] at K1 HM
  rw [h2] at K2 HM
  rw [h3] at K3 HM
  replace K1 := Lib.hid K1
  replace K2 := Lib.hid K2
  replace K3 := Lib.hid K3
  obtain ⟨R, hR⟩ : ∃ R, sameM t u = R := ⟨_, rfl⟩
  rw [hR] at HM ⊢
  clear h1 h2 h3 hT hU hs hu hR
  rcases e1 with _ | _
  · have HQ : Hid (R = false) := by simp only [Hid]; rw [HM.out]; rfl
    go_enter Try.func87, Try.ntmps87
    go_wp2_with fail
    go_quiet ((go_at_call 99; first | (with_reducible exact quiet_of_ex (K1.out _)) | (with_reducible exact quiet_add_ex (K1.out _)) | (with_reducible exact quiet_of_ex (K2.out _)) | (with_reducible exact quiet_add_ex (K2.out _)) | (with_reducible exact quiet_of_ex (K3.out _)) | (with_reducible exact quiet_add_ex (K3.out _))))
    go_wp2_with fail
    go_ret
    exact ⟨ret_bool HQ.out.symm, by first | exact ⟨_, rfl⟩ | exact ⟨_, World.drewN_drewN _ _ _⟩⟩
  rcases e2 with _ | _
  · have HQ : Hid (R = false) := by simp only [Hid]; rw [HM.out]; rfl
    go_enter Try.func87, Try.ntmps87
    go_wp2_with fail
    go_quiet ((go_at_call 99; first | (with_reducible exact quiet_of_ex (K1.out _)) | (with_reducible exact quiet_add_ex (K1.out _)) | (with_reducible exact quiet_of_ex (K2.out _)) | (with_reducible exact quiet_add_ex (K2.out _)) | (with_reducible exact quiet_of_ex (K3.out _)) | (with_reducible exact quiet_add_ex (K3.out _))))
    go_wp2_with fail
    go_ret
    exact ⟨ret_bool HQ.out.symm, by first | exact ⟨_, rfl⟩ | exact ⟨_, World.drewN_drewN _ _ _⟩⟩
  rcases e3 with _ | _
  · have HQ : Hid (R = false) := by simp only [Hid]; rw [HM.out]; rfl
    go_enter Try.func87, Try.ntmps87
    go_wp2_with fail
    go_quiet ((go_at_call 99; first | (with_reducible exact quiet_of_ex (K1.out _)) | (with_reducible exact quiet_add_ex (K1.out _)) | (with_reducible exact quiet_of_ex (K2.out _)) | (with_reducible exact quiet_add_ex (K2.out _)) | (with_reducible exact quiet_of_ex (K3.out _)) | (with_reducible exact quiet_add_ex (K3.out _))))
    go_wp2_with fail
    go_ret
    exact ⟨ret_bool HQ.out.symm, by first | exact ⟨_, rfl⟩ | exact ⟨_, World.drewN_drewN _ _ _⟩⟩
  · have HQ : Hid (R = (t.carry == u.carry)) := by simp only [Hid]; rw [HM.out]; simp
    go_enter Try.func87, Try.ntmps87
    go_wp2_with fail
    go_quiet ((go_at_call 99; first | (with_reducible exact quiet_of_ex (K1.out _)) | (with_reducible exact quiet_add_ex (K1.out _)) | (with_reducible exact quiet_of_ex (K2.out _)) | (with_reducible exact quiet_add_ex (K2.out _)) | (with_reducible exact quiet_of_ex (K3.out _)) | (with_reducible exact quiet_add_ex (K3.out _))))
    go_wp2_with fail
    go_ret
    exact ⟨ret_bool HQ.out.symm, by first | exact ⟨_, rfl⟩ | exact ⟨_, World.drewN_drewN _ _ _⟩⟩
theorem specSameMachine_any (t u : Tri) (A1 A2 A3 B1 B2 B3 : Option Addr) (c1 c2 c3 d1 d2 d3 : Nat) (w : World) (r1 : RI w A1 t.a.digits.length t.a.digits) (r2 : RI w A2 t.b.digits.length t.b.digits) (r3 : RI w A3 t.s.digits.length t.s.digits)
    (q1 : RI w B1 u.a.digits.length u.a.digits) (q2 : RI w B2 u.b.digits.length u.b.digits) (q3 : RI w B3 u.s.digits.length u.s.digits) (hs : SmallTri t) (hu : SmallTri u) :
    Calls Try.prog 22 #[.agg #[.int .i64 t.a.base, .slice A1 t.a.digits.length c1, .int .i64 t.b.base, .slice A2 t.b.digits.length c2, .int .i64 t.s.base, .slice A3 t.s.digits.length c3, .int .i64 t.carry], .agg #[.int .i64 u.a.base, .slice B1 u.a.digits.length d1, .int .i64 u.b.base, .slice B2 u.b.digits.length d2, .int .i64 u.s.base, .slice B3 u.s.digits.length d3, .int .i64 u.carry]] w fun e w' => e = .returned (.bool (sameM t u)) ∧ Below w.heap.size w w' := by
  have KV := Lib.hid (fun W (hW : Kn w ([.blk (w.heap.size + 1) [.int .i64 u.a.base, .slice B1 u.a.digits.length d1, .int .i64 u.b.base, .slice B2 u.b.digits.length d2, .int .i64 u.s.base, .slice B3 u.s.digits.length d3, .int .i64 u.carry] 28, .blk w.heap.size [.int .i64 t.a.base, .slice A1 t.a.digits.length c1, .int .i64 t.b.base, .slice A2 t.b.digits.length c2, .int .i64 t.s.base, .slice A3 t.s.digits.length c3, .int .i64 t.carry] 28]) W) => l10Same_any ⟨w.heap.size, 0, none⟩ ⟨w.heap.size + 1, 0, none⟩ t u W
    (TriC.tri (A1 := A1) (c1 := c1) (A2 := A2) (c2 := c2) (A3 := A3) (c3 := c3) ⟨⟨hW.drop.blkAt.1 0, hW.drop.blkAt.1 1, hW.drop.blkAt.1 2, hW.drop.blkAt.1 3, hW.drop.blkAt.1 4, hW.drop.blkAt.1 5, hW.drop.blkAt.1 6⟩, r1.below hW.below, r2.below hW.below, r3.below hW.below⟩)
    (TriC.tri (A1 := B1) (c1 := d1) (A2 := B2) (c2 := d2) (A3 := B3) (c3 := d3) ⟨⟨hW.blkAt.1 0, hW.blkAt.1 1, hW.blkAt.1 2, hW.blkAt.1 3, hW.blkAt.1 4, hW.blkAt.1 5, hW.blkAt.1 6⟩, q1.below hW.below, q2.below hW.below, q3.below hW.below⟩) hs hu)
  clear r1 r2 r3 q1 q2 q3
  go_enter Try.func22, Try.ntmps22
  go_wp2_with fail
  refine Calls.kn (((Kn.nil w).al [.int .i64 t.a.base, .slice A1 t.a.digits.length c1, .int .i64 t.b.base, .slice A2 t.b.digits.length c2, .int .i64 t.s.base, .slice A3 t.s.digits.length c3, .int .i64 t.carry] 28).al [.int .i64 u.a.base, .slice B1 u.a.digits.length d1, .int .i64 u.b.base, .slice B2 u.b.digits.length d2, .int .i64 u.s.base, .slice B3 u.s.digits.length d3, .int .i64 u.carry] 28) ?_; intro w1 hK0
  simp only [World.size_alloc] at hK0
  refine (KV.out _ hK0).mono ?_; rintro e w2 ⟨rfl, m, rfl⟩
  go_wp2_with fail
  go_ret
  exact ⟨rfl, (hK0.drewN m).below⟩
end Go.Proofs.Ytkfbfainhmkkdaa

namespace Go.Proofs.Ytkfbfainhmkkdaa
open Go.RowKit Go.Sort
/-- a base and widths are those of machines -/
def nmOk (b n1 n2 n3 : Int) : Bool := (betB b 2 16 && betB n1 1 16 && betB n2 1 16 && betB n3 1 16) && vmach (newT b n1.toNat n2.toNat n3.toNat)
theorem regWidth_any (n : Int) (w : World) : Calls Try.prog 142 #[.int .i64 n] w fun e w' => e = .returned (.bool (betB n 1 16)) ∧ w = w' := by
  go_enter Try.func142, Try.ntmps142
  go_wp2_with (go_at_call 82; refine (between_any _ _ _ _).mono ?_; rintro e w' ⟨rfl, rfl⟩)
  go_ret
  exact ⟨rfl, rfl⟩
/-- what NewMachine returns for widths in range -/
def NMRet (b : Int) (n1 n2 n3 : Nat) (v : Bool) (w : World) (e : Ending) (w' : World) : Prop :=
  (v = true ∧ ∃ E1 g1 E2 g2 E3 g3, e = .returned (.tuple #[.agg #[.int .i64 b, .slice E1 (digD b n1 0).length g1, .int .i64 b, .slice E2 (digD b n2 0).length g2, .int .i64 b, .slice E3 (digD b n3 0).length g3, .int .i64 0], .int .i64 0]) ∧ Kn w [rowI E3 g3 (digD b n3 0), rowI E2 g2 (digD b n2 0), rowI E1 g1 (digD b n1 0)] w') ∨
  (v = false ∧ e = .returned (.tuple #[.agg #[.int .i64 0, .slice none 0 0, .int .i64 0, .slice none 0 0, .int .i64 0, .slice none 0 0, .int .i64 0], .int .i64 2]) ∧ Below w.heap.size w w')
end Go.Proofs.Ytkfbfainhmkkdaa

namespace Go.Proofs.Ytkfbfainhmkkdaa
open Go.RowKit Go.Sort
theorem f6bigP_any (A : Option Addr) (n c : Nat) (w : World) : Calls Try.prog 7 #[.slice A n c] w fun e w' => e = .returned (.bool (decide ((n : Int) > 4096))) ∧ w' = w := by
  go_enter Try.func7, Try.ntmps7
  go_wp2
  go_ret
  exact ⟨rfl, rfl⟩
theorem Kn.rowSmall {w0 w : World} {m : List Ent} {A : Option Addr} {c : Nat} {ds : List Int} (h : Kn w0 (rowI A c ds :: m) w) : ds.length ≤ 9223372036854775807 := by
  have h0 : w.ownsRow 0 2 1 (.slice A ds.length c) ds.length _ := h.at0
  rcases h0.2 with ⟨_, h2⟩ | ⟨g, cap, cur, hv, -, -, h5, h6, -⟩
  · omega
  · unfold maxLen at h6; omega
theorem sumL_fold : ∀ {vs : List Int}, inV vs = true → (vs.flatMap (fun v => [⟨1, v⟩, ⟨2, 1⟩] : Int → List Ins)).foldl stepI (some 0) = some 0
  | [], _ => rfl
  | v :: l, h => by
    simp only [inV, List.all_cons, Bool.and_eq_true] at h
    have h2 : inV l = true := h.2
    have e1 : stepI (some 0) ⟨1, v⟩ = some 0 := by simp [stepI, instrOk, h.1, depthStep, opens]
    have e2 : stepI (some 0) ⟨2, 1⟩ = some 0 := by decide
    simp only [List.flatMap_cons, List.foldl_append, List.foldl_cons, List.foldl_nil, e1, e2]
    exact sumL_fold h2
theorem sumL_ok {vs : List Int} (h : spC vs = 0) : vprog (sumL vs) = true := by
  unfold spC at h
  have hi : inV vs = true := by
    cases hv : inV vs with
    | true => rfl
    | false => rw [if_pos hv] at h; simp at h
  rw [if_neg (by rw [hi]; decide)] at h
  have hl : ¬ 120 < 2 * (vs.length : Int) + 1 := by
    intro h2; rw [if_pos h2] at h; simp at h
  have e1 : stepI (some 0) ⟨6, 0⟩ = some 0 := by decide
  unfold vprog
  simp only [Bool.and_eq_true, decide_eq_true_eq]
  refine ⟨?_, by rw [sumL_len]; omega⟩
  unfold progD sumL
  rw [List.foldl_cons, e1]
  exact sumL_fold hi
/-- the program that divides, and a code -/
def dpC (p : Int) : Int := if betB p 1 16 = true then 0 else 2
def dpL (p : Int) : List Ins := if betB p 1 16 = true then divProg p.toNat else []
def DPRet (p : Int) (w : World) (e : Ending) (w' : World) : Prop := ∃ LA lc, e = .returned (.tuple #[.slice LA (dpL p).length lc, .int .i64 (dpC p)]) ∧ Kn w [rowIns (.slice LA (dpL p).length lc) (dpL p)] w'
theorem dp_ok {p : Int} (h : dpC p = 0) : vprog (dpL p) = true := by
  unfold dpC at h
  unfold dpL
  split at h
  · rename_i hb
    rw [if_pos hb]
    have := betB_iff.1 hb
    exact divProg_ok (by omega) (by omega)
  · simp at h
set_option maxRecDepth 100000 in
set_option maxHeartbeats 1600000 in
theorem f6instrs_same (A B : Option Addr) (n c d : Nat) (xs : List Ins) (w : World) (hr : RL InsM 2 w A n xs) (hs : RL InsM 2 w B n xs) (hm : n ≤ 1048576) :
    Calls Try.prog 39 #[.slice A n c, .slice B n d] w fun e w' => e = .returned (.bool true) ∧ Below w.heap.size w w' := by
  have HR := Lib.hid hr
  have HS := Lib.hid hs
  clear hr hs
  go_enter Try.func39, Try.ntmps39
  go_wp2_with fail
  go_loopw [5] (fun i wr => ∃ (k : Nat), k ≤ n ∧ i = .int .i64 k ∧ Kn w [] wr) (fun i _ => n - (intOf i).toNat)
  case atStart => exact ⟨0, Nat.zero_le _, rfl, Kn.nil w⟩
  case round =>
    obtain ⟨k, hk, rfl, hK⟩ := hrel
    by_cases hkn : k < n
    · obtain ⟨ad, hA, hlt, hkl, hx⟩ := (HR.out.below steady_InsM hK.drew.below).at_ hkn
      obtain ⟨bd, hB, hlt2, hkl2, hy⟩ := (HS.out.below steady_InsM hK.drew.below).at_ hkn
      obtain ⟨x, hxe⟩ : ∃ x, xs[k] = x := ⟨_, rfl⟩
      rw [hxe] at hx hy
      have HG := Lib.hid (show (_ ∧ _) ∧ _ ∧ _ from ⟨hx, hy⟩)
      have hi0 : (0 : Int) ≤ (k : Int) := by omega
      have hi1 : (k : Int) < (n : Int) := by omega
      subst hA
      subst hB
      clear hxe hx hy hlt hlt2
      go_wp2_with fail
      go_region_held3 (fun W => (W.cell? (ad.add (k * 2)) = some (.int .i64 x.op) ∧ W.cell? ⟨(ad.add (k * 2)).block, (ad.add (k * 2)).off + 1, none⟩ = some (.int .i64 x.arg)) ∧ W.cell? (bd.add (k * 2)) = some (.int .i64 x.op) ∧ W.cell? ⟨(bd.add (k * 2)).block, (bd.add (k * 2)).off + 1, none⟩ = some (.int .i64 x.arg)) (first | exact HG.out) (fail)
      all_goals
        go_wp2_with fail
        go_roundw
        case rel => exact ⟨k + 1, by omega, by go_num, hK.drew⟩
        case measure => simp [intOf]; omega
    · have hi1 : ¬ (k : Int) < (n : Int) := by omega
      go_wp2_with fail
      go_ret
      exact ⟨rfl, hK.below⟩
end Go.Proofs.Ytkfbfainhmkkdaa

namespace Go.Proofs.Ytkfbfainhmkkdaa
open Go.RowKit Go.Sort
/-- accumulators: which registers they are, and what they show -/
def aOk (b : Int) (ds : List Int) : Bool := vreg b ds && decide (pw b ds.length ≤ 1000000000001)
def aSize (b : Int) (ds : List Int) : Int := if aOk b ds = true then pw b ds.length else 0
def isNm (n x : Int) : Bool := betB x (-(n.tdiv 2)) (n - 1 - n.tdiv 2)
def aNum (b : Int) (ds : List Int) : Int := if valL b ds ≤ pw b ds.length - 1 - (pw b ds.length).tdiv 2 then valL b ds else valL b ds - pw b ds.length
def aNorm (n x : Int) : Int := (x.tmod n + n).tmod n
def aSet (b : Int) (k : Nat) (x : Int) : List Int := digD b k (aNorm (pw b k) x)
theorem aOk_iff {b : Int} {ds : List Int} : aOk b ds = true ↔ vreg b ds = true ∧ pw b ds.length ≤ 1000000000001 := by
  unfold aOk; rw [Bool.and_eq_true, decide_eq_true_eq]
theorem aNorm_bd {n x : Int} (hn : 1 ≤ n) : 0 ≤ aNorm n x ∧ aNorm n x < n := by
  unfold aNorm
  have h1 : -n < x.tmod n ∧ x.tmod n < n := by
    rcases Int.le_total 0 x with h | h
    · rw [Int.tmod_eq_emod_of_nonneg h]
      have := Int.emod_nonneg x (show n ≠ 0 by omega)
      have := Int.emod_lt_of_pos x (show 0 < n by omega)
      omega
    · have h2 := Int.neg_tmod (-x) n
      rw [Int.neg_neg] at h2
      rw [h2, Int.tmod_eq_emod_of_nonneg (by omega)]
      have := Int.emod_nonneg (-x) (show n ≠ 0 by omega)
      have := Int.emod_lt_of_pos (-x) (show 0 < n by omega)
      omega
  rw [Int.tmod_eq_emod_of_nonneg (by omega)]
  exact ⟨Int.emod_nonneg _ (by omega), Int.emod_lt_of_pos _ (by omega)⟩
theorem half_bd {n : Int} (hn : 0 ≤ n) : 0 ≤ n.tdiv 2 ∧ 2 * n.tdiv 2 ≤ n ∧ n ≤ 2 * n.tdiv 2 + 1 := by
  rw [Int.tdiv_eq_ediv_of_nonneg hn]; omega
theorem valL_in {b : Int} {ds : List Int} (h : aOk b ds = true) : 0 ≤ valL b ds ∧ valL b ds < pw b ds.length ∧ 1 ≤ pw b ds.length ∧ pw b ds.length ≤ 1000000000001 := by
  obtain ⟨h1, h2⟩ := aOk_iff.1 h
  obtain ⟨⟨b1, b2⟩, -, hd, -⟩ := vreg_iff.1 h1
  exact ⟨(valL_bd b b1 ds (fun d hd' => (hd d hd').1)).1, valL_lt b b1 ds hd, pw_pos b b1 _, h2⟩
theorem aNum_bd {b : Int} {ds : List Int} (h : aOk b ds = true) : -1000000000001 ≤ aNum b ds ∧ aNum b ds ≤ 1000000000001 := by
  have := valL_in h
  unfold aNum
  split <;> omega
end Go.Proofs.Ytkfbfainhmkkdaa

namespace Go.Proofs.Ytkfbfainhmkkdaa
open Go.RowKit Go.Sort
/-- what a function that adds a number returns -/
def anuC (b : Int) (ds : List Int) (x : Int) : Int := if aOk b ds = false then 1 else if betB x (-1000000000000) 1000000000000 = false then 2 else 0
def ANRet (b : Int) (ds : List Int) (x : Int) (w : World) (e : Ending) (w' : World) : Prop :=
  (anuC b ds x ≠ 0 ∧ e = .returned (.tuple #[.agg #[.int .i64 0, .slice none 0 0], .bool false, .int .i64 (anuC b ds x)]) ∧ Below w.heap.size w w') ∨
  (anuC b ds x = 0 ∧ ∃ E g, e = .returned (.tuple #[.agg #[.int .i64 b, .slice E (aSet b ds.length (aNum b ds + x)).length g], .bool (!isNm (pw b ds.length) (aNum b ds + x)), .int .i64 0]) ∧ Kn w [rowI E g (aSet b ds.length (aNum b ds + x))] w')
end Go.Proofs.Ytkfbfainhmkkdaa

namespace Go.Proofs.Ytkfbfainhmkkdaa
open Go.RowKit Go.Sort
/-- a register in a block -/
def RegB (w : World) (g : Nat) (b : Int) (A : Option Addr) (c : Nat) (ds : List Int) : Prop := (w.cell? ⟨g, 0, none⟩ = some (.int .i64 b) ∧ w.cell? ⟨g, 1, none⟩ = some (.slice A ds.length c)) ∧ RI w A ds.length ds
theorem RegB.below {w w' : World} {g : Nat} {b : Int} {A : Option Addr} {c : Nat} {ds : List Int} (h : RegB w g b A c ds) (hb : Below w.heap.size w w') : RegB w' g b A c ds := by
  have hlt : g < w.heap.size := World.block_lt_of_cell? w _ h.1.1
  exact ⟨⟨(hb.cell (p := ⟨g, 0, none⟩) hlt).trans h.1.1, (hb.cell (p := ⟨g, 1, none⟩) hlt).trans h.1.2⟩, h.2.below hb⟩
theorem tmod_bd {n x : Int} (hn : 1 ≤ n) : -n < x.tmod n ∧ x.tmod n < n := by
  rcases Int.le_total 0 x with h | h
  · rw [Int.tmod_eq_emod_of_nonneg h]
    have := Int.emod_nonneg x (show n ≠ 0 by omega)
    have := Int.emod_lt_of_pos x (show 0 < n by omega)
    omega
  · have h2 := Int.neg_tmod (-x) n
    rw [Int.neg_neg] at h2
    rw [h2, Int.tmod_eq_emod_of_nonneg (by omega)]
    have := Int.emod_nonneg (-x) (show n ≠ 0 by omega)
    have := Int.emod_lt_of_pos (-x) (show 0 < n by omega)
    omega
end Go.Proofs.Ytkfbfainhmkkdaa

namespace Go.Proofs.Ytkfbfainhmkkdaa
open Go.RowKit Go.Sort
theorem isNm_val {n v : Int} (hn : 1 ≤ n) (h0 : 0 ≤ v) : isNm n v = decide (v ≤ n - 1 - n.tdiv 2) := by
  have hh := half_bd (n := n) (by omega)
  unfold isNm
  rw [Bool.eq_iff_iff, betB_iff, decide_eq_true_eq]
  omega
end Go.Proofs.Ytkfbfainhmkkdaa

namespace Go.Proofs.Ytkfbfainhmkkdaa
open Go.RowKit Go.Sort
/-- how far each wheel is turned to come to 0 -/
def ctL (b : Int) (ds : List Int) : List Int := ds.map (fun d => (b - d).tmod b)
def ctR (b : Int) (ds : List Int) : List Int := if vreg b ds then ctL b ds else []
def CTRet (b : Int) (ds : List Int) (w : World) (e : Ending) (w' : World) : Prop := ∃ E k, e = .returned (.tuple #[.slice E (ctR b ds).length k, .int .i64 (if vreg b ds then 0 else 1)]) ∧ Kn w [rowI E k (ctR b ds)] w'
theorem ctL_take {b : Int} {ds : List Int} {k : Nat} (h : k < ds.length) : ctL b (ds.take (k + 1)) = ctL b (ds.take k) ++ [(b - ds[k]).tmod b] := by
  unfold ctL; rw [List.take_succ_eq_append_getElem h, List.map_append]; rfl
theorem ctL_len (b : Int) (ds : List Int) : (ctL b ds).length = ds.length := by unfold ctL; rw [List.length_map]
end Go.Proofs.Ytkfbfainhmkkdaa

namespace Go.Proofs.Ytkfbfainhmkkdaa
open Go.RowKit Go.Sort
def tfC (b : Int) (ds : List Int) (b' : Int) (es : List Int) : Int := if (aOk b ds && aOk b' es) = false then 1 else if b ≠ b' then 6 else 0
/-- what a transfer returns -/
def TFRet (b : Int) (ds : List Int) (b' : Int) (es : List Int) (w : World) (e : Ending) (w' : World) : Prop :=
  (tfC b ds b' es ≠ 0 ∧ e = .returned (.tuple #[.agg #[.int .i64 0, .slice none 0 0], .agg #[.int .i64 0, .slice none 0 0], .bool false, .int .i64 (tfC b ds b' es)]) ∧ Below w.heap.size w w') ∨
  (tfC b ds b' es = 0 ∧ ∃ E1 k1 E2 k2, e = .returned (.tuple #[.agg #[.int .i64 b, .slice E1 (digD b ds.length 0).length k1], .agg #[.int .i64 b', .slice E2 (aSet b' es.length (aNum b' es + aNum b ds)).length k2], .bool (!isNm (pw b' es.length) (aNum b' es + aNum b ds)), .int .i64 0]) ∧
    Kn w [rowI E2 k2 (aSet b' es.length (aNum b' es + aNum b ds)), rowI E1 k1 (digD b ds.length 0)] w')
theorem tfC_bad {b b' : Int} {ds es : List Int} (h : (aOk b ds && aOk b' es) = false) : tfC b ds b' es = 1 := by unfold tfC; rw [if_pos h]
end Go.Proofs.Ytkfbfainhmkkdaa

namespace Go.Proofs.Ytkfbfainhmkkdaa
open Go.RowKit Go.Sort
def accD (b : Int) (ds xs : List Int) : Nat → List Int
  | 0 => ds
  | k + 1 => aSet b ds.length (aNum b (accD b ds xs k) + xs.getD k 0)
def accB (b : Int) (ds xs : List Int) : Nat → List Int
  | 0 => []
  | k + 1 => if isNm (pw b ds.length) (aNum b (accD b ds xs k) + xs.getD k 0) = true then accB b ds xs k else accB b ds xs k ++ [(k : Int)]
def inA (xs : List Int) : Bool := xs.all (fun x => betB x (-1000000000000) 1000000000000)
def aaC (b : Int) (ds xs : List Int) : Int := if aOk b ds = false then 1 else if inA xs = false then 2 else 0
theorem aSet_len (b : Int) (k : Nat) (x : Int) : (aSet b k x).length = k := digD_len ..
theorem accD_len (b : Int) (ds xs : List Int) (k : Nat) : (accD b ds xs k).length = ds.length := by
  cases k with
  | zero => rfl
  | succ k => exact aSet_len ..
theorem accB_len (b : Int) (ds xs : List Int) (k : Nat) : (accB b ds xs k).length ≤ k := by
  induction k with
  | zero => simp [accB]
  | succ k ih => unfold accB; split; omega; rw [List.length_append]; simp; omega
theorem aSet_ok {b : Int} {ds : List Int} (h : aOk b ds = true) (x : Int) : aOk b (aSet b ds.length x) = true := by
  obtain ⟨h1, h2⟩ := aOk_iff.1 h
  obtain ⟨⟨b1, b2⟩, ⟨n1, n2⟩, -⟩ := vreg_iff.1 h1
  have hp := pw_pos b b1 ds.length
  have hb := aNorm_bd (n := pw b ds.length) (x := x) hp
  refine aOk_iff.2 ⟨?_, by rw [aSet_len]; exact h2⟩
  exact digD_vreg b b1 b2 _ n1 n2 _ hb.1 hb.2 (by omega)
theorem accD_ok {b : Int} {ds : List Int} (h : aOk b ds = true) (xs : List Int) (k : Nat) : aOk b (accD b ds xs k) = true := by
  cases k with
  | zero => exact h
  | succ k => exact aSet_ok h _
theorem inA_take_succ {xs : List Int} {k : Nat} (h : k < xs.length) : inA (xs.take (k + 1)) = (inA (xs.take k) && betB xs[k] (-1000000000000) 1000000000000) := by
  unfold inA; rw [List.take_succ_eq_append_getElem h, List.all_append]; simp only [List.all_cons, List.all_nil, Bool.and_true]
theorem inA_not {xs : List Int} {k : Nat} (h : k < xs.length) (h1 : betB xs[k] (-1000000000000) 1000000000000 = false) : inA xs = false := by
  simp only [inA, List.all_eq_false]; exact ⟨xs[k], List.getElem_mem _, by simp [h1]⟩
/-- what the adding of numbers returns -/
def AARet (b : Int) (ds xs : List Int) (w : World) (e : Ending) (w' : World) : Prop :=
  (aaC b ds xs ≠ 0 ∧ e = .returned (.tuple #[.agg #[.int .i64 0, .slice none 0 0], .slice none 0 0, .int .i64 (aaC b ds xs)]) ∧ Below w.heap.size w w') ∨
  (aaC b ds xs = 0 ∧ ∃ E k B m, e = .returned (.tuple #[.agg #[.int .i64 b, .slice E (accD b ds xs xs.length).length k], .slice B (accB b ds xs xs.length).length m, .int .i64 0]) ∧
    Kn w [rowI B m (accB b ds xs xs.length), rowI E k (accD b ds xs xs.length)] w')
theorem accD_succ (b : Int) (ds : List Int) {xs : List Int} {i : Nat} (h : i < xs.length) : accD b ds xs (i + 1) = aSet b ds.length (aNum b (accD b ds xs i) + xs[i]) := by rw [← getD_of h]; rfl
theorem accB_succ (b : Int) (ds : List Int) {xs : List Int} {i : Nat} (h : i < xs.length) : accB b ds xs (i + 1) = if isNm (pw b ds.length) (aNum b (accD b ds xs i) + xs[i]) = true then accB b ds xs i else accB b ds xs i ++ [(i : Int)] := by rw [← getD_of h]; rfl
theorem inA_get {xs : List Int} (h : inA xs = true) {i : Nat} (hi : i < xs.length) : betB xs[i] (-1000000000000) 1000000000000 = true := by
  unfold inA at h
  exact List.all_eq_true.1 h _ (List.getElem_mem _)
end Go.Proofs.Ytkfbfainhmkkdaa

namespace Go.Proofs.Ytkfbfainhmkkdaa
open Go.RowKit Go.Sort
end Go.Proofs.Ytkfbfainhmkkdaa

namespace Go.Proofs.Ytkfbfainhmkkdaa
open Go.RowKit Go.Sort
/-- what the drawing of a good register returns -/
def DReg (b M : Nat) (w : World) (e : Ending) (w' : World) : Prop := ∃ (bs : Int) (A : Option Addr) (c : Nat) (ds : List Int), e = .returned (.agg #[.int .i64 bs, .slice A ds.length c]) ∧ (2 ≤ bs ∧ bs ≤ 12 ∧ 1 ≤ ds.length ∧ ds.length ≤ 6) ∧ DR b M w [rowI A c ds] w'
theorem min6 {q k : Nat} (h : 0 ≤ (q : Int) ∧ ((q : Int) < min 6 (k : Int) ∨ min 6 (k : Int) ≤ 1 ∧ (q : Int) = 0)) : q ≤ 5 := by omega
theorem wrapQ {q : Nat} (h : q ≤ 5) : IntKind.i64.wrap (1 + (q : Int)) = ((q + 1 : Nat) : Int) := by rw [wrapI64 (by omega)]; omega
set_option maxRecDepth 100000 in
set_option maxHeartbeats 1600000 in
theorem l02Draw_dr (b N : Nat) (w : World) (h : Src w b N) (hN : N ≤ 800000) :
    Calls Try.prog 140 #[.pointer (some ⟨b, 0, none⟩), .int .i64 6] w (DReg b (N + 40) w) := by
  unfold DReg
  have D0 := DR.nil h
  clear h
  go_enter Try.func140, Try.ntmps140
  go_wp2_with fail
  refine Calls.dr (D0.al [.int .i64 0, .slice none 0 0] 26) ?_; intro w1 D1
  refine (pick_dr b N 11 w1 D1.src (by omega)).mono ?_; rintro e w2 ⟨x, rfl, hx, h2⟩
  have D2 := D1.add h2
  clear D0 D1 h2
  obtain ⟨x0, hx1⟩ := hx
  have x1 : x < 11 := by omega
  clear hx1
  obtain ⟨g0, hg0⟩ : ∃ g, w.heap.size = g := ⟨_, rfl⟩
  rw [hg0] at D2 ⊢
  go_wp2_with fail
  refine Calls.dr (D2.al [.int .i64 (2 + x), .slice none 0 0] 26) ?_; intro w3 D3
  obtain ⟨g, hg⟩ : ∃ g, w2.heap.size = g := ⟨_, rfl⟩
  rw [hg] at D3 ⊢
  clear hg D2
  refine (one_dr b _ 2 w3 D3.src (by omega)).mono ?_; rintro e w4 ⟨y, rfl, h4⟩
  have D4 := D3.add h4
  clear D3 h4
  obtain ⟨bs, hbs⟩ : ∃ z, 2 + x = z := ⟨_, rfl⟩
  rw [hbs] at D4
  have b1 : 2 ≤ bs := by omega
  have b2 : bs ≤ 12 := by omega
  clear hbs
  obtain ⟨a1, a2, a3, -⟩ := D4.cells
  rcases y with _ | _
  · go_wp2_with fail
    have HG := Lib.hid (D4.drew.box2.1)
    have HT := HG
    go_region_held3 (fun W => W.cell? ⟨g, 0, none⟩ = some (.int .i64 bs)) (first | with_reducible exact HG.out | with_reducible exact HT.out | exact HG.out | exact HT.out) (first
      | (go_at_call 164; (with_reducible refine (l02Most_any _ _).mono ?_); rintro e w5 ⟨⟨k, rfl, k1, k2⟩, rfl⟩)
      | (go_at_call 151; (with_reducible refine (l00Min_any _ _ _).mono ?_); rintro e w5 ⟨rfl, rfl⟩)
      | (go_at_call 74; (with_reducible refine (pick_dr b _ _ _ D4.drew.src (by omega)).mono ?_); rintro e w5 ⟨y, rfl, hy, h5⟩; have D5 := D4.drew.add h5; clear HG; have HG := Lib.hid (D5.box2.1); obtain ⟨q, rfl⟩ : ∃ q : Nat, y = q := ⟨y.toNat, by omega⟩; have hq := min6 hy; have hq1 := wrapQ hq)
      | (go_at_call 112; rw [show (q : Int) + 1 = ((q + 1 : Nat) : Int) from rfl]; refine (digits_dr b _ _ (q + 1) _ D5.src (by omega) (by omega) (by omega) (by omega)).mono ?_; rintro e w6 ⟨A, c, ds, rfl, hl, hd, h6⟩; have D6 := D5.add h6; clear HG; have HG := Lib.hid ((D6.front 1 rfl).box2.1); obtain ⟨x1, x2, x3, -⟩ := (D6.front 1 rfl).cells; have D8 := (D6.front 1 rfl).st 1 (.slice A (q + 1) c); clear HT; have HT := Lib.hid (D8.box2.1)))
    all_goals
      clear D5 D6 HG HT
      try clear x1 x2 x3
      try clear a1 a2 a3
      generalize w6.setCell ⟨g, 1, none⟩ (.slice A (q + 1) c) = w8 at D8 ⊢
      obtain ⟨a1, a2, a3, -⟩ := D8.cells
      obtain ⟨d1, d2, d3, -⟩ := (D8.front 2 rfl).cells
      go_wp2_with fail
      refine bodyPost.dr (((D8.front 2 rfl).st 0 (.int .i64 bs)).st 1 (.slice A (q + 1) c)) ?_; intro w9 D9
      clear a1 a2 a3 d1 d2 d3
      obtain ⟨a1, a2, a3, -⟩ := D9.cells
      refine bodyPost_ret (v := .agg #[.int .i64 bs, .slice A (q + 1) c]) (by simp [results, Try.results140, go_sem, a1]) rfl ⟨bs, A, c, ds, by rw [hl], by omega, ?_⟩
      have hq' := hq
      exact (D9.sel [2] 99 (by decide) (by decide)).mono (by omega)
  · go_upto_region 4 with fail
    refine Code.wp.dr ((D4.front 0 rfl).st 0 (.int .i64 10)) ?_; intro w4 D4
    clear a1 a2 a3
    obtain ⟨a1, a2, a3, -⟩ := D4.cells
    have HG := Lib.hid (D4.drew.box2.1)
    have HT := HG
    go_region_held3 (fun W => W.cell? ⟨g, 0, none⟩ = some (.int .i64 10)) (first | with_reducible exact HG.out | with_reducible exact HT.out | exact HG.out | exact HT.out) (first
      | (go_at_call 164; (with_reducible refine (l02Most_any _ _).mono ?_); rintro e w5 ⟨⟨k, rfl, k1, k2⟩, rfl⟩)
      | (go_at_call 151; (with_reducible refine (l00Min_any _ _ _).mono ?_); rintro e w5 ⟨rfl, rfl⟩)
      | (go_at_call 74; (with_reducible refine (pick_dr b _ _ _ D4.drew.src (by omega)).mono ?_); rintro e w5 ⟨y, rfl, hy, h5⟩; have D5 := D4.drew.add h5; clear HG; have HG := Lib.hid (D5.box2.1); obtain ⟨q, rfl⟩ : ∃ q : Nat, y = q := ⟨y.toNat, by omega⟩; have hq := min6 hy; have hq1 := wrapQ hq)
      | (go_at_call 112; rw [show (q : Int) + 1 = ((q + 1 : Nat) : Int) from rfl]; refine (digits_dr b _ _ (q + 1) _ D5.src (by omega) (by omega) (by omega) (by omega)).mono ?_; rintro e w6 ⟨A, c, ds, rfl, hl, hd, h6⟩; have D6 := D5.add h6; clear HG; have HG := Lib.hid ((D6.front 1 rfl).box2.1); obtain ⟨x1, x2, x3, -⟩ := (D6.front 1 rfl).cells; have D8 := (D6.front 1 rfl).st 1 (.slice A (q + 1) c); clear HT; have HT := Lib.hid (D8.box2.1)))
    all_goals
      clear D5 D6 HG HT
      try clear x1 x2 x3
      try clear a1 a2 a3
      generalize w6.setCell ⟨g, 1, none⟩ (.slice A (q + 1) c) = w8 at D8 ⊢
      obtain ⟨a1, a2, a3, -⟩ := D8.cells
      obtain ⟨d1, d2, d3, -⟩ := (D8.front 2 rfl).cells
      go_wp2_with fail
      refine bodyPost.dr (((D8.front 2 rfl).st 0 (.int .i64 10)).st 1 (.slice A (q + 1) c)) ?_; intro w9 D9
      clear a1 a2 a3 d1 d2 d3
      obtain ⟨a1, a2, a3, -⟩ := D9.cells
      refine bodyPost_ret (v := .agg #[.int .i64 10, .slice A (q + 1) c]) (by simp [results, Try.results140, go_sem, a1]) rfl ⟨10, A, c, ds, by rw [hl], by omega, ?_⟩
      have hq' := hq
      exact (D9.sel [2] 99 (by decide) (by decide)).mono (by omega)
end Go.Proofs.Ytkfbfainhmkkdaa

namespace Go.Proofs.Ytkfbfainhmkkdaa
open Go.RowKit Go.Sort
end Go.Proofs.Ytkfbfainhmkkdaa

namespace Go.Proofs.Ytkfbfainhmkkdaa
open Go.RowKit Go.Sort
theorem DR.ad {b N : Nat} {w wi w' : World} {m m' : List Ent} (h : DR b N w m wi) (h1 : Kn wi m' w') : DR b N w (m' ++ m) w' := h.kn (fun _ hK => hK.join h1)
theorem pw_12 {b : Int} (b1 : 2 ≤ b) (b2 : b ≤ 12) (k : Nat) : pw b k ≤ pw 12 k := by
  induction k with
  | zero => exact Int.le_refl _
  | succ k ih =>
    rw [pw_succ, pw_succ]
    have := pw_pos b b1 k
    exact Int.mul_le_mul ih b2 (by omega) (by have := pw_pos 12 (by omega) k; omega)
theorem pw_small {b : Int} (b1 : 2 ≤ b) (b2 : b ≤ 12) {k : Nat} (hk : k ≤ 6) : pw b k ≤ 2985984 := by
  have h1 := pw_12 b1 b2 k
  have h2 := pw_mono 12 (by omega) k 6 hk
  have h3 : pw 12 6 = 2985984 := by decide
  omega
/-- what the drawing of a register returns -/
def DReg2 (b M : Nat) (w : World) (e : Ending) (w' : World) : Prop := ∃ (bs : Int) (A : Option Addr) (c : Nat) (ds : List Int), e = .returned (.agg #[.int .i64 bs, .slice A ds.length c]) ∧ ds.length ≤ 20 ∧ DR b M w [rowI A c ds] w'
end Go.Proofs.Ytkfbfainhmkkdaa

namespace Go.Proofs.Ytkfbfainhmkkdaa
open Go.RowKit Go.Sort
theorem DR.setI {b N : Nat} {w wi : World} {m : List Ent} {g c : Nat} {ds : List Int} (h : DR b N w (rowI (some ⟨g, 0, none⟩) c ds :: m) wi) (j : Nat) (v : Int) : DR b N w (rowI (some ⟨g, 0, none⟩) c (ds.set j v) :: m) (wi.setCell ⟨g, j, none⟩ (.int .i64 v)) := h.kn (fun _ hK => hK.setI j v)
theorem DR.rowCell {b N : Nat} {w wi : World} {m : List Ent} {g c : Nat} {ds : List Int} (h : DR b N w (rowI (some ⟨g, 0, none⟩) c ds :: m) wi) {j : Nat} (hj : j < ds.length) : wi.cell? ⟨g, j, none⟩ = some (.int .i64 ds[j]) ∧ wi.frozen? ⟨g, j, none⟩ = false ∧ g < wi.heap.size := by
  obtain ⟨v, -, -, hK⟩ := h
  have h1 := Kn.rowCell hK (j := j) (u := .int .i64 ds[j]) (by simp [hj])
  exact ⟨h1.1, h1.2, World.block_lt_of_cell? wi _ h1.1⟩
theorem DR.rowForm {b N : Nat} {w wi : World} {m : List Ent} {A : Option Addr} {c : Nat} {ds : List Int} (h : DR b N w (rowI A c ds :: m) wi) (hd : 0 < ds.length) : ∃ g, A = some ⟨g, 0, none⟩ := by
  obtain ⟨v, -, -, hK⟩ := h
  obtain ⟨g, c', he⟩ := Kn.rowForm hK hd
  injection he with he
  exact ⟨g, he⟩
theorem idxL {j L : Nat} (h : 0 ≤ (j : Int) ∧ ((j : Int) < (L : Int) ∨ (L : Int) ≤ 1 ∧ (j : Int) = 0)) (h1 : 1 ≤ L) : j < L := by omega
set_option maxRecDepth 100000 in
set_option maxHeartbeats 1600000 in
theorem l02Bent_dr (b N : Nat) (w : World) (h : Src w b N) (hN : N ≤ 600000) :
    Calls Try.prog 88 #[.pointer (some ⟨b, 0, none⟩)] w (DReg2 b (N + 150) w) := by
  unfold DReg2
  have D0 := DR.nil h
  clear h
  go_enter Try.func88, Try.ntmps88
  go_wp2_with fail
  refine Calls.dr (D0.al [.int .i64 0, .slice none 0 0] 26) ?_; intro w1 D1
  refine (l02Draw_dr b N w1 D1.src (by omega)).mono ?_; rintro e w2 ⟨bs, A, c, ds, rfl, ⟨b1, b2, n1, n2⟩, h2⟩
  have D2 := D1.add h2
  clear D0 D1 h2
  obtain ⟨g0, hg0⟩ : ∃ g, w.heap.size = g := ⟨_, rfl⟩
  rw [hg0] at D2 ⊢
  go_wp2_with fail
  refine Calls.dr (D2.al [.int .i64 bs, .slice A ds.length c] 26) ?_; intro w3 D3
  obtain ⟨g, hg⟩ : ∃ g, w2.heap.size = g := ⟨_, rfl⟩
  rw [hg] at D3 ⊢
  clear hg D2 hg0
  refine (pick_dr b _ 20 w3 D3.src (by omega)).mono ?_; rintro e w4 ⟨y, rfl, hy, h4⟩
  have D4 : DR b _ w [.blk g [.int .i64 bs, .slice A ds.length c] 26, rowI A c ds, .blk g0 [.int .i64 0, .slice none 0 0] 26] w4 := D3.add h4
  clear D3 h4
  have y0 : 0 ≤ y := hy.1
  clear hy
  by_cases h0 : y = 0
  · subst h0
    go_wp2_with fail
    refine Calls.dr (D4.al [.int .i64 1, .int .i64 2, .int .i64 16, .int .i64 17, .int .i64 (-9223372036854775808)] 2) ?_; intro w5 D5
    obtain ⟨hr, hA⟩ := DR.lit (ds := [1, 2, 16, 17, -9223372036854775808]) D5 (by decide)
    refine (among_dr b _ _ 5 5 _ w5 D5.src (by omega) hr hA (by omega) (by omega)).mono ?_; rintro e w6 ⟨x, rfl, hx, h6⟩
    have D6 := D5.add h6
    clear hr hA D4 D5 h6 hx
    obtain ⟨l1, l2, l3, a1, a2, a3, d1, d2, d3, -⟩ := D6.cells
    go_upto_region 16 with fail
    refine Code.wp.dr (((D6.front 1 rfl).st 0 (.int .i64 x)).sel [0, 2, 3] 99 (by decide) (by decide)) ?_; intro w8 D8
    clear D6 l1 l2 l3 a1 a2 a3 d1 d2 d3
    obtain ⟨a1, a2, a3, d1, d2, d3, -⟩ := D8.cells
    go_wp2_with fail
    refine bodyPost.dr (((D8.front 2 rfl).st 0 (.int .i64 x)).st 1 (.slice A ds.length c)) ?_; intro w9 D9
    clear a1 a2 a3 d1 d2 d3
    obtain ⟨a1, a2, a3, -⟩ := D9.cells
    refine bodyPost_ret (v := .agg #[.int .i64 x, .slice A ds.length c]) (by simp [results, Try.results88, go_sem, a1]) rfl ⟨x, A, c, ds, ?_, ?_, (D9.sel [2] 99 (by decide) (by decide)).mono (by omega)⟩
    · rfl
    · omega
  by_cases h1 : y = 1
  · subst h1
    obtain ⟨gA, rfl⟩ := (D4.front 1 rfl).rowForm (by omega)
    obtain ⟨L, hL⟩ : ∃ L, ds.length = L := ⟨_, rfl⟩
    have HL := Lib.hid hL
    rw [hL] at D4 n1 n2
    clear hL
    have wb : IntKind.i64.wrap (bs - 1) = bs - 1 := wrapI64 (by omega)
    obtain ⟨a1, a2, a3, d1, d2, d3, -⟩ := D4.cells
    go_upto_region 6 with fail
    have HG := Lib.hid (D4.drew.box2)
    have D5 := (D4.al [.int .i64 (-1), .int .i64 bs, .int .i64 (bs - 1), .int .i64 9223372036854775807] 2).drew
    have HT := Lib.hid ((D5.front 1 rfl).box2)
    go_region_held3 (fun W => W.cell? ⟨g, 0, none⟩ = some (.int .i64 bs) ∧ W.cell? ⟨g, 1, none⟩ = some (.slice (some ⟨gA, 0, none⟩) L c)) (first | with_reducible exact HG.out | with_reducible exact HT.out | exact HG.out | exact HT.out) (first
      | (go_at_call 74; (with_reducible refine (pick_dr b _ _ _ D5.src (by omega)).mono ?_); rintro e w5 ⟨y, rfl, hy, h5⟩; have D6 := D5.add h5; clear HG; have HG := Lib.hid ((D6.front 1 rfl).box2); obtain ⟨j, rfl⟩ : ∃ j : Nat, y = j := ⟨y.toNat, by omega⟩; have hj := idxL hy n1; have hj2 : (j : Int) < (L : Int) := by omega)
      | (go_at_call 74; (with_reducible refine (pick_dr b _ _ _ D4.drew.src (by omega)).mono ?_); rintro e w5 ⟨y, rfl, hy, h5⟩; have D5a := D4.drew.add h5; have D6 := D5a.al [.int .i64 (-1), .int .i64 bs, .int .i64 (bs - 1), .int .i64 9223372036854775807] 2; clear HG; have HG := Lib.hid (D5a.box2); clear HT; have HT := Lib.hid ((D6.front 1 rfl).box2); obtain ⟨j, rfl⟩ : ∃ j : Nat, y = j := ⟨y.toNat, by omega⟩; have hj := idxL hy n1; have hj2 : (j : Int) < (L : Int) := by omega)
      | (go_at_call 122; have hRA := DR.lit (ds := [-1, bs, bs - 1, 9223372036854775807]) D6 (by simp); refine (among_dr b _ _ 4 4 _ _ D6.src (by omega) hRA.1 hRA.2 (by omega) (by omega)).mono ?_; rintro e w7 ⟨x, rfl, hx, h7⟩; have D7 := D6.add h7; clear HG; have HG := Lib.hid ((D7.front 1 rfl).box2); have hrc := (D7.front 2 rfl).rowCell (j := j) (by rw [HL.out]; exact hj); obtain ⟨r1, r2, r3⟩ := hrc; have D8 := (D7.front 2 rfl).setI j x; clear HT; have HT := Lib.hid ((D8.front 2 rfl).box2)))
    all_goals
      clear HG HT D5 D6
      generalize w7.setCell ⟨gA, j, none⟩ (.int .i64 x) = w8 at D8 ⊢
      clear r1 r2 r3 hRA D7
      try clear D5a
      clear D4 a1 a2 a3 d1 d2 d3
      have D8 := D8.sel [2, 0, 3] 99 (by decide) (by decide)
      obtain ⟨a1, a2, a3, d1, d2, d3, -⟩ := D8.cells
      go_wp2_with fail
      refine bodyPost.dr (((D8.front 2 rfl).st 0 (.int .i64 bs)).st 1 (.slice (some ⟨gA, 0, none⟩) L c)) ?_; intro w9 D9
      clear a1 a2 a3 d1 d2 d3
      obtain ⟨a1, a2, a3, -⟩ := D9.cells
      refine bodyPost_ret (v := .agg #[.int .i64 bs, .slice (some ⟨gA, 0, none⟩) L c]) (by simp [results, Try.results88, go_sem, a1]) rfl ⟨bs, (some ⟨gA, 0, none⟩), c, (ds.set j x), ?_, ?_, (D9.sel [2] 99 (by decide) (by decide)).mono (by omega)⟩
      · rw [List.length_set, HL.out]
      · rw [List.length_set, HL.out]; omega
  by_cases h2 : y = 2
  · subst h2
    obtain ⟨a1, a2, a3, d1, d2, d3, -⟩ := D4.cells
    go_upto_region 16 with fail
    have D5 := (D4.st 1 (.slice (some ⟨w4.heap.size, 0, none⟩) 0 0)).al [] 2
    simp only [World.size_setCell] at D5
    refine Code.wp.dr ((D5.kn (m' := [rowI (some ⟨w4.heap.size, 0, none⟩) 0 [], .blk g [.int .i64 bs, .slice (some ⟨w4.heap.size, 0, none⟩) 0 0] 26, rowI A c ds, .blk g0 [.int .i64 0, .slice none 0 0] 26]) (fun v hK => hK.litRow (size := 1) (n := 0) rfl (by decide))).sel [1, 0, 3] 99 (by decide) (by decide)) ?_; intro w8 D8
    clear D4 D5 a1 a2 a3 d1 d2 d3
    obtain ⟨a1, a2, a3, d1, d2, d3, -⟩ := D8.cells
    go_wp2_with fail
    refine bodyPost.dr (((D8.front 2 rfl).st 0 (.int .i64 bs)).st 1 (.slice (some ⟨w4.heap.size, 0, none⟩) 0 0)) ?_; intro w9 D9
    clear a1 a2 a3 d1 d2 d3
    obtain ⟨a1, a2, a3, -⟩ := D9.cells
    refine bodyPost_ret (v := .agg #[.int .i64 bs, .slice (some ⟨w4.heap.size, 0, none⟩) 0 0]) (by simp [results, Try.results88, go_sem, a1]) rfl ⟨bs, (some ⟨w4.heap.size, 0, none⟩), 0, [], ?_, ?_, (D9.sel [2] 99 (by decide) (by decide)).mono (by omega)⟩
    · rfl
    · simp
  by_cases h3 : y = 3
  · subst h3
    obtain ⟨a1, a2, a3, d1, d2, d3, -⟩ := D4.cells
    go_wp2_with fail
    refine Calls.dr (D4.st 0 (.int .i64 5)) ?_; intro w5 D5
    clear a1 a2 a3 d1 d2 d3 D4
    refine (pick_dr b _ 2 w5 D5.src (by omega)).mono ?_; rintro e w6 ⟨x, rfl, hx, h6⟩
    have D6 := D5.add h6
    clear D5 h6
    obtain ⟨q, rfl⟩ : ∃ q : Nat, x = q := ⟨x.toNat, by omega⟩
    have hq : q ≤ 1 := by rcases hx.2 with h | h <;> omega
    have hq2 : IntKind.i64.wrap (16 + (q : Int)) = ((q + 16 : Nat) : Int) := by rw [wrapI64 (by omega)]; omega
    clear hx
    go_wp2_with fail
    rw [show (q : Int) + 16 = ((q + 16 : Nat) : Int) from rfl]
    refine (digits_dr b _ 5 (q + 16) w6 D6.src (by omega) (by omega) (by omega) (by omega)).mono ?_; rintro e w7 ⟨E, k, es, rfl, hl, -, h7⟩
    have D7 := D6.add h7
    clear D6 h7
    obtain ⟨a1, a2, a3, d1, d2, d3, -⟩ := D7.cells
    go_upto_region 16 with fail
    refine Code.wp.dr (((D7.front 1 rfl).st 1 (.slice E (q + 16) k)).sel [0, 1, 3] 99 (by decide) (by decide)) ?_; intro w8 D8
    clear D7 a1 a2 a3 d1 d2 d3
    obtain ⟨a1, a2, a3, d1, d2, d3, -⟩ := D8.cells
    go_wp2_with fail
    refine bodyPost.dr (((D8.front 2 rfl).st 0 (.int .i64 5)).st 1 (.slice E (q + 16) k)) ?_; intro w9 D9
    clear a1 a2 a3 d1 d2 d3
    obtain ⟨a1, a2, a3, -⟩ := D9.cells
    refine bodyPost_ret (v := .agg #[.int .i64 5, .slice E (q + 16) k]) (by simp [results, Try.results88, go_sem, a1]) rfl ⟨5, E, k, es, ?_, ?_, (D9.sel [2] 99 (by decide) (by decide)).mono (by omega)⟩
    · rw [hl]
    · omega
  by_cases h4 : y = 4
  · subst h4
    obtain ⟨a1, a2, a3, d1, d2, d3, -⟩ := D4.cells
    go_upto_region 15 with fail
    have D5 := ((D4.st 0 (.int .i64 10)).st 1 (.slice (some ⟨w4.heap.size, 0, none⟩) 13 13)).al [.int .i64 0, .int .i64 0, .int .i64 0, .int .i64 0, .int .i64 0, .int .i64 0, .int .i64 0, .int .i64 0, .int .i64 0, .int .i64 0, .int .i64 0, .int .i64 0, .int .i64 1] 2
    simp only [World.size_setCell] at D5
    refine Code.wp.dr D5 ?_; intro w5 D5
    obtain ⟨gl, hgl⟩ : ∃ g, w4.heap.size = g := ⟨_, rfl⟩
    rw [hgl] at D5
    clear a1 a2 a3 d1 d2 d3 D4 hgl
    obtain ⟨l1, l2, l3, a1, a2, a3, -⟩ := D5.cells
    have HG := Lib.hid ((D5.drew.front 1 rfl).box2.2)
    have HT := HG
    go_region_held3 (fun W => W.cell? ⟨g, 1, none⟩ = some (.slice (some ⟨gl, 0, none⟩) 13 13)) (first | with_reducible exact HG.out | with_reducible exact HT.out | exact HG.out | exact HT.out) (first
      | (go_at_call 74; (with_reducible refine (pick_dr b _ _ _ D5.drew.src (by omega)).mono ?_); rintro e w6 ⟨x, rfl, hx, h6⟩; have D6 := D5.drew.add h6; clear HG; have HG := Lib.hid ((D6.front 1 rfl).box2.2); obtain ⟨x1, x2, x3, -⟩ := D6.cells; have D7 := (D6.front 0 rfl).st 0 (.int .i64 x); clear HT; have HT := Lib.hid ((D7.front 1 rfl).box2.2)))
    all_goals
      clear HG HT D6
      try clear x1 x2 x3
      try clear l1 l2 l3 a1 a2 a3
      generalize w6.setCell ⟨gl, 0, none⟩ (.int .i64 x) = w7 at D7 ⊢
      have D8 := (D7.kn (m' := [rowI (some ⟨gl, 0, none⟩) 13 [x, 0, 0, 0, 0, 0, 0, 0, 0, 0, 0, 0, 1], .blk g [.int .i64 10, .slice (some ⟨gl, 0, none⟩) 13 13] 26, rowI A c ds, .blk g0 [.int .i64 0, .slice none 0 0] 26]) (fun v hK => hK.litRow (size := 1) (n := 13) rfl (by decide))).sel [1, 0, 3] 99 (by decide) (by decide)
      clear D7
      obtain ⟨a1, a2, a3, d1, d2, d3, -⟩ := D8.cells
      go_wp2_with fail
      refine bodyPost.dr (((D8.front 2 rfl).st 0 (.int .i64 10)).st 1 (.slice (some ⟨gl, 0, none⟩) 13 13)) ?_; intro w9 D9
      clear a1 a2 a3 d1 d2 d3
      obtain ⟨a1, a2, a3, -⟩ := D9.cells
      refine bodyPost_ret (v := .agg #[.int .i64 10, .slice (some ⟨gl, 0, none⟩) 13 13]) (by simp [results, Try.results88, go_sem, a1]) rfl ⟨10, (some ⟨gl, 0, none⟩), 13, [x, 0, 0, 0, 0, 0, 0, 0, 0, 0, 0, 0, 1], ?_, ?_, (D9.sel [2] 99 (by decide) (by decide)).mono (by omega)⟩
      · rfl
      · simp
  · go_upto_region 16 with fail
    refine Code.wp.dr D4 ?_; intro w8 D8
    clear D4
    obtain ⟨a1, a2, a3, d1, d2, d3, -⟩ := D8.cells
    go_wp2_with fail
    refine bodyPost.dr (((D8.front 2 rfl).st 0 (.int .i64 bs)).st 1 (.slice A ds.length c)) ?_; intro w9 D9
    clear a1 a2 a3 d1 d2 d3
    obtain ⟨a1, a2, a3, -⟩ := D9.cells
    refine bodyPost_ret (v := .agg #[.int .i64 bs, .slice A ds.length c]) (by simp [results, Try.results88, go_sem, a1]) rfl ⟨bs, A, c, ds, ?_, ?_, (D9.sel [2] 99 (by decide) (by decide)).mono (by omega)⟩
    · rfl
    · omega
end Go.Proofs.Ytkfbfainhmkkdaa

namespace Go.Proofs.Ytkfbfainhmkkdaa
open Go.RowKit Go.Sort
end Go.Proofs.Ytkfbfainhmkkdaa

namespace Go.Proofs.Ytkfbfainhmkkdaa
open Go.RowKit Go.Sort
/-- a register that a law's draw returns -/
def DrawsReg (w : World) (e : Ending) (w' : World) : Prop := ∃ (bs : Int) (A : Option Addr) (c : Nat) (ds : List Int), e = .returned (.agg #[.int .i64 bs, .slice A ds.length c]) ∧ ds.length ≤ 20 ∧ Kn w [rowI A c ds] w'
end Go.Proofs.Ytkfbfainhmkkdaa

namespace Go.Proofs.Ytkfbfainhmkkdaa
open Go.RowKit Go.Sort
end Go.Proofs.Ytkfbfainhmkkdaa

namespace Go.Proofs.Ytkfbfainhmkkdaa
open Go.RowKit Go.Sort
/-- what the draw of two registers returns -/
def Draws2 (w : World) (e : Ending) (w' : World) : Prop := ∃ (b : Int) (A : Option Addr) (c : Nat) (ds : List Int) (b2 : Int) (B : Option Addr) (k : Nat) (es : List Int), e = .returned (.tuple #[.agg #[.int .i64 b, .slice A ds.length c], .agg #[.int .i64 b2, .slice B es.length k]]) ∧ (ds.length ≤ 20 ∧ es.length ≤ 20) ∧ Kn w [rowI A c ds, rowI B k es] w'
theorem pick5 {q : Nat} (h : 0 ≤ (q : Int) ∧ ((q : Int) < 5 ∨ (5 : Int) ≤ 1 ∧ (q : Int) = 0)) : q ≤ 5 := by omega
end Go.Proofs.Ytkfbfainhmkkdaa

namespace Go.Proofs.Ytkfbfainhmkkdaa
open Go.RowKit Go.Sort
theorem f6big_any (A : Option Addr) (n c : Nat) (w : World) : Calls Try.prog 7 #[.slice A n c] w fun e w' => e = .returned (.bool (decide ((n : Int) > 4096))) ∧ w' = w := by
  go_enter Try.func7, Try.ntmps7
  go_wp2
  go_ret
  exact ⟨rfl, rfl⟩
theorem specSameRegister_same (b : Int) (A B : Option Addr) (c d : Nat) (ds : List Int) (w : World) (hr : RI w A ds.length ds) (hs : RI w B ds.length ds) (hm : ds.length ≤ 9223372036854775807) :
    Calls Try.prog 35 #[.agg #[.int .i64 b, .slice A ds.length c], .agg #[.int .i64 b, .slice B ds.length d]] w fun e w' => e = .returned (.bool true) ∧ Below w.heap.size w w' := by
  have HR := Lib.hid (fun W (hW : Below w.heap.size w W) => hr.below hW)
  have HS := Lib.hid (fun W (hW : Below w.heap.size w W) => hs.below hW)
  clear hr hs
  go_enter Try.func35, Try.ntmps35
  go_wp2_with fail
  refine Calls.kn (((Kn.nil w).al [.int .i64 b, .slice A ds.length c] 26).al [.int .i64 b, .slice B ds.length d] 26) ?_; intro w1 K1
  simp only [World.size_alloc] at K1
  refine (l02Same_any ⟨w.heap.size, 0, none⟩ ⟨w.heap.size + 1, 0, none⟩ ⟨b, ds⟩ ⟨b, ds⟩ w1 ⟨A, c, box2 (K1.front 1 rfl), HR.out _ K1.below⟩ ⟨B, d, box2 (K1.front 0 rfl), HS.out _ K1.below⟩ hm hm).mono ?_
  rintro e w2 ⟨rfl, q, rfl⟩
  have K2 := K1.drewN q
  go_wp2_with fail
  go_ret
  exact ⟨ret_bool (by simp [sameR]), K2.below⟩
set_option maxHeartbeats 400000 in
theorem f6ints_any (A B : Option Addr) (n c m d : Nat) (ds es : List Int) (w : World) (hr : RI w A n ds) (hs : RI w B m es) (hm : n ≤ 9223372036854775807) (hm2 : m ≤ 9223372036854775807) :
    Calls Try.prog 23 #[.slice A n c, .slice B m d] w fun e w' => e = .returned (.bool (decide (ds = es))) ∧ ∃ q, w' = w.drewN q := by
  have HL := Lib.hid hr.1
  have HM := Lib.hid hs.1
  by_cases hnm : n = m
  · subst hnm
    go_enter Try.func23, Try.ntmps23
    go_wp2
    go_loopw [5] (fun i wr => ∃ k : Nat, k ≤ n ∧ i = .int .i64 k ∧ ds.take k = es.take k ∧ ∃ q, wr = w.drewN q) (fun i _ => n - (intOf i).toNat)
    case atStart => exact ⟨0, Nat.zero_le _, rfl, by simp, 0, rfl⟩
    case round =>
      obtain ⟨k, hk, rfl, hdg, q, rfl⟩ := hrel
      have HD := Lib.hid hdg; clear hdg
      by_cases hkn : k < n
      · obtain ⟨ad, hA, hlt, hkl, hc⟩ := hr.at_ hkn
        obtain ⟨ad2, hB, hlt2, hkl2, hc2⟩ := hs.at_ hkn
        subst hA; subst hB
        have hi0 : (0 : Int) ≤ (k : Int) := by omega
        have hi1 : (k : Int) < (n : Int) := by omega
        rcases hd : (ds[k] != es[k]) with _ | _
        · go_wp2
          go_quiet (fail)
          go_wp2
          have he : ds[k] = es[k] := by simpa using hd
          have HE := Lib.hid he; clear he
          go_roundw
          case rel => exact ⟨k + 1, by omega, by go_num, take_eq_of_succ HD.out hkl hkl2 HE.out, by first | exact ⟨_, rfl⟩ | exact ⟨_, World.drewN_drewN _ _ _⟩⟩
          case measure => simp [intOf]; omega
        · go_wp2
          go_quiet (fail)
          go_wp2
          go_ret
          refine ⟨ret_bool ?_, by first | exact ⟨_, rfl⟩ | exact ⟨_, World.drewN_drewN _ _ _⟩⟩
          have : ds ≠ es := by rintro rfl; simp at hd
          simp [this]
      · have HF : Hid (ds = es) := by
          have := HD.out
          rwa [List.take_of_length_le (by have := HL.out; omega), List.take_of_length_le (by have := HM.out; omega)] at this
        go_wp2
        go_ret
        exact ⟨ret_bool (by simp [HF.out]), q, rfl⟩
  · have HF : Hid (ds ≠ es) := by rintro rfl; exact hnm (hr.1.symm.trans hs.1)
    go_enter Try.func23, Try.ntmps23
    go_wp2
    go_ret
    exact ⟨ret_bool (by simp [HF.out]), 0, rfl⟩
end Go.Proofs.Ytkfbfainhmkkdaa

/-! the draws of programs: l11Nest, l11Some, l11Draw (for FnRuns, FnPacked and others) -/
namespace Go.Proofs.Ytkfbfainhmkkdaa
open Go.RowKit Go.Sort
section
variable {ops : Array Oper} {rest : List Oper} {o : Oper} {a : Act} {Q : Exit → Act → World → Prop} {w0 w : World} {m : List Ent}
/-- append(s, x..), x an own row that is not nil but may be empty -/
theorem kn_appZ {t e : TypeId} {z : Value} {size bytes : Nat} (T : TP t e z size bytes) (hgd : o.guard = none) (s x : Operand) (ho : o.op = .call { callee := .builtin .append, args := #[s, x], argTypes := #[t, t] })
    (v : Value) (n : Nat) (xs : List Value) (hs : a.eval s = v) (hb0 : v.ownBlock ≠ none) {ad : Addr} {c k : Nat} {l : List Value} (hx : a.eval x = .slice (some ad) k c)
    (hK : Kn w0 (.row (.slice (some ad) k c) e size k l :: .row v e size n xs :: m) w) (h1 : ∀ u ∈ l, u.oneCell' = true)
    (h63 : n + k ≤ 1000000000000000) (hb : (n + k) * bytes ≤ 140737488355328)
    (h : ∀ v' w', v'.ownBlock ≠ none → Kn w0 (.row v' e size (n + k) (xs ++ l) :: .row (.slice (some ad) k c) e size k l :: m) w' → wpList Try.prog ops Q rest (a.put o.dst v') w') : wpList Try.prog ops Q (o :: rest) a w := by
  have hK2 := hK.sw1
  have h0 : w.ownsRow 0 e size (.slice (some ad) k c) k l := hK.at0
  rcases h0.2 with ⟨hv, _⟩ | ⟨g, cap, cur, hv, -, hg, -⟩
  · cases hv
  injection hv with hv _ _
  injection hv with hv
  subst hv
  refine appG T hgd s x ho 0 v n xs hs hK2.at0 ⟨g, 0, none⟩ k c l hx h0.1 (fun j u hu => h0.cells (g := g) rfl j u hu) h1 h63 hb (Nat.zero_le _) (fun v' w' ho' hg hv => ?_)
  refine h v' w' ?_ (hK2.grow hg ho' hv)
  rcases hv with hv | hv <;> rw [hv]
  · exact hb0
  · simp
end
theorem row_some {w : World} {b : Nat} {e : TypeId} {size n : Nat} {v : Value} {xs : List Value} (h : w.ownsRow b e size v n xs) (hv : v.ownBlock ≠ none) : ∃ g c, v = .slice (some ⟨g, 0, none⟩) n c := by
  rcases h.2 with ⟨rfl, h2⟩ | ⟨g, cap, cur, rfl, -⟩
  · exact absurd rfl hv
  · exact ⟨_, _, rfl⟩
theorem row_pos {w : World} {b : Nat} {e : TypeId} {size n : Nat} {v : Value} {xs : List Value} (h : w.ownsRow b e size v n xs) (hn : 0 < n) : ∃ g c, v = .slice (some ⟨g, 0, none⟩) n c := by
  rcases h.2 with ⟨rfl, h2⟩ | ⟨g, cap, cur, rfl, -⟩
  · omega
  · exact ⟨_, _, rfl⟩
/-- instructions that are not nil -/
def InsRet (L : Nat) (w : World) (e : Ending) (w' : World) : Prop := ∃ (g c : Nat) (xs : List Ins), e = .returned (.slice (some ⟨g, 0, none⟩) xs.length c) ∧ xs.length ≤ L ∧ Kn w [rowIns (.slice (some ⟨g, 0, none⟩) xs.length c) xs] w'
set_option maxRecDepth 100000 in
set_option maxHeartbeats 1600000 in
theorem l11Nest_any (d : Nat) (t : Int) (w : World) (hd : d ≤ 5) : Calls Try.prog 73 #[.int .i64 d, .int .i64 t] w (InsRet 11 w) := by
  unfold InsRet
  go_enter Try.func73, Try.ntmps73
  go_wp2_with fail
  have hK1 : Kn w [rowIns (.slice (some ⟨w.heap.size, 0, none⟩) 0 0) []] (w.alloc (.cells #[] 46)) := ((Kn.nil w).al [] 46).litRow (size := 2) (n := 0) rfl (by decide)
  go_loopw [5, 6] (fun vv kk wr => ∃ (j : Nat) (g c : Nat) (xs : List Ins), kk = .int .i64 (j : Int) ∧ xs.length + j ≤ d ∧ vv = .slice (some ⟨g, 0, none⟩) xs.length c ∧ Kn w [rowIns (.slice (some ⟨g, 0, none⟩) xs.length c) xs] wr) (fun _ kk _ => (intOf kk).toNat)
  case atStart => exact ⟨d, _, 0, [], rfl, by simp, rfl, hK1⟩
  case round =>
    clear hK1
    obtain ⟨j, g, c, xs, rfl, hj, rfl, hK⟩ := hrel
    by_cases h0 : 0 < j
    · have i1 : (0 : Int) < (j : Int) := by omega
      have i2 : (j : Int) > 0 := i1
      go_wp2_with (at_builtin; refine kn_pushIns (m := []) (ys := [⟨8, t⟩]) rfl _ _ rfl _ xs rfl rfl (hK.al [.int .i64 8, .int .i64 t] 46) (by simp; omega) ?_; intro v2 w2 hK2; obtain ⟨g5, c5, rfl⟩ := row_pos hK2.at0 (by simp))
      go_roundw
      case rel => exact ⟨j - 1, g5, c5, xs ++ [⟨8, t⟩], by go_num, by simp; omega, by simp, hK2⟩
      case measure => simp [intOf]; omega
    · have i1 : ¬ (j : Int) > 0 := by omega
      go_wp2_with (at_builtin; refine kn_pushIns (m := []) (ys := [⟨2, 1⟩]) rfl _ _ rfl _ xs rfl rfl (hK.al [.int .i64 2, .int .i64 1] 46) (by simp; omega) ?_; intro v2 w2 hK2; obtain ⟨g5, c5, rfl⟩ := row_pos hK2.at0 (by simp))
      obtain ⟨ys, hys⟩ : ∃ ys, xs ++ [(⟨2, 1⟩ : Ins)] = ys := ⟨_, rfl⟩
      have hyn : ys.length = xs.length + 1 := by rw [← hys]; simp
      rw [hys] at hK2
      rw [← hyn]
      have hyl : ys.length ≤ d + 1 := by omega
      clear hys hyn hK
      go_loopw [5, 7] (fun vv kk wr => ∃ (j : Nat) (g c : Nat) (zs : List Ins), kk = .int .i64 (j : Int) ∧ zs.length + j ≤ 2 * d + 1 ∧ vv = .slice (some ⟨g, 0, none⟩) zs.length c ∧ Kn w [rowIns (.slice (some ⟨g, 0, none⟩) zs.length c) zs] wr) (fun _ kk _ => (intOf kk).toNat)
      case atStart => exact ⟨d, g5, c5, ys, rfl, by omega, rfl, hK2⟩
      case round =>
        clear hK2
        obtain ⟨i, g, c, zs, rfl, hi, rfl, hK⟩ := hrel
        by_cases h0 : 0 < i
        · have i1 : (0 : Int) < (i : Int) := by omega
          have i2 : (i : Int) > 0 := i1
          go_wp2_with (at_builtin; refine kn_pushIns (m := []) (ys := [⟨10, 0⟩]) rfl _ _ rfl _ zs rfl rfl (hK.al [.int .i64 10, .int .i64 0] 46) (by simp; omega) ?_; intro v2 w2 hK2; obtain ⟨g5, c5, rfl⟩ := row_pos hK2.at0 (by simp))
          go_roundw
          case rel => exact ⟨i - 1, g5, c5, zs ++ [⟨10, 0⟩], by go_num, by simp; omega, by simp, hK2⟩
          case measure => simp [intOf]; omega
        · have i1 : ¬ (i : Int) > 0 := by omega
          go_wp2_with fail
          go_ret
          exact ⟨g, c, zs, rfl, by omega, hK⟩
end Go.Proofs.Ytkfbfainhmkkdaa
