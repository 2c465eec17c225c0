/- For every input the law FnProducts returns true and leaves its arguments as they were: both ways of multiplying give the product, their programs are valid, and the short one does not need more turns. No condition. -/
import Derived.Test.YtkfbfainhmkkdaaGreatZC1
import Derived.Test.YtkfbfainhmkkdaaGreatZC2
import Derived.Test.YtkfbfainhmkkdaaGreatZC3
import Derived.Test.YtkfbfainhmkkdaaGreatZC4
import Derived.Test.YtkfbfainhmkkdaaGreatZC5
import Derived.Test.YtkfbfainhmkkdaaGreatZC6
import Derived.Test.YtkfbfainhmkkdaaGreatZC7
import Derived.Test.YtkfbfainhmkkdaaGreatZC8
import Derived.Test.YtkfbfainhmkkdaaGreatZC9
import Derived.Test.YtkfbfainhmkkdaaGreatZC10
import Derived.Test.YtkfbfainhmkkdaaGreatZC11
import Derived.Test.YtkfbfainhmkkdaaGreatZC12
import Derived.ProofKit
import Derived.Carry
import Derived.OpenShut
import Derived.ChangeMaps5
import Derived.Deep.DeepHandedRow
import Derived.Lib.LaidTab
namespace Go.Proofs.YtkfbfainhmkkdaaGreat
open Go.RowKit Go.Sort
/-! the multiplication, plainly: what the program of turns leaves -/
/-- the value of turns -/
def tvL (b : Int) : List Int → Int
  | [] => 0
  | d :: ts => d + b * tvL b ts
theorem turnF_val {sh : Bool} {b : Int} (hb : 2 ≤ b) : ∀ (g : Nat) (n : Int), 0 ≤ n → n ≤ fb g → tvL b (turnF sh b g n) = n
  | 0, n, h0, hg => by
    have : n = 0 := by have : n ≤ 0 := hg; omega
    subst this; rfl
  | g + 1, n, h0, hg => by
    by_cases h : 0 < n
    · have hs := turn_step (sh := sh) hb h hg
      obtain ⟨q1, q2, q3, q4⟩ := tdm hb h0
      rw [turnF_succ h, tvL, turnF_val hb g _ hs.1 hs.2.2]
      unfold turnD turnN
      split
      · rw [Int.mul_add]; omega
      · omega
    · rw [turnF_zero h]
      show (0 : Int) = n
      omega
theorem turnL_val (sh : Bool) {b f : Int} (hb : 2 ≤ b) (h0 : 0 ≤ f) (h1 : f ≤ 62500000) : tvL b (turnL sh b f) = f :=
  turnF_val hb 30 f h0 (Int.le_trans h1 (by decide))
theorem turn_str {L : List Ins} {b : Int} {n1 n2 n3 : Nat} {y : Int} (h : DvOk b n1 n2 n3 y) {c u : Int} (hu : pw b c.toNat = u) (kind sign : Int) (hk : ∀ t, strokeT kind t = turnT t sign) :
    ∀ (n : Nat) (R N : Int) (tr : List Int) (dn : Nat), 0 ≤ R → R < pw b n2 → 0 ≤ N → N < pw b n3 → dn + n ≤ 3000 →
      ∃ tr' b', Ev L (.str kind n) ⟨mchV b n1 n2 n3 y R N c, tr, dn, 0⟩ ⟨mchV b n1 n2 n3 y ((R + sign * n * (y * u)) % pw b n2) ((N + sign * n * u) % pw b n3) c, tr', dn + n, 0⟩ b'
  | 0, R, N, tr, dn, h0, h1, h2, h3, _ => by
    have e1 : (R + sign * ((0 : Nat) : Int) * (y * u)) % pw b n2 = R := by
      rw [show R + sign * ((0 : Nat) : Int) * (y * u) = R by simp]; exact Int.emod_eq_of_lt h0 h1
    have e2 : (N + sign * ((0 : Nat) : Int) * u) % pw b n3 = N := by
      rw [show N + sign * ((0 : Nat) : Int) * u = N by simp]; exact Int.emod_eq_of_lt h2 h3
    rw [e1, e2]
    exact ⟨tr, false, Ev.s0⟩
  | n + 1, R, N, tr, dn, h0, h1, h2, h3, h4 => by
    have q1 := pw_pos b h.b2 n2
    have q2 := pw_pos b h.b2 n3
    have ht := turn_mch h (R := R) (N := N) ⟨h0, h1⟩ ⟨h2, h3⟩ sign u hu
    obtain ⟨tr', b', hev⟩ := turn_str (L := L) h hu kind sign hk n ((R + sign * (y * u)) % pw b n2) ((N + sign * u) % pw b n3) (tr ++ [kind]) (dn + 1) (Int.emod_nonneg _ (by omega)) (Int.emod_lt_of_pos _ (by omega)) (Int.emod_nonneg _ (by omega)) (Int.emod_lt_of_pos _ (by omega)) (by omega)
    have e1 : ((R + sign * (y * u)) % pw b n2 + sign * (n : Int) * (y * u)) % pw b n2 = (R + sign * ((n + 1 : Nat) : Int) * (y * u)) % pw b n2 := by
      rw [Int.emod_add_emod, Int.natCast_succ, Int.mul_add, Int.mul_one, Int.add_mul]
      congr 1; omega
    have e2 : ((N + sign * u) % pw b n3 + sign * (n : Int) * u) % pw b n3 = (N + sign * ((n + 1 : Nat) : Int) * u) % pw b n3 := by
      rw [Int.emod_add_emod, Int.natCast_succ, Int.mul_add, Int.mul_one, Int.add_mul]
      congr 1; omega
    rw [e1, e2, show dn + 1 + n = dn + (n + 1) by omega] at hev
    have hst : (strokeT kind (mchV b n1 n2 n3 y R N c)).1 = mchV b n1 n2 n3 y ((R + sign * (y * u)) % pw b n2) ((N + sign * u) % pw b n3) c := by rw [hk, ht]
    exact ⟨tr', _, Ev.sStep (by show ¬ dn = 3000; omega) (by rw [hst]; exact hev)⟩
theorem run_str {L : List Ins} {i : Nat} {x : Ins} (hx : L[i]? = some x) (ho : opens x.op = false) (h1 : ¬ x.op = 1) {s s1 s' : RS} {b1 b : Bool} (hc : s.code = 0) (hs : Ev L (.str (x.op - 1) (max 1 x.arg).toNat) s s1 b1) (he : Ev L (.run (i + 1) L.length) s1 s' b) : ∃ b2, Ev L (.run i L.length) s s' b2 := by
  obtain ⟨hl, rfl⟩ := List.getElem?_eq_some_iff.1 hx
  exact ⟨_, Ev.rStr hl hl hc ho h1 hs he⟩
theorem mulUpto_pre (ts : List Int) (k : Nat) : ∀ d, ∃ r, mulUpto ts (k + d) = mulUpto ts k ++ r
  | 0 => ⟨[], by simp⟩
  | d + 1 => by
    obtain ⟨r, hr⟩ := mulUpto_pre ts k d
    refine ⟨r ++ mulIns (k + d) (ts.getD (k + d) 0), ?_⟩
    show mulUpto ts (k + d) ++ _ = _
    rw [hr, List.append_assoc]
    rfl
theorem mul_get {ts : List Int} {k : Nat} (hk : k < ts.length) : ∃ r, mulP ts = mulUpto ts k ++ (mulIns k (ts.getD k 0) ++ r) := by
  obtain ⟨r, hr⟩ := mulUpto_pre ts (k + 1) (ts.length - (k + 1))
  refine ⟨r, ?_⟩
  unfold mulP
  rw [show ts.length = k + 1 + (ts.length - (k + 1)) by omega, hr]
  show (mulUpto ts k ++ mulIns k (ts.getD k 0)) ++ r = _
  rw [List.append_assoc]
/-- the turns at a place -/
theorem mul_turns {L A r : List Ins} {d : Int} (hL : L = A ++ ((if 0 < d then [⟨2, d⟩] else if d < 0 then [⟨3, -d⟩] else []) ++ r)) (hd : -16 ≤ d ∧ d ≤ 16)
    {b : Int} {n1 n2 n3 : Nat} {y : Int} (h : DvOk b n1 n2 n3 y) {c u : Int} (hu : pw b c.toNat = u) {R N : Int} {tr : List Int} {dn : Nat} (h0 : 0 ≤ R) (h1 : R < pw b n2) (h2 : 0 ≤ N) (h3 : N < pw b n3) (h4 : dn + 16 ≤ 3000) :
    ∃ tr' dn', dn' ≤ dn + 16 ∧ ∀ (s' : RS) (b' : Bool), Ev L (.run (A ++ (if 0 < d then [⟨2, d⟩] else if d < 0 then [⟨3, -d⟩] else [] : List Ins)).length L.length) ⟨mchV b n1 n2 n3 y ((R + d * (y * u)) % pw b n2) ((N + d * u) % pw b n3) c, tr', dn', 0⟩ s' b' →
      ∃ b'', Ev L (.run A.length L.length) ⟨mchV b n1 n2 n3 y R N c, tr, dn, 0⟩ s' b'' := by
  by_cases hp : 0 < d
  · rw [if_pos hp] at hL ⊢
    obtain ⟨n, rfl⟩ : ∃ n : Nat, d = n := ⟨d.toNat, by omega⟩
    obtain ⟨tr', b1, hev⟩ := turn_str (L := L) h hu 1 1 (fun t => rfl) n R N tr dn h0 h1 h2 h3 (by omega)
    rw [Int.one_mul] at hev
    refine ⟨tr', dn + n, by omega, fun s' b' he => ?_⟩
    have hx : L[A.length]? = some ⟨2, (n : Int)⟩ := by rw [hL]; simp
    refine run_str (b1 := b1) hx rfl (by show ¬ (2 : Int) = 1; decide) rfl ?_ (by simpa using he)
    rw [show (max 1 (⟨2, (n : Int)⟩ : Ins).arg).toNat = n by show (max (1 : Int) n).toNat = n; omega]
    exact hev
  · rw [if_neg hp] at hL ⊢
    by_cases hn : d < 0
    · rw [if_pos hn] at hL ⊢
      obtain ⟨n, hdn⟩ : ∃ n : Nat, -d = n := ⟨(-d).toNat, by omega⟩
      obtain ⟨tr', b1, hev⟩ := turn_str (L := L) h hu 2 (-1) (fun t => rfl) n R N tr dn h0 h1 h2 h3 (by omega)
      rw [show -1 * (n : Int) = d by omega] at hev
      refine ⟨tr', dn + n, by omega, fun s' b' he => ?_⟩
      have hx : L[A.length]? = some ⟨3, -d⟩ := by rw [hL]; simp
      refine run_str (b1 := b1) hx rfl (by show ¬ (3 : Int) = 1; decide) rfl ?_ (by simpa using he)
      rw [show (max 1 (⟨3, -d⟩ : Ins).arg).toNat = n by show (max (1 : Int) (-d)).toNat = n; omega]
      exact hev
    · rw [if_neg hn] at hL ⊢
      obtain rfl : d = 0 := by omega
      refine ⟨tr, dn, by omega, fun s' b' he => ⟨b', ?_⟩⟩
      rw [Int.zero_mul, Int.zero_mul, Int.add_zero, Int.add_zero, Int.emod_eq_of_lt h0 h1, Int.emod_eq_of_lt h2 h3] at he
      simpa using he
theorem mul_parts {ts : List Int} {b : Int} {n1 n2 n3 : Nat} {y : Int} (h : DvOk b n1 n2 n3 y) {p : Int} (hpl : ∀ R N c, vplaces (mchV b n1 n2 n3 y R N c) = p) (hp : (ts.length : Int) ≤ p) (hp1 : 1 ≤ p) (hd : ∀ d ∈ ts, -16 ≤ d ∧ d ≤ 16) :
    ∀ (r k : Nat) (R N : Int) (tr : List Int) (dn : Nat), k + r = ts.length → 0 ≤ R → R < pw b n2 → 0 ≤ N → N < pw b n3 → dn + 17 * r ≤ 3000 →
      ∃ (s' : RS) (b' : Bool) (c' : Int), Ev (mulP ts) (.run (mulUpto ts k).length (mulP ts).length) ⟨mchV b n1 n2 n3 y R N ((k - 1 : Nat) : Int), tr, dn, 0⟩ s' b' ∧ s'.code = 0 ∧ s'.m = mchV b n1 n2 n3 y ((R + y * (pw b k * tvL b (ts.drop k))) % pw b n2) ((N + pw b k * tvL b (ts.drop k)) % pw b n3) c' ∧ 0 ≤ c' ∧ c' < p
  | 0, k, R, N, tr, dn, hk, h0, h1, h2, h3, h4 => by
    obtain rfl : k = ts.length := by omega
    refine ⟨_, _, ((ts.length - 1 : Nat) : Int), Ev.rEnd (by unfold mulP; omega), rfl, ?_, by omega, by omega⟩
    rw [List.drop_length]
    show mchV b n1 n2 n3 y R N _ = mchV b n1 n2 n3 y ((R + y * (pw b ts.length * 0)) % pw b n2) ((N + pw b ts.length * 0) % pw b n3) _
    rw [Int.mul_zero, Int.mul_zero, Int.add_zero, Int.add_zero, Int.emod_eq_of_lt h0 h1, Int.emod_eq_of_lt h2 h3]
  | r + 1, k, R, N, tr, dn, hk, h0, h1, h2, h3, h4 => by
    have hkl : k < ts.length := by omega
    obtain ⟨rest, hL⟩ := mul_get hkl
    have q1 := pw_pos b h.b2 n2
    have q2 := pw_pos b h.b2 n3
    have hgd : ts.getD k 0 = ts[k] := by rw [List.getD_eq_getElem?_getD, List.getElem?_eq_getElem hkl]; rfl
    have hdk := hd _ (List.getElem_mem hkl)
    have hdrop : ts.drop k = ts[k] :: ts.drop (k + 1) := List.drop_eq_getElem_cons hkl
    obtain ⟨d, hdd⟩ : ∃ d, ts[k] = d := ⟨_, rfl⟩
    rw [hdd] at hgd hdk hdrop
    rw [hgd] at hL
    have hsucc : mulUpto ts (k + 1) = mulUpto ts k ++ mulIns k d := by show mulUpto ts k ++ mulIns k (ts.getD k 0) = _; rw [hgd]
    obtain ⟨u, hu⟩ : ∃ u, pw b k = u := ⟨_, rfl⟩
    have hfin : ∀ (tr1 : List Int) (dn1 : Nat), dn1 ≤ dn + 17 → ∃ (s' : RS) (b' : Bool) (c' : Int), Ev (mulP ts) (.run (mulUpto ts (k + 1)).length (mulP ts).length) ⟨mchV b n1 n2 n3 y ((R + d * (y * u)) % pw b n2) ((N + d * u) % pw b n3) (k : Int), tr1, dn1, 0⟩ s' b' ∧ s'.code = 0 ∧ s'.m = mchV b n1 n2 n3 y ((R + y * (pw b k * tvL b (ts.drop k))) % pw b n2) ((N + pw b k * tvL b (ts.drop k)) % pw b n3) c' ∧ 0 ≤ c' ∧ c' < p := by
      intro tr1 dn1 hdn1
      obtain ⟨s', b', c', hev, hc, hm, hc0, hc1⟩ := mul_parts h hpl hp hp1 hd r (k + 1) ((R + d * (y * u)) % pw b n2) ((N + d * u) % pw b n3) tr1 dn1 (by omega) (Int.emod_nonneg _ (by omega)) (Int.emod_lt_of_pos _ (by omega)) (Int.emod_nonneg _ (by omega)) (Int.emod_lt_of_pos _ (by omega)) (by omega)
      refine ⟨s', b', c', hev, hc, ?_, hc0, hc1⟩
      rw [hm, hdrop, tvL, pw_succ, hu, Int.emod_add_emod, Int.emod_add_emod]
      obtain ⟨v, hv⟩ : ∃ v, tvL b (ts.drop (k + 1)) = v := ⟨_, rfl⟩
      rw [hv]
      have e1 : d * (y * u) = y * (u * d) := by rw [Int.mul_comm d, Int.mul_assoc]
      have e2 : d * u = u * d := Int.mul_comm _ _
      have e3 : u * b * v = u * (b * v) := Int.mul_assoc _ _ _
      rw [e1, e2, e3, Int.mul_add, Int.mul_add, Int.add_assoc, Int.add_assoc]
    rcases Nat.eq_zero_or_pos k with hk0 | hk0
    · subst hk0
      have hi : mulIns 0 d = (if 0 < d then [⟨2, d⟩] else if d < 0 then [⟨3, -d⟩] else []) := rfl
      rw [hi] at hL
      obtain ⟨tr', dn', hdn, hgo⟩ := mul_turns (L := mulP ts) (A := mulUpto ts 0) hL hdk h (c := 0) (u := u) (by rw [← hu]; rfl) (R := R) (N := N) (tr := tr) (dn := dn) h0 h1 h2 h3 (by omega)
      obtain ⟨s', b', c', hev, hrest⟩ := hfin tr' dn' (by omega)
      rw [hsucc, hi] at hev
      obtain ⟨b'', hev2⟩ := hgo s' b' hev
      exact ⟨s', b'', c', hev2, hrest⟩
    · have hi : mulIns k d = [⟨4, 1⟩] ++ (if 0 < d then [⟨2, d⟩] else if d < 0 then [⟨3, -d⟩] else []) := by unfold mulIns; rw [if_pos hk0]
      have hL2 : mulP ts = (mulUpto ts k ++ [⟨4, 1⟩]) ++ ((if 0 < d then [⟨2, d⟩] else if d < 0 then [⟨3, -d⟩] else []) ++ rest) := by
        rw [hL, hi]; simp only [List.append_assoc]
      obtain ⟨tr', dn', hdn, hgo⟩ := mul_turns (L := mulP ts) (A := mulUpto ts k ++ [⟨4, 1⟩]) hL2 hdk h (c := (k : Int)) (u := u) (by rw [Int.toNat_natCast]; exact hu) (R := R) (N := N) (tr := tr ++ [3]) (dn := dn + 1) h0 h1 h2 h3 (by omega)
      obtain ⟨s', b', c', hev, hrest⟩ := hfin tr' dn' (by omega)
      rw [hsucc, hi, ← List.append_assoc] at hev
      obtain ⟨b'', hev2⟩ := hgo s' b' hev
      obtain ⟨tr3, hr⟩ := right_str (L := mulP ts) (R := R) (N := N) (fun c => hpl R N c) 1 ((k - 1 : Nat) : Int) tr dn (by omega) (by omega) (by omega)
      have htr : tr3 = tr ++ [3] := by
        have : Ev (mulP ts) (.str 3 1) ⟨mchV b n1 n2 n3 y R N ((k - 1 : Nat) : Int), tr, dn, 0⟩ ⟨(strokeT 3 (mchV b n1 n2 n3 y R N ((k - 1 : Nat) : Int))).1, tr ++ [3], dn + 1, 0⟩ ((strokeT 3 (mchV b n1 n2 n3 y R N ((k - 1 : Nat) : Int))).2 || false) := Ev.sStep (by show ¬ dn = 3000; omega) Ev.s0
        have := (hr.one this).1
        exact congrArg RS.tr this
      rw [htr, show ((k - 1 : Nat) : Int) + ((1 : Nat) : Int) = (k : Int) by omega] at hr
      have hx : (mulP ts)[(mulUpto ts k).length]? = some ⟨4, 1⟩ := by rw [hL2]; simp
      obtain ⟨b3, hev3⟩ := run_str hx rfl (by decide) (s := ⟨mchV b n1 n2 n3 y R N ((k - 1 : Nat) : Int), tr, dn, 0⟩) rfl hr (by simpa using hev2)
      exact ⟨s', b3, c', hev3, hrest⟩
/-- the product -/
theorem mo_law {t : Tri} {x f : Int} {sh : Bool} (h : moC t x f sh = 0) : vmach (moM t x f sh) = true ∧ valL (moM t x f sh).b.base (moM t x f sh).b.digits = x * f ∧ 0 ≤ x * f ∧ x * f ≤ 1000000000001 := by
  have hv : vmach t = true := by
    cases hv : vmach t with
    | true => rfl
    | false => unfold moC at h; rw [if_pos hv] at h; simp at h
  obtain ⟨k1, k2, k3, e1, e2, f1, f2, l1, c0, c1⟩ := vmach_all hv
  obtain ⟨⟨b1, b2⟩, ⟨n1, n2⟩, -⟩ := vreg_iff.1 k1
  obtain ⟨⟨b3, b4⟩, ⟨n3, n4⟩, -⟩ := vreg_iff.1 k2
  obtain ⟨⟨b5, b6⟩, ⟨n5, n6⟩, -⟩ := vreg_iff.1 k3
  obtain ⟨v1, v2, v3, v4, v5⟩ := vplaces_bd hv
  have hc : trnC t.a.base f = 0 := by
    rcases trnC_cases t.a.base f with hc | hc
    · unfold moC at h; rw [if_neg (by rw [hv]; decide), if_pos hc] at h; cases h
    · exact hc.1
  obtain ⟨-, -, g0, g1⟩ := (trnC_cases t.a.base f).elim (fun h => absurd (h.symm.trans hc) (by decide)) (fun h => h.2)
  have hx : betB x 0 (pw t.a.base t.a.digits.length - 1) = true := by
    cases hb : betB x 0 (pw t.a.base t.a.digits.length - 1) with
    | true => rfl
    | false => unfold moC at h; rw [if_neg (by rw [hv]; decide), if_neg (by rw [hc]; decide), if_pos hb] at h; cases h
  have hq : ¬ (vplaces t < ((turnL sh t.a.base f).length : Int) ∨ pw t.b.base t.b.digits.length - 1 < x * f) := fun hh => by
    unfold moC at h; rw [if_neg (by rw [hv]; decide), if_neg (by rw [hc]; decide), if_neg (by rw [hx]; decide), if_pos hh] at h; cases h
  obtain ⟨x0, x1⟩ := betB_iff.1 hx
  have hm := pw_mono t.a.base (by omega) _ _ l1
  rw [← e1] at f1 hq
  have e3 : t.s.base = t.a.base := e2.trans e1.symm
  rw [e3] at f2
  have hok : DvOk t.a.base t.a.digits.length t.b.digits.length t.s.digits.length x := ⟨b1, by omega, by omega, by omega, f1, f2⟩
  obtain ⟨hl, hd⟩ := turnL_bd sh b1 b2 g0 g1
  have hpl : ∀ R N c, vplaces (mchV t.a.base t.a.digits.length t.b.digits.length t.s.digits.length x R N c) = vplaces t := fun R N c => by simp [vplaces, mchV, digD_len]
  have q1 := pw_pos t.a.base b1 t.b.digits.length
  have q2 := pw_pos t.a.base b1 t.s.digits.length
  obtain ⟨s', b', c', hev, hcode, hmm, hc0, hc1⟩ := mul_parts (ts := turnL sh t.a.base f) hok hpl (by omega) (by omega) hd (turnL sh t.a.base f).length 0 0 0 [] 0 (by omega) (by omega) (by omega) (by omega) (by omega) (by omega)
  have hxf : 0 ≤ x * f := Int.mul_nonneg x0 g0
  have hstart : dvStart t 0 x = mchV t.a.base t.a.digits.length t.b.digits.length t.s.digits.length x 0 0 0 := by
    unfold dvStart mchV; rw [← e1, e3]
  have hE : moE t x f sh = s' := by
    unfold moE
    refine endR_eq (b' := b') ?_
    rw [hstart]
    exact hev
  rw [List.drop_zero, turnL_val sh b1 g0 g1, show pw t.a.base 0 = 1 from rfl, Int.one_mul, Int.zero_add, Int.zero_add, Int.emod_eq_of_lt hxf (by omega)] at hmm
  have hn0 := Int.emod_nonneg f (show pw t.a.base t.s.digits.length ≠ 0 by omega)
  have hn1 := Int.emod_lt_of_pos f (show 0 < pw t.a.base t.s.digits.length by omega)
  have hvm : vmach s'.m = true := by
    rw [hmm]
    refine vmach_mk (t := mchV t.a.base t.a.digits.length t.b.digits.length t.s.digits.length x (x * f) (f % pw t.a.base t.s.digits.length) c') (digD_vreg _ b1 b2 _ (by omega) (by omega) x (by omega) (by omega) (by omega)) (digD_vreg _ b1 b2 _ (by omega) (by omega) _ hxf (by omega) (by omega)) (digD_vreg _ b1 b2 _ (by omega) (by omega) _ hn0 hn1 (by omega)) rfl rfl ?_ ?_ ?_ hc0 ?_
    · simp only [mchV, digD_len]; exact f1
    · simp only [mchV, digD_len]; exact f2
    · simp only [mchV, digD_len]; exact l1
    · rw [hpl]; show c' ≤ vplaces t - 1; omega
  have hM : moM t x f sh = s'.m := by unfold moM; rw [hE, if_pos ⟨h, hvm⟩]
  rw [hM]
  refine ⟨hvm, ?_, hxf, by omega⟩
  rw [hmm]
  exact valL_dig b1 f1 hxf (show x * f < pw t.a.base t.b.digits.length by omega)
end Go.Proofs.YtkfbfainhmkkdaaGreat

namespace Go.Proofs.YtkfbfainhmkkdaaGreat
open Go.RowKit Go.Sort
/-! the short way of multiplying does not need more turns -/
def cntL : List Int → Int
  | [] => 0
  | d :: ts => (if 0 ≤ d then d else -d) + cntL ts
theorem fb_ge : ∀ g : Nat, (g : Int) ≤ fb g
  | 0 => by decide
  | 1 => by decide
  | 2 => by decide
  | g + 3 => by
    have h1 := fb_ge (g + 2)
    have h2 : fb (g + 3) = 2 * fb (g + 2) - 1 := rfl
    have h3 := fb_pos g
    omega
theorem turnF_fuel {sh : Bool} {b : Int} (hb : 2 ≤ b) : ∀ (g g' : Nat) (n : Int), n ≤ fb g → n ≤ fb g' → turnF sh b g n = turnF sh b g' n
  | 0, g', n, h, _ => by
    have h0 : n ≤ 0 := h
    rw [turnF_zero (by omega), turnF_zero (by omega)]
  | g + 1, 0, n, _, h => by
    have h0 : n ≤ 0 := h
    rw [turnF_zero (by omega), turnF_zero (by omega)]
  | g + 1, g' + 1, n, h, h' => by
    by_cases hn : 0 < n
    · rw [turnF_succ hn, turnF_succ hn, turnF_fuel hb g g' _ (turn_step hb hn h).2.2 (turn_step hb hn h').2.2]
    · rw [turnF_zero hn, turnF_zero hn]
/-- how many turns a factor needs -/
def cntK (sh : Bool) (b n : Int) : Int := cntL (turnF sh b n.toNat n)
theorem cntK_zero (sh : Bool) (b : Int) : cntK sh b 0 = 0 := rfl
theorem cntK_of {sh : Bool} {b : Int} (hb : 2 ≤ b) {g : Nat} {n : Int} (h : n ≤ fb g) : cntL (turnF sh b g n) = cntK sh b n := by
  unfold cntK
  rw [turnF_fuel hb g n.toNat n h (by have := fb_ge n.toNat; omega)]
theorem cntK_step {sh : Bool} {b n : Int} (hb : 2 ≤ b) (h : 0 < n) : cntK sh b n = (if 0 ≤ turnD sh b n then turnD sh b n else -turnD sh b n) + cntK sh b (turnN sh b n) := by
  obtain ⟨m, hm⟩ : ∃ m : Nat, n.toNat = m + 1 := ⟨n.toNat - 1, by omega⟩
  have hg : n ≤ fb (m + 1) := by have := fb_ge (m + 1); omega
  have hs := turn_step (sh := sh) hb h hg
  unfold cntK
  rw [hm, turnF_succ h, cntL]
  congr 1
  exact cntK_of hb hs.2.2
theorem cntK_plain {b n q r : Int} (hb : 2 ≤ b) (hq : 0 ≤ q) (hr : 0 ≤ r) (hr2 : r < b) (hn : n = b * q + r) : cntK false b n = r + cntK false b q := by
  have hbq : 0 ≤ b * q := Int.mul_nonneg (by omega) hq
  obtain ⟨e1, e2⟩ := (Int.ediv_emod_unique (show 0 < b by omega)).2 ⟨show r + b * q = n by omega, hr, hr2⟩
  by_cases h : 0 < n
  · rw [cntK_step hb h]
    have d1 : turnD false b n = r := by unfold turnD; rw [if_neg (by simp), Int.tmod_eq_emod_of_nonneg (by omega), e2]
    have d2 : turnN false b n = q := by unfold turnN; rw [if_neg (by simp), Int.tdiv_eq_ediv_of_nonneg (by omega), e1]
    rw [d1, d2, if_pos hr]
  · have hn0 : n = 0 := by omega
    have hr0 : r = 0 := by omega
    have hq0 : q = 0 := by
      rcases Int.lt_or_le 0 q with h2 | h2
      · have : b * 1 ≤ b * q := Int.mul_le_mul_of_nonneg_left (by omega) (by omega)
        omega
      · omega
    rw [hn0, hr0, hq0, cntK_zero]; rfl
/-- the turns of the short way -/
theorem cntK_short {b n q r s : Int} (hb : 2 ≤ b) (hq : 0 ≤ q) (hr : 0 ≤ r) (hr2 : r < b) (hn : n = b * q + r) (hs : q % b = s) :
    ((2 * r < b ∨ (2 * r = b ∧ 2 * s < b - 1)) ∧ cntK true b n = r + cntK true b q) ∨ ((b < 2 * r ∨ (2 * r = b ∧ b - 1 ≤ 2 * s)) ∧ cntK true b n = (b - r) + cntK true b (q + 1)) := by
  have hbq : 0 ≤ b * q := Int.mul_nonneg (by omega) hq
  obtain ⟨e1, e2⟩ := (Int.ediv_emod_unique (show 0 < b by omega)).2 ⟨show r + b * q = n by omega, hr, hr2⟩
  have m1 : n.tmod b = r := by rw [Int.tmod_eq_emod_of_nonneg (by omega), e2]
  have m2 : n.tdiv b = q := by rw [Int.tdiv_eq_ediv_of_nonneg (by omega), e1]
  have m3 : q.tmod b = s := by rw [Int.tmod_eq_emod_of_nonneg hq, hs]
  have hf : fewC b n = (decide (2 * r < b) || (decide (2 * r = b) && decide (2 * s < b - 1))) := by unfold fewC; rw [m2, m1, m3]
  by_cases hc : 2 * r < b ∨ (2 * r = b ∧ 2 * s < b - 1)
  · refine .inl ⟨hc, ?_⟩
    have hft : fewC b n = true := by rw [hf]; simpa using hc
    by_cases h : 0 < n
    · rw [cntK_step hb h]
      have d1 : turnD true b n = r := by unfold turnD; rw [if_neg (by rw [hft]; simp), m1]
      have d2 : turnN true b n = q := by unfold turnN; rw [if_neg (by rw [hft]; simp), m2]
      rw [d1, d2, if_pos hr]
    · have hn0 : n = 0 := by omega
      have hr0 : r = 0 := by omega
      have hq0 : q = 0 := by
        rcases Int.lt_or_le 0 q with h2 | h2
        · have : b * 1 ≤ b * q := Int.mul_le_mul_of_nonneg_left (by omega) (by omega)
          omega
        · omega
      rw [hn0, hr0, hq0, cntK_zero]; rfl
  · refine .inr ⟨by omega, ?_⟩
    have hft : fewC b n = false := by
      rw [hf]
      simp only [Bool.or_eq_false_iff, Bool.and_eq_false_iff, decide_eq_false_iff_not]
      omega
    have h : 0 < n := by omega
    rw [cntK_step hb h]
    have d1 : turnD true b n = r - b := by unfold turnD; rw [if_pos ⟨rfl, hft⟩, m1]
    have d2 : turnN true b n = q + 1 := by unfold turnN; rw [if_pos ⟨rfl, hft⟩, m2]
    rw [d1, d2, if_neg (by omega)]
    omega
theorem split_b {b : Int} (hb : 2 ≤ b) (m : Nat) : ∃ (q : Nat) (r : Int), 0 ≤ r ∧ r < b ∧ (m : Int) = b * q + r ∧ (0 < m → q < m) ∧ ((m : Int) % b = r) := by
  have h0 : 0 ≤ (m : Int) / b := Int.ediv_nonneg (by omega) (by omega)
  have h1 := Int.emod_nonneg (m : Int) (show b ≠ 0 by omega)
  have h2 := Int.emod_lt_of_pos (m : Int) (show 0 < b by omega)
  have h3 := Int.mul_ediv_add_emod (m : Int) b
  refine ⟨((m : Int) / b).toNat, (m : Int) % b, h1, h2, ?_, fun hm => ?_, rfl⟩
  · rw [Int.toNat_of_nonneg h0]; omega
  · have h4 : 2 * ((m : Int) / b) ≤ b * ((m : Int) / b) := Int.mul_le_mul_of_nonneg_right hb h0
    omega
/-- one more needs one turn more at most -/
theorem cnt_near {b : Int} (hb : 2 ≤ b) (m : Nat) : cntK true b ((m : Int) + 1) ≤ cntK true b m + 1 ∧ (b ≤ 2 * ((m : Int) % b) → cntK true b ((m : Int) + 1) ≤ cntK true b m) := by
  induction m using Nat.strongRecOn with
  | _ m ih =>
    obtain ⟨q, r, r0, r1, hm, hqm, hmod⟩ := split_b hb m
    obtain ⟨s, hs⟩ : ∃ s, (q : Int) % b = s := ⟨_, rfl⟩
    rw [hmod]
    have hA := cntK_short hb (show (0 : Int) ≤ q by omega) r0 r1 hm hs
    have hQ : (cntK true b ((q : Int) + 1) ≤ cntK true b q + 1 ∧ (b ≤ 2 * s → cntK true b ((q : Int) + 1) ≤ cntK true b q)) ∨ (m = 0 ∧ q = 0 ∧ r = 0) := by
      rcases Nat.eq_zero_or_pos m with h0 | h0
      · right
        have hq0 : (q : Int) = 0 := by
          rcases Int.lt_or_le 0 (q : Int) with h2 | h2
          · have : b * 1 ≤ b * (q : Int) := Int.mul_le_mul_of_nonneg_left (by omega) (by omega)
            omega
          · omega
        rw [hq0] at hm
        omega
      · left
        have := ih q (hqm h0)
        rw [hs] at this
        exact this
    by_cases hr : r + 1 < b
    · have hB := cntK_short hb (show (0 : Int) ≤ q by omega) (show 0 ≤ r + 1 by omega) hr (show (m : Int) + 1 = b * q + (r + 1) by omega) hs
      rcases hQ with ⟨hQ1, hQ2⟩ | ⟨rfl, rfl, rfl⟩
      · rcases hA with ⟨a1, a2⟩ | ⟨a1, a2⟩
        · rcases hB with ⟨b1, b2⟩ | ⟨b1, b2⟩
          · refine ⟨by omega, fun hh => ?_⟩
            omega
          · refine ⟨?_, fun hh => ?_⟩
            · rcases b1 with b1 | ⟨b1, b3⟩
              · omega
              · have := hQ2 (by omega)
                omega
            · omega
        · rcases hB with ⟨b1, b2⟩ | ⟨b1, b2⟩
          · omega
          · omega
      · rcases hB with ⟨b1, b2⟩ | ⟨b1, b2⟩
        · have e0 : cntK true b ((0 : Nat) : Int) = 0 := cntK_zero true b
          omega
        · have hs0 : s = 0 := by rw [← hs]; simp
          omega
    · have hrb : r + 1 = b := by omega
      have e1 : (m : Int) + 1 = b * ((q : Int) + 1) + 0 := by rw [Int.mul_add]; omega
      have hB := cntK_short hb (show (0 : Int) ≤ (q : Int) + 1 by omega) (Int.le_refl 0) (by omega) e1 rfl
      rcases hQ with ⟨hQ1, hQ2⟩ | ⟨rfl, rfl, rfl⟩
      · rcases hA with ⟨a1, a2⟩ | ⟨a1, a2⟩
        · rcases hB with ⟨b1, b2⟩ | ⟨b1, b2⟩
          · refine ⟨by omega, fun hh => by omega⟩
          · omega
        · rcases hB with ⟨b1, b2⟩ | ⟨b1, b2⟩
          · refine ⟨by omega, fun hh => by omega⟩
          · omega
      · omega
theorem cnt_less {b : Int} (hb : 2 ≤ b) (m : Nat) : cntK true b m ≤ cntK false b m := by
  induction m using Nat.strongRecOn with
  | _ m ih =>
    obtain ⟨q, r, r0, r1, hm, hqm, hmod⟩ := split_b hb m
    obtain ⟨s, hs⟩ : ∃ s, (q : Int) % b = s := ⟨_, rfl⟩
    have hA := cntK_short hb (show (0 : Int) ≤ q by omega) r0 r1 hm hs
    have hF := cntK_plain hb (show (0 : Int) ≤ q by omega) r0 r1 hm
    have hN := cnt_near hb q
    rw [hs] at hN
    rcases Nat.eq_zero_or_pos m with h0 | h0
    · subst h0; exact Int.le_refl 0
    · have hi := ih q (hqm h0)
      rcases hA with ⟨a1, a2⟩ | ⟨a1, a2⟩
      · omega
      · rcases a1 with a1 | ⟨a1, a3⟩
        · omega
        · have := hN.2 (by omega)
          omega
theorem cntL_less {b f : Int} (hb : 2 ≤ b) (h0 : 0 ≤ f) (h1 : f ≤ 62500000) : cntL (turnL true b f) ≤ cntL (turnL false b f) := by
  have hg : f ≤ fb 30 := Int.le_trans h1 (by decide)
  unfold turnL
  rw [cntK_of hb hg, cntK_of hb hg]
  obtain ⟨m, rfl⟩ := Int.eq_ofNat_of_zero_le h0
  exact cnt_less hb m
end Go.Proofs.YtkfbfainhmkkdaaGreat

namespace Go.Proofs.YtkfbfainhmkkdaaGreat
open Go.RowKit Go.Sort
def absI (d : Int) : Int := if 0 ≤ d then d else -d
theorem absolute_any (d : Int) (w : World) (h : -1000000 ≤ d ∧ d ≤ 1000000) : Calls Tryz.prog 114 #[.int .i64 d] w fun e w' => e = .returned (.int .i64 (absI d)) ∧ w = w' := by
  by_cases hd : d < 0
  · have e1 : absI d = -d := by unfold absI; rw [if_neg (by omega)]
    have hw : IntKind.i64.wrap (-d) = -d := wrapI64 (by omega)
    rw [e1]
    clear e1
    go_enter Tryz.func114, Tryz.ntmps114
    go_wp2
    go_ret
    exact ⟨rfl, rfl⟩
  · have e1 : absI d = d := by unfold absI; rw [if_pos (by omega)]
    rw [e1]
    clear e1
    go_enter Tryz.func114, Tryz.ntmps114
    go_wp2
    go_ret
    exact ⟨rfl, rfl⟩
theorem l04Size_any (d : Int) (w : World) (h : -1000000 ≤ d ∧ d ≤ 1000000) : Calls Tryz.prog 117 #[.int .i64 d] w fun e w' => e = .returned (.int .i64 (absI d)) ∧ w = w' := by
  by_cases hd : d < 0
  · have e1 : absI d = -d := by unfold absI; rw [if_neg (by omega)]
    have hw : IntKind.i64.wrap (-d) = -d := wrapI64 (by omega)
    rw [e1]
    clear e1
    go_enter Tryz.func117, Tryz.ntmps117
    go_wp2
    go_ret
    exact ⟨rfl, rfl⟩
  · have e1 : absI d = d := by unfold absI; rw [if_pos (by omega)]
    rw [e1]
    clear e1
    go_enter Tryz.func117, Tryz.ntmps117
    go_wp2
    go_ret
    exact ⟨rfl, rfl⟩
theorem cntL_take {ts : List Int} {k : Nat} (h : k < ts.length) : cntL (ts.take (k + 1)) = cntL (ts.take k) + absI ts[k] := by
  have : ∀ xs ys : List Int, cntL (xs ++ ys) = cntL xs + cntL ys := by
    intro xs ys
    induction xs with
    | nil => simp [cntL]
    | cons x xs ih => rw [List.cons_append, cntL, cntL, ih]; omega
  rw [List.take_succ_eq_append_getElem h, this]
  simp [cntL, absI]
theorem cntL_bd {ts : List Int} (hd : ∀ d ∈ ts, -16 ≤ d ∧ d ≤ 16) : 0 ≤ cntL ts ∧ cntL ts ≤ 16 * ts.length := by
  induction ts with
  | nil => simp [cntL]
  | cons x xs ih =>
    have h1 := hd x (List.mem_cons_self ..)
    have h2 := ih (fun d hd' => hd d (List.mem_cons_of_mem _ hd'))
    rw [cntL, List.length_cons]
    split <;> omega
set_option maxRecDepth 100000 in
set_option maxHeartbeats 800000 in
theorem turnsOf_any (A : Option Addr) (n c : Nat) (ts : List Int) (w : World) (hr : RI w A n ts) (hd : ∀ d ∈ ts, -16 ≤ d ∧ d ≤ 16) (hn : n ≤ 1000) :
    Calls Tryz.prog 68 #[.slice A n c] w fun e w' => e = .returned (.int .i64 (cntL ts)) ∧ Below w.heap.size w w' := by
  have HL := Lib.hid hr.1
  have HD := Lib.hid hd
  go_enter Tryz.func68, Tryz.ntmps68
  go_wp2_with fail
  go_loopw [3, 8] (fun vv ii wr => ∃ k : Nat, k ≤ n ∧ ii = .int .i64 k ∧ vv = .int .i64 (cntL (ts.take k)) ∧ Below w.heap.size w wr) (fun _ ii _ => n - (intOf ii).toNat)
  case atStart => exact ⟨0, Nat.zero_le _, rfl, by simp [cntL], Below.refl _ _⟩
  case round =>
    obtain ⟨k, hk, rfl, rfl, hB⟩ := hrel
    by_cases hkn : k < n
    · obtain ⟨ad, hA, hlt, hkl, hc⟩ := (hr.below hB).at_ hkn
      have hs := cntL_take hkl
      have hdk := HD.out _ (List.getElem_mem hkl)
      obtain ⟨d, hdd⟩ : ∃ d, ts[k] = d := ⟨_, rfl⟩
      rw [hdd] at hc hs hdk
      have hb1 := cntL_bd (ts := ts.take k) (fun x hx => HD.out x (List.mem_of_mem_take hx))
      have hb2 := cntL_bd (ts := ts.take (k + 1)) (fun x hx => HD.out x (List.mem_of_mem_take hx))
      have hl1 : (ts.take k).length ≤ 1000 := by rw [List.length_take]; omega
      have hl2 : (ts.take (k + 1)).length ≤ 1000 := by rw [List.length_take]; omega
      obtain ⟨u, hu⟩ : ∃ u, cntL (ts.take k) = u := ⟨_, rfl⟩
      obtain ⟨v, hv⟩ : ∃ v, absI d = v := ⟨_, rfl⟩
      rw [hu] at hs hb1
      rw [hv] at hs
      rw [hu]
      rw [hs] at hb2
      have HS := Lib.hid hs
      have hw1 : IntKind.i64.wrap (u + v) = u + v := wrapI64 (by omega)
      have KA := Lib.hid (fun W => absolute_any d W (by omega))
      have KA := KA.out
      rw [hv] at KA
      have KA := Lib.hid KA
      have hi0 : (0 : Int) ≤ (k : Int) := by omega
      have hi1 : (k : Int) < (n : Int) := by omega
      subst hA
      clear hs hb1 hb2 hl1 hl2 hdk hdd hu hv
      go_wp2_with (go_at_call 114; refine (KA.out _).mono ?_; rintro e w' ⟨rfl, rfl⟩)
      go_roundw
      case rel => exact ⟨k + 1, by omega, by go_num, by rw [HS.out], hB⟩
      case measure => simp [intOf]; omega
    · have hi1 : ¬ (k : Int) < (n : Int) := by omega
      have hf : ts.take k = ts := List.take_of_length_le (by have := HL.out; omega)
      rw [hf]
      clear hf
      go_wp2_with fail
      go_ret
      exact ⟨rfl, hB⟩
set_option maxRecDepth 100000 in
set_option maxHeartbeats 800000 in
theorem l13Count_any {g : Nat} (A : Option Addr) (n c : Nat) (ts : List Int) (w : World) (h0 : w.cell? ⟨g, 1, none⟩ = some (.slice A n c)) (hg : g < w.heap.size) (hr : RI w A n ts) (hd : ∀ d ∈ ts, -16 ≤ d ∧ d ≤ 16) (hn : n ≤ 1000) :
    Calls Tryz.prog 71 #[.pointer (some ⟨g, 0, none⟩)] w fun e w' => e = .returned (.int .i64 (cntL ts)) ∧ Below w.heap.size w w' := by
  have HL := Lib.hid hr.1
  have HD := Lib.hid hd
  go_enter Tryz.func71, Tryz.ntmps71
  go_wp2_with fail
  go_loopw [3, 4] (fun vv ii wr => ∃ k : Nat, k ≤ n ∧ ii = .int .i64 k ∧ vv = .int .i64 (cntL (ts.take k)) ∧ Below w.heap.size w wr) (fun _ ii _ => n - (intOf ii).toNat)
  case atStart => exact ⟨0, Nat.zero_le _, rfl, by simp [cntL], Below.refl _ _⟩
  case round =>
    obtain ⟨k, hk, rfl, rfl, hB⟩ := hrel
    have h1 : wr.cell? ⟨g, 1, none⟩ = some (.slice A n c) := by rw [World.cell?_of_block (w := w) (hB.block g hg)]; exact h0
    by_cases hkn : k < n
    · obtain ⟨ad, hA, hlt, hkl, hc⟩ := (hr.below hB).at_ hkn
      have hs := cntL_take hkl
      have hdk := HD.out _ (List.getElem_mem hkl)
      obtain ⟨d, hdd⟩ : ∃ d, ts[k] = d := ⟨_, rfl⟩
      rw [hdd] at hc hs hdk
      have hb1 := cntL_bd (ts := ts.take k) (fun x hx => HD.out x (List.mem_of_mem_take hx))
      have hb2 := cntL_bd (ts := ts.take (k + 1)) (fun x hx => HD.out x (List.mem_of_mem_take hx))
      have hl1 : (ts.take k).length ≤ 1000 := by rw [List.length_take]; omega
      have hl2 : (ts.take (k + 1)).length ≤ 1000 := by rw [List.length_take]; omega
      obtain ⟨u, hu⟩ : ∃ u, cntL (ts.take k) = u := ⟨_, rfl⟩
      obtain ⟨v, hv⟩ : ∃ v, absI d = v := ⟨_, rfl⟩
      rw [hu] at hs hb1
      rw [hv] at hs
      rw [hu]
      rw [hs] at hb2
      have HS := Lib.hid hs
      have hw1 : IntKind.i64.wrap (u + v) = u + v := wrapI64 (by omega)
      have KA := Lib.hid (fun W => l04Size_any d W (by omega))
      have KA := KA.out
      rw [hv] at KA
      have KA := Lib.hid KA
      have hi0 : (0 : Int) ≤ (k : Int) := by omega
      have hi1 : (k : Int) < (n : Int) := by omega
      subst hA
      clear hs hb1 hb2 hl1 hl2 hdk hdd hu hv
      go_wp2_with (go_at_call 117; refine (KA.out _).mono ?_; rintro e w' ⟨rfl, rfl⟩)
      go_roundw
      case rel => exact ⟨k + 1, by omega, by go_num, by rw [HS.out], hB⟩
      case measure => simp [intOf]; omega
    · have hi1 : ¬ (k : Int) < (n : Int) := by omega
      have hf : ts.take k = ts := List.take_of_length_le (by have := HL.out; omega)
      rw [hf]
      clear hf
      go_wp2_with fail
      go_ret
      exact ⟨rfl, hB⟩
end Go.Proofs.YtkfbfainhmkkdaaGreat

namespace Go.Proofs.YtkfbfainhmkkdaaGreat
open Go.RowKit Go.Sort
/-- how many turns a way of multiplying needs -/
def cmV (sh : Bool) (b f : Int) : Int := if trnC b f = 0 then cntL (turnL sh b f) else 0
theorem cm_less {b f : Int} (h : trnC b f = 0) : cmV true b f ≤ cmV false b f := by
  obtain ⟨hb, hb2, h0, h1⟩ := (trnC_cases b f).elim (fun h2 => absurd (h2.symm.trans h) (by decide)) (fun h => h.2)
  unfold cmV
  rw [if_pos h, if_pos h]
  exact cntL_less hb h0 h1
def CMRet (b f : Int) (w : World) (e : Ending) (w' : World) : Prop := e = .returned (.tuple #[.int .i64 (cmV false b f), .int .i64 (cmV true b f), .int .i64 (trnC b f)]) ∧ Below w.heap.size w w'
theorem cm_bad {b f : Int} (h : trnC b f = 2) (sh : Bool) : cmV sh b f = 0 := by unfold cmV; rw [if_neg (by rw [h]; decide)]
theorem cm_fine {b f : Int} (h : trnC b f = 0) (sh : Bool) : cmV sh b f = cntL (turnL sh b f) := by unfold cmV; rw [if_pos h]
set_option maxRecDepth 100000 in
set_option maxHeartbeats 1600000 in
theorem CompareMethods_any (b f : Int) (w : World) : Calls Tryz.prog 14 #[.int .i64 b, .int .i64 f] w (CMRet b f w) := by
  unfold CMRet
  have KI := (fun W => isTurnsInput_any b f W)
  rcases hi : (betB b 2 16 && betB f 0 62500000) with _ | _
  · have HC : trnC b f = 2 := by unfold trnC; rw [hi]; rfl
    rw [cm_bad HC, cm_bad HC, HC]
    rw [hi] at KI
    have KI := Lib.hid KI
    clear hi HC
    go_enter Tryz.func14, Tryz.ntmps14
    go_wp2_with (go_at_call 65; refine (KI.out _).mono ?_; rintro e w' ⟨rfl, rfl⟩)
    go_ret3
    exact ⟨rfl, Below.refl _ _⟩
  have HC : trnC b f = 0 := by unfold trnC; rw [hi]; rfl
  rw [hi] at KI
  have KI := Lib.hid KI
  rw [cm_fine HC, cm_fine HC, HC]
  obtain ⟨hb, hb2, h0, h1⟩ := (trnC_cases b f).elim (fun h => absurd (h.symm.trans HC) (by decide)) (fun h => h.2)
  have K0 := (fun W => plainTurns_any b f W hb hb2 h0 h1)
  have K1 := (fun W => fewestTurns_any b f W hb hb2 h0 h1)
  obtain ⟨l0, d0⟩ := turnL_bd false hb hb2 h0 h1
  obtain ⟨l1, d1⟩ := turnL_bd true hb hb2 h0 h1
  obtain ⟨ts, hts⟩ : ∃ ts, turnL false b f = ts := ⟨_, rfl⟩
  obtain ⟨us, hus⟩ : ∃ ts, turnL true b f = ts := ⟨_, rfl⟩
  rw [hts] at K0 l0 d0 ⊢
  rw [hus] at K1 l1 d1 ⊢
  have K0 := Lib.hid K0
  have K1 := Lib.hid K1
  have D0 := Lib.hid d0
  have D1 := Lib.hid d1
  clear hts hus hi hb hb2 h0 h1 d0 d1 HC
  go_enter Tryz.func14, Tryz.ntmps14
  go_wp2_with (go_at_call 65; refine (KI.out _).mono ?_; rintro e w' ⟨rfl, rfl⟩)
  (with_reducible refine (K0.out _).mono ?_); rintro e w2 ⟨A, c, rfl, hK⟩
  have J2 := (Kn.nil w).join hK
  clear hK
  go_wp2_with fail
  refine (turnsOf_any A ts.length c ts w2 J2.riv D0.out (by omega)).mono ?_; rintro e w3 ⟨rfl, hw⟩
  have J3 := J2.keep hw
  clear J2 hw
  go_wp2_with fail
  (with_reducible refine (K1.out _).mono ?_); rintro e w4 ⟨B, d, rfl, hK⟩
  have J4 := J3.join hK
  clear hK J3
  go_wp2_with fail
  refine (turnsOf_any B us.length d us w4 J4.riv D1.out (by omega)).mono ?_; rintro e w5 ⟨rfl, hw⟩
  have J5 := J4.keep hw
  clear J4 hw
  go_wp2_with fail
  go_ret3
  exact ⟨rfl, J5.below⟩
set_option maxRecDepth 100000 in
set_option maxHeartbeats 1600000 in
theorem specCompareMethods_any (b f : Int) (w : World) : Calls Tryz.prog 15 #[.int .i64 b, .int .i64 f] w (CMRet b f w) := by
  unfold CMRet
  have KP := (fun W => PlainTurns_any b f W)
  have KQ := (fun W => FewestTurns_any b f W)
  unfold TDRet at KP KQ
  rcases trnC_cases b f with HC | ⟨HC, hb, hb2, h0, h1⟩
  · have KP := Lib.hid (fun W => (KP W).mono (fun e w' h => show e = _ ∧ Below W.heap.size W w' from h.elim (fun h => h.2) (fun h => absurd (HC.symm.trans h.1) (by decide))))
    rw [cm_bad HC, cm_bad HC, HC]
    clear HC KQ
    go_enter Tryz.func15, Tryz.ntmps15
    go_wp2_with fail
    refine (KP.out _).mono ?_; rintro e w2 ⟨rfl, hw⟩
    have J2 := (Kn.nil w).keep hw
    clear hw
    go_wp2_with fail
    go_ret3
    exact ⟨rfl, (J2.al_ _).below⟩
  · have KP := (fun W => (KP W).mono (fun e w' h => show ∃ A c, e = _ ∧ Kn W _ w' from h.elim (fun h => absurd (HC.symm.trans h.1) (by decide)) (fun h => h.2)))
    have KQ := (fun W => (KQ W).mono (fun e w' h => show ∃ A c, e = _ ∧ Kn W _ w' from h.elim (fun h => absurd (HC.symm.trans h.1) (by decide)) (fun h => h.2)))
    rw [cm_fine HC, cm_fine HC, HC]
    obtain ⟨l0, d0⟩ := turnL_bd false hb hb2 h0 h1
    obtain ⟨l1, d1⟩ := turnL_bd true hb hb2 h0 h1
    obtain ⟨ts, hts⟩ : ∃ ts, turnL false b f = ts := ⟨_, rfl⟩
    obtain ⟨us, hus⟩ : ∃ ts, turnL true b f = ts := ⟨_, rfl⟩
    rw [hts] at KP l0 d0 ⊢
    rw [hus] at KQ l1 d1 ⊢
    have KP := Lib.hid KP
    have KQ := Lib.hid KQ
    have D0 := Lib.hid d0
    have D1 := Lib.hid d1
    clear hts hus hb hb2 h0 h1 d0 d1 HC
    go_enter Tryz.func15, Tryz.ntmps15
    go_wp2_with fail
    (with_reducible refine (KP.out _).mono ?_); rintro e w2 ⟨A, c, rfl, hK⟩
    have J2 := (Kn.nil w).join hK
    clear hK
    go_wp2_with fail
    refine Calls.kn (J2.al [.int .i64 b, .slice A ts.length c] 91) ?_; intro w3 J3
    (with_reducible refine (KQ.out _).mono ?_); rintro e w4 ⟨B, d, rfl, hK⟩
    have J4 := J3.join hK
    clear hK J3 J2
    obtain ⟨g1, hg1⟩ : ∃ g, w2.heap.size = g := ⟨_, rfl⟩
    rw [hg1] at J4 ⊢
    go_wp2_with fail
    refine Calls.kn (J4.al [.int .i64 b, .slice B us.length d] 91) ?_; intro w5 J5
    obtain ⟨g2, hg2⟩ : ∃ g, w4.heap.size = g := ⟨_, rfl⟩
    rw [hg2] at J5 ⊢
    clear hg1 hg2 J4
    obtain ⟨x1, x2, x3, -⟩ := (J5.front 2 rfl).cells
    refine (l13Count_any (g := g1) A ts.length c ts w5 (box2 (J5.front 2 rfl)).2 (Ent.lt (J5.front 2 rfl).at0 rfl) (J5.front 3 rfl).riv D0.out (by omega)).mono ?_; rintro e w6 ⟨rfl, hw⟩
    have J6 := J5.keep hw
    clear J5 hw x1 x2 x3
    go_wp2_with fail
    refine (l13Count_any (g := g2) B us.length d us w6 (box2 (J6.front 0 rfl)).2 (Ent.lt J6.at0 rfl) (J6.front 1 rfl).riv D1.out (by omega)).mono ?_; rintro e w7 ⟨rfl, hw⟩
    have J7 := J6.keep hw
    clear J6 hw
    go_wp2_with fail
    go_ret3
    exact ⟨rfl, J7.below⟩
end Go.Proofs.YtkfbfainhmkkdaaGreat

namespace Go.Proofs.YtkfbfainhmkkdaaGreat
open Go.RowKit Go.Sort
theorem ValueOf_ok (b : Int) (A : Option Addr) (n c : Nat) (ds : List Int) (w : World) (hr : RI w A n ds) (hv : vreg b ds = true) :
    Calls Tryz.prog 19 #[.agg #[.int .i64 b, .slice A n c]] w fun e w' => e = .returned (.tuple #[.int .i64 (valL b ds), .int .i64 0]) ∧ Below w.heap.size w w' := by
  obtain ⟨⟨b1, b2⟩, ⟨n1, n2⟩, hd, -⟩ := vreg_iff.1 hv
  have hl : n = ds.length := hr.1.symm
  have KR := Lib.hid (fun W (hW : Below w.heap.size w W) => calls_val (ValidRegister_any b A n c ds W (hr.below hW) (by omega)) (congrArg Value.bool hv))
  have KV := Lib.hid (fun W (hW : Below w.heap.size w W) => value_any b A n c ds W b1 b2 hd (hr.below hW) (by omega))
  clear hr hd hv hl
  go_enter Tryz.func19, Tryz.ntmps19
  go_wp2_with fail
  refine Calls.kn ((Kn.nil w).al [.int .i64 b, .slice A n c] 26) ?_; intro w1 K1
  refine (KR.out _ K1.below).mono ?_; rintro e w2 ⟨rfl, hw⟩
  have K2 := K1.keep hw
  clear K1 hw
  obtain ⟨a1, a2, a3, -⟩ := K2.cells
  go_wp2_with fail
  refine (KV.out _ K2.below).mono ?_; rintro e w3 ⟨rfl, hw⟩
  have K3 := K2.keep hw
  clear K2 hw a1 a2 a3
  go_wp2_with fail
  go_ret2
  exact ⟨rfl, K3.below⟩
/-- the program that multiplies, or none -/
def mpL (b f : Int) (sh : Bool) : List Ins := if trnC b f = 0 then mulP (turnL sh b f) else []
theorem mp_any {b f : Int} {sh : Bool} {w w' : World} {e : Ending} (h : MPRet b f sh w e w') : ∃ A c, e = .returned (.tuple #[.slice A (mpL b f sh).length c, .int .i64 (trnC b f)]) ∧ Kn w [rowIns (.slice A (mpL b f sh).length c) (mpL b f sh)] w' := by
  unfold mpL
  rcases h with ⟨hc, rfl, hw⟩ | ⟨hc, A, c, rfl, hK⟩
  · rw [if_neg (by rw [hc]; decide), hc]
    exact ⟨none, 0, rfl, ((Kn.nil w).keep hw).nilIns⟩
  · rw [if_pos hc, hc]
    exact ⟨A, c, rfl, hK⟩
theorem mpL_ok {b f : Int} {sh : Bool} (h : trnC b f = 0) : vprog (mpL b f sh) = true := by
  obtain ⟨hb, hb2, h0, h1⟩ := (trnC_cases b f).elim (fun h2 => absurd (h2.symm.trans h) (by decide)) (fun h => h.2)
  unfold mpL
  rw [if_pos h]
  exact mulP_ok hb hb2 h0 h1
theorem mpL_len (b f : Int) (sh : Bool) : (mpL b f sh).length ≤ 1000 := by
  by_cases h : trnC b f = 0
  · have := vprog_len (mpL_ok (sh := sh) h); omega
  · unfold mpL; rw [if_neg h]; exact Nat.zero_le _
set_option maxRecDepth 100000 in
set_option maxHeartbeats 6400000 in
theorem law_Products (A : Option Addr) (n c : Nat) (bs : List UInt8) (w : World) (hb : RB w A n bs) (hn : n ≤ 9223372036854775807) :
    Calls Tryz.prog 3 #[.slice A n c] w fun e w' => e = .returned (.bool true) ∧ Below w.heap.size w w' := by
  have KD := Lib.hid (DrawMultiplyOn_any A n c bs w hb hn)
  have KP := Lib.hid (fun W (hW : Below w.heap.size w W) => DrawMultiplyProgram_any A n c bs W (hb.below hW) hn)
  have KC := Lib.hid (fun W (hW : Below w.heap.size w W) => DrawCompareMethods_any A n c bs W (hb.below hW) hn)
  clear hb
  have KG := (fun W => f6bigP_any A n c W)
  obtain ⟨bg, hbg⟩ : ∃ b, decide ((n : Int) > 4096) = b := ⟨_, rfl⟩
  rw [hbg] at KG
  replace KG := Lib.hid KG
  clear hbg
  rcases bg with _ | _
  rotate_left
  · go_enter Tryz.func3, Tryz.ntmps3
    go_wp2_with (go_at_call 6; refine (KG.out _).mono ?_; rintro e w' ⟨rfl, hww⟩; obtain rfl := hww.symm)
    go_ret
    exact ⟨rfl, Below.refl _ _⟩
  go_enter Tryz.func3, Tryz.ntmps3
  go_wp2_with (go_at_call 6; refine (KG.out _).mono ?_; rintro e w' ⟨rfl, hww⟩; obtain rfl := hww.symm)
  refine KD.out.mono ?_; rintro e w1 ⟨t, A1, c1, A2, c2, A3, c3, x, y, sh, rfl, hl, K1⟩
  clear KD
  have hs : SmallTri t := ⟨by unfold SmallReg; omega, by unfold SmallReg; omega, by unfold SmallReg; omega⟩
  clear hl
  obtain ⟨g, hg⟩ : ∃ g, w1.heap.size = g := ⟨_, rfl⟩
  go_wp2_with fail
  refine Calls.kn (K1.al [.int .i64 t.a.base, .slice A1 t.a.digits.length c1, .int .i64 t.b.base, .slice A2 t.b.digits.length c2, .int .i64 t.s.base, .slice A3 t.s.digits.length c3, .int .i64 t.carry] 28) ?_; intro w2 K2
  rw [hg] at K2
  try rw [hg]
  clear K1 hg
  have HQ := Lib.hid (fun h : moC t x y sh = 0 => mo_law h)
  have KA := Lib.hid (MultiplyOn_any t A1 A2 A3 c1 c2 c3 x y sh w2 (K2.front 3 rfl).riv (K2.front 2 rfl).riv (K2.front 1 rfl).riv hs)
  have KB := Lib.hid (fun W (hW : Below w2.heap.size w2 W) => specMultiplyOn_any t A1 A2 A3 c1 c2 c3 x y sh W ((K2.front 3 rfl).riv.below hW) ((K2.front 2 rfl).riv.below hW) ((K2.front 1 rfl).riv.below hW) hs)
  unfold MORet MSRet at KA KB
  obtain ⟨M, hM⟩ : ∃ v, moM t x y sh = v := ⟨_, rfl⟩
  obtain ⟨N, hN⟩ : ∃ v, moN t x y sh = v := ⟨_, rfl⟩
  obtain ⟨C, hC⟩ : ∃ v, moC t x y sh = v := ⟨_, rfl⟩
  simp only [hM, hN, hC] at KA KB HQ
  clear hM hN hC hs
  refine KA.out.mono ?_; rintro e w3 ⟨E1, f1, E2, f2, E3, f3, rfl, hK3⟩
  have hb3 := hK3.below
  have K3 := K2.join hK3
  clear KA hK3
  obtain ⟨g2, hg2⟩ : ∃ g, w3.heap.size = g := ⟨_, rfl⟩
  go_upto_region 5 with fail
  have hb4 : Below w2.heap.size w2 (w3.alloc (.cells #[.int .i64 M.a.base, .slice E1 M.a.digits.length f1, .int .i64 M.b.base, .slice E2 M.b.digits.length f2, .int .i64 M.s.base, .slice E3 M.s.digits.length f3, .int .i64 M.carry] 28)) := hb3.alloc hb3.size _
  have K4 := K3.al [.int .i64 M.a.base, .slice E1 M.a.digits.length f1, .int .i64 M.b.base, .slice E2 M.b.digits.length f2, .int .i64 M.s.base, .slice E3 M.s.digits.length f3, .int .i64 M.carry] 28
  rw [hg2] at K4
  try rw [hg2]
  generalize w3.alloc (.cells #[.int .i64 M.a.base, .slice E1 M.a.digits.length f1, .int .i64 M.b.base, .slice E2 M.b.digits.length f2, .int .i64 M.s.base, .slice E3 M.s.digits.length f3, .int .i64 M.carry] 28) = w4 at hb4 K4 ⊢
  clear hg2 K3
  obtain ⟨a1, a2, a3, -⟩ := (K4.front 4 rfl).cells
  go_wp2_with fail
  refine (KB.out _ hb4).mono ?_
  rintro e w5 ⟨G1, h1, G2, h2, G3, h3, rfl, hK5⟩
  have K5 := K4.join hK5
  clear a1 a2 a3
  clear KB hK5 K4 hb3 hb4 K2
  obtain ⟨g3, hg3⟩ : ∃ g, w5.heap.size = g := ⟨_, rfl⟩
  go_wp2_with fail
  refine Calls.kn (K5.al [.int .i64 M.a.base, .slice G1 M.a.digits.length h1, .int .i64 M.b.base, .slice G2 M.b.digits.length h2, .int .i64 M.s.base, .slice G3 M.s.digits.length h3, .int .i64 M.carry] 28) ?_; intro w6 K6
  rw [hg3] at K6
  try rw [hg3]
  have K6' := K6.sel [4, 5, 6, 7, 0, 1, 2, 3] 99 (by decide) (by decide)
  clear K5 hg3 K6
  refine (KP.out _ K6'.below).mono ?_; rintro e w7 ⟨p1, p2, ps, rfl, hw⟩
  have K7 := K6'.keep hw
  clear KP hw K6'
  have KA := Lib.hid (fun W => (MultiplyProgram_any p1 p2 ps W).mono (fun e w' h => mp_any h))
  have KB := Lib.hid (fun W => (specMultiplyProgram_any p1 p2 ps W).mono (fun e w' h => mp_any h))
  have HP := Lib.hid (fun h : trnC p1 p2 = 0 => mpL_ok (sh := ps) h)
  have HPL := Lib.hid (mpL_len p1 p2 ps)
  obtain ⟨pl, hpl⟩ : ∃ v, mpL p1 p2 ps = v := ⟨_, rfl⟩
  obtain ⟨pc, hpc⟩ : ∃ v, trnC p1 p2 = v := ⟨_, rfl⟩
  simp only [hpl, hpc] at KA KB HP HPL
  clear hpl hpc
  go_wp2_with fail
  refine (KA.out _).mono ?_; rintro e w8 ⟨LA, lc, rfl, hK8⟩
  have K8 := K7.join hK8
  clear KA hK8 K7
  go_wp2_with fail
  refine (KB.out _).mono ?_; rintro e w9 ⟨RA, rc, rfl, hK9⟩
  have K9 := (K8.join hK9).sel [2, 3, 4, 5, 6, 7, 8, 9, 0, 1] 99 (by decide) (by decide)
  clear KB hK9 K8
  go_wp2_with fail
  refine (KC.out _ K9.below).mono ?_; rintro e w10 ⟨q1, q2, rfl, hw⟩
  have K10 := K9.keep hw
  clear KC hw K9
  have KA := Lib.hid (fun W => CompareMethods_any q1 q2 W)
  have KB := Lib.hid (fun W => specCompareMethods_any q1 q2 W)
  have HC := Lib.hid (fun h : trnC q1 q2 = 0 => cm_less h)
  unfold CMRet at KA KB
  obtain ⟨v1, hv1⟩ : ∃ v, cmV false q1 q2 = v := ⟨_, rfl⟩
  obtain ⟨v2, hv2⟩ : ∃ v, cmV true q1 q2 = v := ⟨_, rfl⟩
  obtain ⟨qc, hqc⟩ : ∃ v, trnC q1 q2 = v := ⟨_, rfl⟩
  simp only [hv1, hv2, hqc] at KA KB HC
  clear hv1 hv2 hqc
  go_wp2_with fail
  refine (KA.out _).mono ?_; rintro e w11 ⟨rfl, hw⟩
  have K11 := K10.keep hw
  clear KA hw K10
  go_wp2_with fail
  refine (KB.out _).mono ?_; rintro e w12 ⟨rfl, hw⟩
  have K12 := K11.keep hw
  clear KB hw K11
  obtain ⟨a1, a2, a3, -⟩ := (K12.front 0 rfl).cells
  obtain ⟨x1, x2, x3, -⟩ := (K12.front 4 rfl).cells
  go_wp2_with fail
  have hsm : SmallTri M := ⟨Kn.rowSmall (K12.front 3 rfl), Kn.rowSmall (K12.front 2 rfl), Kn.rowSmall (K12.front 1 rfl)⟩
  have hsame := specSameMachine_any M M E1 E2 E3 G1 G2 G3 f1 f2 f3 h1 h2 h3 w12 (K12.front 3 rfl).riv (K12.front 2 rfl).riv (K12.front 1 rfl).riv (K12.front 7 rfl).riv (K12.front 6 rfl).riv (K12.front 5 rfl).riv hsm hsm
  rw [sameM_refl] at hsame
  refine hsame.mono ?_; rintro e w13 ⟨rfl, hw⟩
  have K13 := (K12.keep hw).sel [0, 1, 2, 3, 8, 9] 99 (by decide) (by decide)
  clear K12 hw hsame a1 a2 a3 x1 x2 x3
  go_wp2_with fail
  have i1 := (Kn.rlIns (K13.front 5 rfl)).2
  have i2 := (Kn.rlIns (K13.front 4 rfl)).2
  refine (f6instrs_same LA RA pl.length lc rc pl w13 i1 i2 (by have := HPL.out; omega)).mono ?_; rintro e w14 ⟨rfl, hw⟩
  have K14 := K13.keep hw
  clear K13 hw i1 i2
  go_upto_region 14 with fail
  have i1 := (Kn.rlIns (K14.front 5 rfl)).2
  have V1 := Lib.hid (fun (h : pc = 0) (W : World) (hW : Below w14.heap.size w14 W) => calls_val (ValidProgram_any LA pl.length lc pl W (i1.below steady_InsM hW) (by have := HPL.out; omega)) (congrArg Value.bool (HP.out h)))
  clear i1 HP HPL
  by_cases hq : qc = 0
  · have hq2 := HC.out hq
    have hq3 : ¬ v2 > v1 := by omega
    clear HC hq2
    subst hq
    by_cases hp : pc = 0
    · have U1 := Lib.hid (V1.out hp)
      clear V1
      subst hp
      go_wp2_with fail
      refine (U1.out _ (Below.refl _ _)).mono ?_; rintro e w30 ⟨rfl, hw⟩
      have K30 := K14.keep hw
      clear U1 hw
      by_cases hc : C = 0
      · obtain ⟨q1, q2, q3, q4⟩ := HQ.out hc
        obtain ⟨z, hz⟩ : ∃ z, x * y = z := ⟨_, rfl⟩
        rw [hz] at q2 q3 q4
        have e1 : IntKind.i64.wrap (x * y) = z := by rw [hz]; exact wrapI64 (by omega)
        have hbv := (vmach_all q1).2.1
        subst hc
        obtain ⟨a1, a2, a3, -⟩ := (K30.front 0 rfl).cells
        have KVO := Lib.hid (ValueOf_ok M.b.base E2 M.b.digits.length f2 M.b.digits _ (K30.front 2 rfl).riv hbv)
        rw [q2] at KVO
        clear HQ hz
        go_wp2_with fail
        refine KVO.out.mono ?_; rintro e w31 ⟨rfl, hw⟩
        have K31 := K30.keep hw
        clear a1 a2 a3 KVO hw
        obtain ⟨a1, a2, a3, -⟩ := (K31.front 0 rfl).cells
        have KVM := Lib.hid (ValidMachine_any M E1 E2 E3 f1 f2 f3 _ (K31.front 3 rfl).riv (K31.front 2 rfl).riv (K31.front 1 rfl).riv hsm)
        rw [q1] at KVM
        go_wp2_with fail
        refine KVM.out.mono ?_; rintro e w32 ⟨rfl, hw⟩
        have K32 := K31.keep hw
        clear a1 a2 a3 KVM hw K31
        go_wp2_with fail
        go_ret
        exact ⟨rfl, K32.below⟩
      · have hc1 : (C == 0) = false := by simpa using hc
        have hc2 : (C != 0) = true := by simpa using hc
        clear HQ
        go_wp2_with fail
        go_ret
        exact ⟨rfl, K30.below⟩
    · have hp1 : (pc == 0) = false := by simpa using hp
      clear V1
      by_cases hc : C = 0
      · obtain ⟨q1, q2, q3, q4⟩ := HQ.out hc
        obtain ⟨z, hz⟩ : ∃ z, x * y = z := ⟨_, rfl⟩
        rw [hz] at q2 q3 q4
        have e1 : IntKind.i64.wrap (x * y) = z := by rw [hz]; exact wrapI64 (by omega)
        have hbv := (vmach_all q1).2.1
        subst hc
        obtain ⟨a1, a2, a3, -⟩ := (K14.front 0 rfl).cells
        have KVO := Lib.hid (ValueOf_ok M.b.base E2 M.b.digits.length f2 M.b.digits _ (K14.front 2 rfl).riv hbv)
        rw [q2] at KVO
        clear HQ hz
        go_wp2_with fail
        refine KVO.out.mono ?_; rintro e w31 ⟨rfl, hw⟩
        have K31 := K14.keep hw
        clear a1 a2 a3 KVO hw
        obtain ⟨a1, a2, a3, -⟩ := (K31.front 0 rfl).cells
        have KVM := Lib.hid (ValidMachine_any M E1 E2 E3 f1 f2 f3 _ (K31.front 3 rfl).riv (K31.front 2 rfl).riv (K31.front 1 rfl).riv hsm)
        rw [q1] at KVM
        go_wp2_with fail
        refine KVM.out.mono ?_; rintro e w32 ⟨rfl, hw⟩
        have K32 := K31.keep hw
        clear a1 a2 a3 KVM hw K31
        go_wp2_with fail
        go_ret
        exact ⟨rfl, K32.below⟩
      · have hc1 : (C == 0) = false := by simpa using hc
        have hc2 : (C != 0) = true := by simpa using hc
        clear HQ
        go_wp2_with fail
        go_ret
        exact ⟨rfl, K14.below⟩
  · have hq1 : (qc == 0) = false := by simpa using hq
    clear HC
    by_cases hp : pc = 0
    · have U1 := Lib.hid (V1.out hp)
      clear V1
      subst hp
      go_wp2_with fail
      refine (U1.out _ (Below.refl _ _)).mono ?_; rintro e w30 ⟨rfl, hw⟩
      have K30 := K14.keep hw
      clear U1 hw
      by_cases hc : C = 0
      · obtain ⟨q1, q2, q3, q4⟩ := HQ.out hc
        obtain ⟨z, hz⟩ : ∃ z, x * y = z := ⟨_, rfl⟩
        rw [hz] at q2 q3 q4
        have e1 : IntKind.i64.wrap (x * y) = z := by rw [hz]; exact wrapI64 (by omega)
        have hbv := (vmach_all q1).2.1
        subst hc
        obtain ⟨a1, a2, a3, -⟩ := (K30.front 0 rfl).cells
        have KVO := Lib.hid (ValueOf_ok M.b.base E2 M.b.digits.length f2 M.b.digits _ (K30.front 2 rfl).riv hbv)
        rw [q2] at KVO
        clear HQ hz
        go_wp2_with fail
        refine KVO.out.mono ?_; rintro e w31 ⟨rfl, hw⟩
        have K31 := K30.keep hw
        clear a1 a2 a3 KVO hw
        obtain ⟨a1, a2, a3, -⟩ := (K31.front 0 rfl).cells
        have KVM := Lib.hid (ValidMachine_any M E1 E2 E3 f1 f2 f3 _ (K31.front 3 rfl).riv (K31.front 2 rfl).riv (K31.front 1 rfl).riv hsm)
        rw [q1] at KVM
        go_wp2_with fail
        refine KVM.out.mono ?_; rintro e w32 ⟨rfl, hw⟩
        have K32 := K31.keep hw
        clear a1 a2 a3 KVM hw K31
        go_wp2_with fail
        go_ret
        exact ⟨rfl, K32.below⟩
      · have hc1 : (C == 0) = false := by simpa using hc
        have hc2 : (C != 0) = true := by simpa using hc
        clear HQ
        go_wp2_with fail
        go_ret
        exact ⟨rfl, K30.below⟩
    · have hp1 : (pc == 0) = false := by simpa using hp
      clear V1
      by_cases hc : C = 0
      · obtain ⟨q1, q2, q3, q4⟩ := HQ.out hc
        obtain ⟨z, hz⟩ : ∃ z, x * y = z := ⟨_, rfl⟩
        rw [hz] at q2 q3 q4
        have e1 : IntKind.i64.wrap (x * y) = z := by rw [hz]; exact wrapI64 (by omega)
        have hbv := (vmach_all q1).2.1
        subst hc
        obtain ⟨a1, a2, a3, -⟩ := (K14.front 0 rfl).cells
        have KVO := Lib.hid (ValueOf_ok M.b.base E2 M.b.digits.length f2 M.b.digits _ (K14.front 2 rfl).riv hbv)
        rw [q2] at KVO
        clear HQ hz
        go_wp2_with fail
        refine KVO.out.mono ?_; rintro e w31 ⟨rfl, hw⟩
        have K31 := K14.keep hw
        clear a1 a2 a3 KVO hw
        obtain ⟨a1, a2, a3, -⟩ := (K31.front 0 rfl).cells
        have KVM := Lib.hid (ValidMachine_any M E1 E2 E3 f1 f2 f3 _ (K31.front 3 rfl).riv (K31.front 2 rfl).riv (K31.front 1 rfl).riv hsm)
        rw [q1] at KVM
        go_wp2_with fail
        refine KVM.out.mono ?_; rintro e w32 ⟨rfl, hw⟩
        have K32 := K31.keep hw
        clear a1 a2 a3 KVM hw K31
        go_wp2_with fail
        go_ret
        exact ⟨rfl, K32.below⟩
      · have hc1 : (C == 0) = false := by simpa using hc
        have hc2 : (C != 0) = true := by simpa using hc
        clear HQ
        go_wp2_with fail
        go_ret
        exact ⟨rfl, K14.below⟩
end Go.Proofs.YtkfbfainhmkkdaaGreat

namespace Go.Proofs.YtkfbfainhmkkdaaGreat
open Go.RowKit Go.ChangeShapes Go.WideShapes Go.ChangeAt
section
variable {H : Type} {enc : TypeId × Value → H} {w : World} {base : Nat} {spare : Nat → Bool} {held : Bool} {fuel : Nat} {cs : List Value} {x : DataW H × List MemPlace}
theorem cellsU8 : Tryz.prog.cellsOf 5 = 1 := by kernel_rfl
theorem byteV_of (z : Int) (h0 : 0 ≤ z) (h1 : z ≤ 255) : Value.int .u8 z = byteV (UInt8.ofNat z.toNat) := by
  unfold byteV
  congr 1
  rw [UInt8.toNat_ofNat']
  omega
theorem rd_bytes (h : DataW.trod enc Tryz.prog w base spare held fuel 22 cs = some x) : ∃ A n c bs, cs = [.slice A n c] ∧ RB w A n bs ∧ n ≤ 9223372036854775807 := by
  rcases open_ints Tryz.underlying22 Tryz.underlying5 cellsU8 h with ⟨rfl, _⟩ | ⟨a, len, cap, zs, rfl, _, hl, hm, hz, _, hcell, hwf⟩
  · exact ⟨none, 0, 0, [], rfl, ⟨rfl, fun h => absurd h (by omega)⟩, by omega⟩
  · have hlen : len ≤ zs.length := by rw [hz]; split <;> omega
    have hw : ∀ z ∈ zs, 0 ≤ z ∧ z ≤ 255 := fun z hz => by
      have h := hwf z hz
      have h1 : IntKind.u8.min = 0 := by decide
      have h2 : IntKind.u8.max = 255 := by decide
      simp [Lit.wf] at h
      omega
    refine ⟨some a, len, cap, (zs.take len).map (fun z => UInt8.ofNat z.toNat), rfl, ⟨by simp; omega, fun h0 => ⟨a, rfl, ?_, fun j u hu => ?_⟩⟩, by simp only [maxLen] at hm; omega⟩
    · have := World.block_lt_of_cell? w _ (hcell 0 (by omega)); rwa [block_of_add] at this
    · rw [List.getElem?_map, List.getElem?_take] at hu
      split at hu
      · have hj : j < zs.length := by omega
        rw [List.getElem?_eq_getElem hj] at hu
        have hu' : UInt8.ofNat zs[j].toNat = u := by simpa using hu
        obtain ⟨z0, z1⟩ := hw zs[j] (List.getElem_mem _)
        rw [hcell j hj, ← hu', ← byteV_of _ z0 z1]
        simp [List.getD, List.getElem?_eq_getElem hj]
      · simp at hu
end
end Go.Proofs.YtkfbfainhmkkdaaGreat

namespace Go.Proofs.YtkfbfainhmkkdaaGreat.fnProducts
open Go.ChangeShapes Go.WideShapes Go.ChangeAt Go.RowKit
theorem own : ownKnob Tryz.prog.godebug = none := by kernel_rfl
theorem laidOut : laidOutB Tryz.prog = true := by kernel_rfl
set_option maxRecDepth 100000 in
theorem contract (H : Type) (enc : TypeId × Value → H) (W : World) (base : Nat) (args : Array Value) (ds gs : List (DataW H)) (before : List MemPlace)
    (hval : ∀ (j : Nat) t v, Tryz.f3.params[j]? = some t → args[j]? = some v → Value.okWide Tryz.prog W .any base t v)
    (hW : DataW.Whole enc Tryz.prog Tryz.f3.params.toList Rows.fnProductsSpec.vars false W args.toList ds gs before) :
    Calls Tryz.prog 3 args W fun e W' => ∃ v, e = .returned v ∧ Rows.fnProductsSpec.post enc Tryz.prog Tryz.f3 false true false false W args v W' := by
  have hW' := hW
  obtain ⟨p, q, hA0, hV, rfl, hfz, hnd⟩ := hW
  have hA : DataW.TrodAll enc Tryz.prog W 0 (fun _ => true) true Tryz.f3.params.toList args.toList ds p := hA0
  rw [Tryz.params3] at hA hval
  obtain ⟨v0, vs0, d0, ds0, p0, q0, hargs, rfl, rfl, h0, r0⟩ := trodAll_cons hA
  obtain ⟨rfl, rfl, rfl⟩ := trodAll_nil r0
  obtain rfl : args = #[v0] := by cases args; simp_all
  obtain ⟨rfl, rfl⟩ := trodVars_none hV
  clear hA0
  simp only [List.append_nil] at hW'
  have hlt : ∀ x ∈ p0, x.block < W.heap.size := fun x hx => by
    have := hW'.lt x (by simpa using hx)
    simpa using this
  obtain ⟨Y0A, Y0n, Y0c, rfl⟩ := okWide_slice Tryz.underlying22 (hval 0 _ _ rfl rfl)
  have t0 := h0
  obtain ⟨fuel0, hf0⟩ := h0
  obtain ⟨QA0, Qn0, Qc0, Y0xs, hcs0, hr0, hn0⟩ := rd_bytes hf0
  obtain ⟨rfl, rfl, rfl⟩ : QA0 = Y0A ∧ Qn0 = Y0n ∧ Qc0 = Y0c := by
    have : [Value.slice Y0A Y0n Y0c] = [.slice QA0 Qn0 Qc0] := hcs0
    injection this with this
    injection this with e1 e2 e3
    exact ⟨e1.symm, e2.symm, e3.symm⟩
  have walk : Calls Tryz.prog 3 #[.slice QA0 Qn0 Qc0] W fun e w' => e = .returned (.bool true) ∧ Below W.heap.size W w' :=
    law_Products QA0 Qn0 Qc0 Y0xs W hr0 hn0 
  refine walk.mono fun e W' ⟨he, hb⟩ => ?_
  subst he
  have u0 := Below.trod laidOut (by kernel_rfl) (of_decide_eq_true (by kernel_rfl)) t0 hb hlt
  exact ⟨_, rfl, [d0], [], p0 ++ [], [], p0 ++ [], [], by simpa using hW', trodAll_cons_mk (shut_bool Tryz.underlying4 _) trodAll_mk0, (trodAll_cons_mk u0 trodAll_mk0), rfl, hb.frame _, fun h => by cases h⟩
theorem reads (os : Os) {H : Type} (enc : TypeId × Value → H) : ∃ places, DataW.whole enc Tryz.prog ((World.holding Tryz.prog os ⟨#[], #[], []⟩).forCall (fun _ _ => 0) ⟨#[], #[.slice none 0 0], []⟩).memory Tryz.f3.params.toList Rows.fnProductsSpec.vars false (#[.slice none 0 0] : Array Value).toList 8 = some ([.nil], [], places) :=
  ⟨[], by kernel_rfl⟩
set_option maxRecDepth 100000 in
theorem lifted (os : Os) (started : os.Started) (H : Type) (enc : TypeId × Value → H) (F : Stop.Interp) :
    ReturnsInHanded {} Tryz.checked os 3 .any ((OpenSpec.ofChange Rows.fnProductsSpec).preRow enc Tryz.prog Tryz.f3 Rows.fnProductsRow.domain false Rows.fnProductsRow.laid) (((OpenSpec.ofChange Rows.fnProductsSpec).at F).post enc Tryz.prog Tryz.f3 false true false false) := by
  obtain ⟨places, hx⟩ := reads os enc
  refine returnsInHanded_of_row (C := Tryz.checked) (s := OpenSpec.ofChange Rows.fnProductsSpec) own started (by kernel_rfl) Tryz.func3
    (witness_row_at (enc := enc) (C := Tryz.checked) false (World.holding Tryz.prog os ⟨#[], #[], []⟩) #[.slice none 0 0] rfl (by kernel_rfl) (by kernel_rfl) (by kernel_rfl)
      (OpenSpec.preRow_of_cond 8 hx (by kernel_rfl) (fun k hk => by cases hk) (by kernel_rfl) (laidMet_of_run' 8 (by kernel_rfl) (by kernel_rfl)))) ?_
  intro W base args ds gs before hval hW _ _ _ _ _ _
  exact contract H enc W base args ds gs before hval hW
theorem said : Rows.FnProductsSaid :=
  OpenClaim.holds_of_cond 3 Tryz.f3 rfl rfl rfl rfl rfl rfl rfl ⟨rfl, rfl, rfl, rfl, rfl⟩ rfl rfl rfl rfl rfl (by kernel_rfl) Tryz.func3 (by kernel_rfl)
    (of_decide_eq_true (by kernel_rfl)) (by unfold Func.isWrapper; first | (rw [if_pos (by decide +kernel)]; kernel_rfl) | (rw [if_neg (by decide +kernel)]; exact ⟨rfl, rfl⟩))
    (fun os started H enc _ F => by rw [OpenClaim.pre_eq_preRow]; exact lifted os started H enc F)
end Go.Proofs.YtkfbfainhmkkdaaGreat.fnProducts
