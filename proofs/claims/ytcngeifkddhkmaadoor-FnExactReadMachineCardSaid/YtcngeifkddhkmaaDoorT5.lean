import Derived.Test.YtcngeifkddhkmaaDoorT4
import Derived.Test.YtcngeifkddhkmaaDoorM6
namespace Go.Proofs.YtcngeifkddhkmaaDoor
open Go.RowKit Go.Sort
theorem digs_zero : digs 0 = [] := by simp [digs]
theorem digs_facts : ∀ u : Nat, (digs u).all isD = true ∧ foldD (digs u) = u ∧ (∀ k, u < 10 ^ k → (digs u).length ≤ k) ∧ (u ≠ 0 → 1 ≤ (digs u).length) := by
  intro u
  induction u using Nat.strongRecOn with
  | _ u ih =>
    by_cases h : u = 0
    · subst h; rw [digs_zero]; exact ⟨rfl, rfl, fun _ _ => by simp, fun h => absurd rfl h⟩
    · obtain ⟨h1, h2, h3, -⟩ := ih (u / 10) (by omega)
      have hb : (UInt8.ofNat (48 + u % 10)).toNat = 48 + u % 10 := by rw [UInt8.toNat_ofNat']; omega
      rw [digs_step u h]
      refine ⟨?_, ?_, fun k hk => ?_, fun _ => by simp⟩
      · rw [List.all_append, h1]
        simp only [List.all_cons, List.all_nil, Bool.and_true, Bool.true_and]
        unfold isD; rw [hb]; exact decide_eq_true (by omega)
      · rw [foldD_snoc, h2, hb]; omega
      · cases k with
        | zero => simp at hk; omega
        | succ k =>
          have := h3 k (by rw [Nat.pow_succ] at hk; omega)
          simp; omega
theorem signOff_digs {l : List UInt8} (h : l.all isD = true) : signOff l = l := by
  cases l with
  | nil => rfl
  | cons b t =>
    rw [List.all_cons, Bool.and_eq_true] at h
    have h1 := of_decide_eq_true (show decide (48 ≤ b.toNat ∧ b.toNat ≤ 57) = true from h.1)
    simp only [signOff]; rw [if_neg (by omega)]
/-- a number is read back from its decimal form -/
theorem rdDec_dec (n : Int) (h : n.natAbs < 1000000000000000000) : rdDec (dec n) = some n := by
  obtain ⟨d1, d2, d3, d4⟩ := digs_facts n.natAbs
  have hlen := d3 18 h
  by_cases h0 : n = 0
  · subst h0
    have e : dec 0 = [48] := by rw [dec_of]; rfl
    have : numOf [48] = 0 := by decide
    unfold rdDec
    rw [e, this, e]; rfl
  · have d5 := d4 (by omega)
    by_cases hn : n < 0
    · have e : dec n = 45 :: digs n.natAbs := by rw [dec_of, if_neg h0, if_pos hn]
      have hs : signOff (dec n) = digs n.natAbs := by rw [e]; rfl
      have hv : numOf (dec n) = n := by
        unfold numOf; rw [hs, d2, if_pos (by rw [e]; simp)]; omega
      unfold rdDec
      rw [hv, hs, d1]; simp; omega
    · have e : dec n = digs n.natAbs := by rw [dec_of, if_neg h0, if_neg hn]
      have hs : signOff (dec n) = digs n.natAbs := by rw [e]; exact signOff_digs d1
      have hv : numOf (dec n) = n := by
        unfold numOf; rw [hs, d2, if_neg (by rw [e]; omega)]; omega
      unfold rdDec
      rw [hv, hs, d1]; simp; omega
theorem rdDec_sound {bs : List UInt8} {n : Int} (h : rdDec bs = some n) : dec n = bs := by
  unfold rdDec at h
  split at h
  · rename_i h1
    injection h with h
    simp only [Bool.and_eq_true, decide_eq_true_eq] at h1
    rw [← h]; exact h1.2
  · cases h
theorem dec_bytes (n : Int) : ∀ c ∈ dec n, c.toNat = 45 ∨ (48 ≤ c.toNat ∧ c.toNat ≤ 57) := by
  intro c hc
  rw [dec_of] at hc
  have hd : ∀ c ∈ digs n.natAbs, 48 ≤ c.toNat ∧ c.toNat ≤ 57 := fun c hc => of_decide_eq_true (List.all_eq_true.1 (digs_facts n.natAbs).1 c hc)
  split at hc
  · rw [List.mem_singleton.1 hc]; right; decide
  · split at hc
    · rcases List.mem_cons.1 hc with rfl | hc
      · left; rfl
      · right; exact hd c hc
    · right; exact hd c hc
theorem dec_ne (n : Int) : dec n ≠ [] := by
  rw [dec_of]
  split
  · simp
  · split
    · simp
    · intro h
      have := (digs_facts n.natAbs).2.2.2 (by omega)
      rw [h] at this; simp at this
theorem not_mem_dec {k : UInt8} (n : Int) (h : k.toNat ≠ 45) (h2 : k.toNat < 48 ∨ 57 < k.toNat) : k ∉ dec n := fun hm => by
  rcases dec_bytes n k hm with h3 | h3
  · exact h h3
  · omega
theorem dch_nat (d : Int) (h0 : 0 ≤ d) (h1 : d < 16) : (dch d).toNat = if d < 10 then 48 + d.toNat else 87 + d.toNat := by
  unfold dch; split <;> (rw [UInt8.toNat_ofNat']; omega)
theorem digV_dch (d : Int) (h0 : 0 ≤ d) (h1 : d < 16) : digV (dch d) = d := by
  unfold digV
  rw [dch_nat d h0 h1]
  by_cases h : d < 10
  · rw [if_pos h, if_pos (by omega)]; omega
  · rw [if_neg h, if_neg (by omega), if_pos (by omega)]; omega
theorem dch_digV (c : UInt8) (h : 0 ≤ digV c) : dch (digV c) = c := by
  have hlt := c.toNat_lt
  apply UInt8.toNat_inj.1
  unfold digV at h ⊢
  by_cases h1 : 48 ≤ c.toNat ∧ c.toNat ≤ 57
  · rw [if_pos h1, dch_nat _ (by omega) (by omega), if_pos (by omega)]; omega
  · rw [if_neg h1] at h ⊢
    by_cases h2 : 97 ≤ c.toNat ∧ c.toNat ≤ 102
    · rw [if_pos h2, dch_nat _ (by omega) (by omega), if_neg (by omega)]; omega
    · rw [if_neg h2] at h; omega
theorem rdR_text {b : Int} {ds : List Int} (h : vreg b ds = true) : rdR (rtextL b ds) = some ⟨b, ds⟩ := by
  obtain ⟨⟨b1, b2⟩, -, hd, -⟩ := vreg_iff.1 h
  unfold rdR rtextL
  rw [List.append_assoc, List.singleton_append, cutB_of 58 _ _ (not_mem_dec b (by decide) (by right; decide))]
  simp only [Option.bind_some]
  rw [rdDec_dec b (by omega)]
  simp only [Option.bind_some]
  have e : ((ds.reverse.map dch).reverse.map digV) = ds := by
    rw [← List.map_reverse, List.reverse_reverse, List.map_map]
    conv => rhs; rw [← List.map_id ds]
    refine List.map_congr_left fun d hm => ?_
    have := hd d hm
    exact digV_dch d this.1 (by omega)
  rw [e, h]; rfl
theorem rdR_sound {w : List UInt8} {r : Reg} (h : rdR w = some r) : r.ok = true ∧ rtextL r.base r.digits = w := by
  unfold rdR at h
  obtain ⟨⟨x, y⟩, h1, h2⟩ := Option.bind_eq_some_iff.1 h
  obtain ⟨n, h3, h4⟩ := Option.bind_eq_some_iff.1 h2
  split at h4
  · rename_i hv
    injection h4 with h4
    rw [← h4]
    refine ⟨hv, ?_⟩
    obtain ⟨h5, -⟩ := cutB_mem 58 w x y h1
    unfold rtextL
    simp only []
    rw [rdDec_sound h3, h5, List.append_assoc, List.singleton_append]
    congr 2
    rw [← List.map_reverse, List.reverse_reverse, List.map_map]
    conv => rhs; rw [← List.map_id y]
    refine List.map_congr_left fun c hc => ?_
    exact dch_digV c ((vreg_iff.1 hv).2.2.1 _ (List.mem_map.2 ⟨c, by simpa using hc, rfl⟩)).1
  · cases h4
theorem no32 {b : Int} {ds : List Int} (h : vreg b ds = true) : (32 : UInt8) ∉ rtextL b ds := by
  obtain ⟨⟨b1, b2⟩, -, hd, -⟩ := vreg_iff.1 h
  unfold rtextL
  intro hm
  rcases List.mem_append.1 hm with hm | hm
  · rcases List.mem_append.1 hm with hm | hm
    · exact not_mem_dec b (by decide) (by left; decide) hm
    · simp at hm
  · obtain ⟨d, hd1, hd2⟩ := List.mem_map.1 hm
    have h1 := hd d (by simpa using hd1)
    have h2 := dch_nat d h1.1 (by omega)
    rw [hd2] at h2
    have h3 : (32 : UInt8).toNat = 32 := rfl
    rw [h3] at h2
    split at h2 <;> omega
theorem rtextL_ne (b : Int) (ds : List Int) : rtextL b ds ≠ [] := by unfold rtextL; simp
theorem split_cases (k : UInt8) (bs : List UInt8) : (splitB k.toNat bs = [bs] ∧ k ∉ bs) ∨ ∃ x y, bs = x ++ k :: y ∧ k ∉ x ∧ splitB k.toNat bs = x :: splitB k.toNat y := by
  cases h : cutB [k] bs with
  | none => exact .inl ⟨splitB_none k bs (cutB_none k bs h), cutB_none k bs h⟩
  | some q =>
    obtain ⟨x, y⟩ := q
    obtain ⟨h1, h2⟩ := cutB_mem k bs x y h
    exact .inr ⟨x, y, h1, h2, by rw [h1, splitB_at k y x h2]⟩
theorem split_join {bs x : List UInt8} {t : List (List UInt8)} (h : splitB 32 bs = x :: t) : (t = [] ∧ bs = x) ∨ ∃ y, bs = x ++ 32 :: y ∧ splitB 32 y = t := by
  have e32 : (32 : UInt8).toNat = 32 := rfl
  rcases split_cases 32 bs with ⟨h1, -⟩ | ⟨a, y, h1, -, h3⟩
  · rw [e32, h] at h1; injection h1 with h1 h2; exact .inl ⟨h2, h1.symm⟩
  · rw [e32, h] at h3; injection h3 with h3 h4; exact .inr ⟨y, by rw [h3]; exact h1, h4.symm⟩
theorem strB_cat (a b : ByteArray) : strB (a ++ b) = strB a ++ strB b := by simp [strB]
theorem strB_mtextL {t : Tri} (h : vmach t = true) : strB (mtextL t) = rtextL t.a.base t.a.digits ++ 32 :: (rtextL t.b.base t.b.digits ++ 32 :: (rtextL t.s.base t.s.digits ++ 32 :: dec t.carry)) := by
  obtain ⟨h1, h2, h3, -⟩ := vmach_parts h
  unfold mtextL
  simp only [strB_cat, strB_mk]
  unfold rtext
  rw [if_pos h1, if_pos h2, if_pos h3]
  simp
/-- the machine of a text -/
def rdM (bs : List UInt8) : Option Tri := match wordsB bs with
  | [w0, w1, w2, w3] => if ((rdR w0).isSome && (rdR w1).isSome && (rdR w2).isSome && (rdDec w3).isSome) && decide (strB (mtext ⟨rdReg w0, rdReg w1, rdReg w2, rdN w3⟩) = bs) then some ⟨rdReg w0, rdReg w1, rdReg w2, rdN w3⟩ else none
  | _ => none
theorem isSome_R {w : List UInt8} (h : (rdR w).isSome = true) : (rdReg w).ok = true ∧ rtextL (rdReg w).base (rdReg w).digits = w := by
  obtain ⟨r, hr⟩ := Option.isSome_iff_exists.1 h
  rw [(rdr_some hr).1]; exact rdR_sound hr
theorem isSome_N {w : List UInt8} (h : (rdDec w).isSome = true) : dec (rdN w) = w := by
  obtain ⟨r, hr⟩ := Option.isSome_iff_exists.1 h
  rw [(rd_some hr).1]; exact rdDec_sound hr
theorem rdM_text {t : Tri} (h : vmach t = true) : rdM (strB (mtextL t)) = some t ∧ splitB 32 (strB (mtextL t)) = [rtextL t.a.base t.a.digits, rtextL t.b.base t.b.digits, rtextL t.s.base t.s.digits, dec t.carry] := by
  obtain ⟨h1, h2, h3, h4, h5⟩ := vmach_parts h
  have e32 : (32 : UInt8).toNat = 32 := rfl
  have hsp : splitB 32 (strB (mtextL t)) = [rtextL t.a.base t.a.digits, rtextL t.b.base t.b.digits, rtextL t.s.base t.s.digits, dec t.carry] := by
    rw [strB_mtextL h, ← e32, splitB_at 32 _ _ (no32 h1), splitB_at 32 _ _ (no32 h2), splitB_at 32 _ _ (no32 h3), splitB_none 32 _ (not_mem_dec _ (by decide) (by left; decide))]
  have hw : wordsB (strB (mtextL t)) = [rtextL t.a.base t.a.digits, rtextL t.b.base t.b.digits, rtextL t.s.base t.s.digits, dec t.carry] := by
    unfold wordsB
    rw [hsp, List.filter_eq_self]
    intro x hx
    simp only [List.mem_cons, List.not_mem_nil, or_false] at hx
    rcases hx with rfl | rfl | rfl | rfl
    · simpa using rtextL_ne _ _
    · simpa using rtextL_ne _ _
    · simpa using rtextL_ne _ _
    · simpa using dec_ne _
  have q1 := rdr_some (rdR_text h1)
  have q2 := rdr_some (rdR_text h2)
  have q3 := rdr_some (rdR_text h3)
  have q4 := rd_some (rdDec_dec t.carry (by omega))
  refine ⟨?_, hsp⟩
  unfold rdM
  rw [hw]
  simp only []
  rw [q1.1, q1.2, q2.1, q2.2, q3.1, q3.2, q4.1, q4.2]
  have e : (⟨⟨t.a.base, t.a.digits⟩, ⟨t.b.base, t.b.digits⟩, ⟨t.s.base, t.s.digits⟩, t.carry⟩ : Tri) = t := rfl
  have e2 : mtext t = mtextL t := by unfold mtext; rw [if_pos h]
  rw [e, e2]; simp
theorem rdM_sound {bs : List UInt8} {t : Tri} (h : rdM bs = some t) : vmach t = true ∧ strB (mtextL t) = bs := by
  unfold rdM at h
  split at h
  · rename_i w0 w1 w2 w3 hw
    split at h
    · rename_i hc
      injection h with h
      simp only [Bool.and_eq_true, decide_eq_true_eq] at hc
      obtain ⟨-, hm⟩ := hc
      rw [h] at hm
      rcases hv : vmach t with _ | _
      · unfold mtext at hm; rw [hv] at hm
        have : bs = [] := by rw [← hm]; rfl
        subst this
        simp [wordsB, splitB] at hw
      · unfold mtext at hm; rw [hv] at hm; exact ⟨rfl, hm⟩
    · cases h
  · cases h
theorem rdM_spec (bs : List UInt8) : rdM bs = match splitB 32 bs with
    | [w0, w1, w2, w3] => if ((rdR w0).isSome && (rdR w1).isSome && (rdR w2).isSome && (rdDec w3).isSome) && vmach ⟨rdReg w0, rdReg w1, rdReg w2, rdN w3⟩ then some ⟨rdReg w0, rdReg w1, rdReg w2, rdN w3⟩ else none
    | _ => none := by
  cases h : rdM bs with
  | some t =>
    obtain ⟨hv, hm⟩ := rdM_sound h
    obtain ⟨-, hsp⟩ := rdM_text hv
    rw [hm] at hsp
    rw [hsp]
    simp only []
    obtain ⟨h1, h2, h3, h4, h5⟩ := vmach_parts hv
    have q1 := rdr_some (rdR_text h1)
    have q2 := rdr_some (rdR_text h2)
    have q3 := rdr_some (rdR_text h3)
    have q4 := rd_some (rdDec_dec t.carry (by omega))
    rw [q1.1, q1.2, q2.1, q2.2, q3.1, q3.2, q4.1, q4.2]
    have e : (⟨⟨t.a.base, t.a.digits⟩, ⟨t.b.base, t.b.digits⟩, ⟨t.s.base, t.s.digits⟩, t.carry⟩ : Tri) = t := rfl
    rw [e, hv]; simp
  | none =>
    split
    · rename_i w0 w1 w2 w3 hsp
      split
      · rename_i hc
        exfalso
        simp only [Bool.and_eq_true] at hc
        obtain ⟨⟨⟨⟨c0, c1⟩, c2⟩, c3⟩, hv⟩ := hc
        have t0 := (isSome_R c0).2
        have t1 := (isSome_R c1).2
        have t2 := (isSome_R c2).2
        have t3 := isSome_N c3
        rcases split_join hsp with ⟨h1, -⟩ | ⟨y1, e1, hs1⟩
        · cases h1
        rcases split_join hs1 with ⟨h1, -⟩ | ⟨y2, e2, hs2⟩
        · cases h1
        rcases split_join hs2 with ⟨h1, -⟩ | ⟨y3, e3, hs3⟩
        · cases h1
        rcases split_join hs3 with ⟨-, e4⟩ | ⟨y4, e4, hs4⟩
        · have hm := strB_mtextL hv
          simp only [] at hm
          rw [t0, t1, t2, t3] at hm
          have : strB (mtextL ⟨rdReg w0, rdReg w1, rdReg w2, rdN w3⟩) = bs := by rw [hm, e1, e2, e3, e4]
          have h2 := (rdM_text hv).1
          rw [this, h] at h2; cases h2
        · exact splitB_ne 32 y4 hs4
      · rfl
    · rfl
end Go.Proofs.YtcngeifkddhkmaaDoor
