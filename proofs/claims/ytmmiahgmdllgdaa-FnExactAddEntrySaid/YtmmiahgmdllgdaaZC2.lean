/- Part 2: lemmas and contracts of the claim's functions. -/
import Derived.Test.YtmmiahgmdllgdaaZC1
import Derived.Deep.RegionHeld3
import Derived.ProofKit
import Derived.Carry
import Derived.WalkLawsBesides
import Derived.Lib.QuietBelow
namespace Go.Proofs.Ytmmiahgmdllgdaa
open Go.RowKit Go.Sort
theorem between_B (a b c : Int) (w : World) : Calls Try.prog 74 #[.int .i64 a, .int .i64 b, .int .i64 c] w fun e w' => e = .returned (.bool (betB a b c)) ∧ Below w.heap.size w w' :=
  (between_any a b c w).mono fun _ _ ⟨h, e⟩ => ⟨h, e ▸ Below.refl _ _⟩
def vplaces (t : Tri) : Int := min ((t.b.digits.length : Int) - t.a.digits.length + 1) t.s.digits.length
def fullB (r : Reg) : Bool := decide (pw r.base r.digits.length ≤ 1000000000001)
def vmach (t : Tri) : Bool := (t.a.ok && t.b.ok && t.s.ok) && ((t.a.base == t.b.base) && (t.s.base == t.b.base) && fullB t.b && fullB t.s) && (decide (t.a.digits.length ≤ t.b.digits.length) && betB t.carry 0 (vplaces t - 1))
def TriC (w : World) (p : Addr) (t : Tri) (A1 : Option Addr) (c1 : Nat) (A2 : Option Addr) (c2 : Nat) (A3 : Option Addr) (c3 : Nat) : Prop :=
  (w.cell? ⟨p.block, p.off, none⟩ = some (.int .i64 t.a.base) ∧ w.cell? ⟨p.block, p.off + 1, none⟩ = some (.slice A1 t.a.digits.length c1) ∧ w.cell? ⟨p.block, p.off + 2, none⟩ = some (.int .i64 t.b.base) ∧ w.cell? ⟨p.block, p.off + 3, none⟩ = some (.slice A2 t.b.digits.length c2) ∧
    w.cell? ⟨p.block, p.off + 4, none⟩ = some (.int .i64 t.s.base) ∧ w.cell? ⟨p.block, p.off + 5, none⟩ = some (.slice A3 t.s.digits.length c3) ∧ w.cell? ⟨p.block, p.off + 6, none⟩ = some (.int .i64 t.carry)) ∧
    RI w A1 t.a.digits.length t.a.digits ∧ RI w A2 t.b.digits.length t.b.digits ∧ RI w A3 t.s.digits.length t.s.digits
theorem TriC.below {w w' : World} {p : Addr} {t : Tri} {A1 A2 A3 : Option Addr} {c1 c2 c3 : Nat} (h : TriC w p t A1 c1 A2 c2 A3 c3) (hp : p.block < w.heap.size) (hb : Below w.heap.size w w') : TriC w' p t A1 c1 A2 c2 A3 c3 := by
  obtain ⟨⟨h1, h2, h3, h4, h5, h6, h7⟩, r1, r2, r3⟩ := h
  exact ⟨⟨by rw [hb.cell (by exact hp)]; exact h1, by rw [hb.cell (by exact hp)]; exact h2, by rw [hb.cell (by exact hp)]; exact h3, by rw [hb.cell (by exact hp)]; exact h4, by rw [hb.cell (by exact hp)]; exact h5, by rw [hb.cell (by exact hp)]; exact h6, by rw [hb.cell (by exact hp)]; exact h7⟩, r1.below hb, r2.below hb, r3.below hb⟩
theorem TriC.of_block {w : World} {g : Nat} {T : TypeId} {t : Tri} {A1 A2 A3 : Option Addr} {c1 c2 c3 : Nat}
    (hg : w.heap[g]? = some (.cells #[.int .i64 t.a.base, .slice A1 t.a.digits.length c1, .int .i64 t.b.base, .slice A2 t.b.digits.length c2, .int .i64 t.s.base, .slice A3 t.s.digits.length c3, .int .i64 t.carry] T (0, 0)))
    (r1 : RI w A1 t.a.digits.length t.a.digits) (r2 : RI w A2 t.b.digits.length t.b.digits) (r3 : RI w A3 t.s.digits.length t.s.digits) : TriC w ⟨g, 0, none⟩ t A1 c1 A2 c2 A3 c3 := by
  have hc : ∀ i v, #[Value.int .i64 t.a.base, .slice A1 t.a.digits.length c1, .int .i64 t.b.base, .slice A2 t.b.digits.length c2, .int .i64 t.s.base, .slice A3 t.s.digits.length c3, .int .i64 t.carry][i]? = some v → w.cell? ⟨g, i, none⟩ = some v := fun i v hv => by rw [cell_of_row w g i _ T (0, 0) hg]; exact hv
  exact ⟨⟨hc 0 _ rfl, hc 1 _ rfl, hc 2 _ rfl, hc 3 _ rfl, hc 4 _ rfl, hc 5 _ rfl, hc 6 _ rfl⟩, r1, r2, r3⟩
theorem TriC.tri {w : World} {b o : Nat} {t : Tri} {A1 A2 A3 : Option Addr} {c1 c2 c3 : Nat} (h : TriC w ⟨b, o, none⟩ t A1 c1 A2 c2 A3 c3) : TriM w ⟨b, o, none⟩ t := by
  obtain ⟨⟨h1, h2, h3, h4, h5, h6, h7⟩, r1, r2, r3⟩ := h
  exact ⟨⟨A1, c1, ⟨h1, h2⟩, r1⟩, ⟨A2, c2, ⟨h3, h4⟩, r2⟩, ⟨A3, c3, ⟨h5, h6⟩, r3⟩, h7⟩
theorem ok_bd {r : Reg} (h : r.ok = true) : 2 ≤ r.base ∧ r.base ≤ 16 ∧ r.digits.length ≤ 16 := by
  obtain ⟨⟨h1, h2⟩, ⟨-, h4⟩, -⟩ := vreg_iff.1 h
  exact ⟨h1, h2, by omega⟩
end Go.Proofs.Ytmmiahgmdllgdaa

namespace Go.Proofs.Ytmmiahgmdllgdaa
open Go.RowKit Go.Sort
end Go.Proofs.Ytmmiahgmdllgdaa

namespace Go.Proofs.Ytmmiahgmdllgdaa
open Go.RowKit
end Go.Proofs.Ytmmiahgmdllgdaa

namespace Go.Proofs.Ytmmiahgmdllgdaa
open Go.RowKit Go.Sort
def mtextL (t : Tri) : ByteArray := (((((((⟨(rtext t.a).toArray⟩ : ByteArray) ++ (⟨#[32]⟩ : ByteArray)) ++ (⟨(rtext t.b).toArray⟩ : ByteArray)) ++ (⟨#[32]⟩ : ByteArray)) ++ (⟨(rtext t.s).toArray⟩ : ByteArray)) ++ (⟨#[32]⟩ : ByteArray)) ++ (⟨(dec t.carry).toArray⟩ : ByteArray))
def mtext (t : Tri) : ByteArray := if vmach t then mtextL t else ⟨#[]⟩
theorem vmach_parts {t : Tri} (h : vmach t = true) : t.a.ok = true ∧ t.b.ok = true ∧ t.s.ok = true ∧ 0 ≤ t.carry ∧ t.carry ≤ 16 := by
  simp only [vmach, Bool.and_eq_true] at h
  obtain ⟨⟨⟨⟨h1, h2⟩, h3⟩, -⟩, -, h4⟩ := h
  obtain ⟨h5, h6⟩ := betB_iff.1 h4
  obtain ⟨-, -, p1⟩ := ok_bd h3
  exact ⟨h1, h2, h3, h5, by unfold vplaces at h6; omega⟩
end Go.Proofs.Ytmmiahgmdllgdaa

namespace Go.Proofs.Ytmmiahgmdllgdaa
open Go.RowKit Go.Sort
theorem digs_zero : digs 0 = [] := by simp [digs]
theorem digs_facts : ∀ u : Nat, (digs u).all isD = true ∧ foldD (digs u) = u ∧ (∀ k, u < 10 ^ k → (digs u).length ≤ k) ∧ (u ≠ 0 → 1 ≤ (digs u).length) := by
  intro u
  induction u using Nat.strongRecOn with
  | _ u ih =>
    by_cases h : u = 0
    · subst h; rw [digs_zero]; exact ⟨rfl, rfl, fun _ _ => by simp, fun h => absurd rfl h⟩
    · obtain ⟨h1, h2, h3, -⟩ := ih (u / 10) (by omega)
      have hb : (UInt8.ofNat (48 + u % 10)).toNat = 48 + u % 10 := by rw [UInt8.toNat_ofNat']; omega
      rw [digs_step u h]
      refine ⟨?_, ?_, fun k hk => ?_, fun _ => by simp⟩
      · rw [List.all_append, h1]
        simp only [List.all_cons, List.all_nil, Bool.and_true, Bool.true_and]
        unfold isD; rw [hb]; exact decide_eq_true (by omega)
      · rw [foldD_snoc, h2, hb]; omega
      · cases k with
        | zero => simp at hk; omega
        | succ k =>
          have := h3 k (by rw [Nat.pow_succ] at hk; omega)
          simp; omega
theorem signOff_digs {l : List UInt8} (h : l.all isD = true) : signOff l = l := by
  cases l with
  | nil => rfl
  | cons b t =>
    rw [List.all_cons, Bool.and_eq_true] at h
    have h1 := of_decide_eq_true (show decide (48 ≤ b.toNat ∧ b.toNat ≤ 57) = true from h.1)
    simp only [signOff]; rw [if_neg (by omega)]
/-- a number is read back from its decimal form -/
theorem rdDec_dec (n : Int) (h : n.natAbs < 1000000000000000000) : rdDec (dec n) = some n := by
  obtain ⟨d1, d2, d3, d4⟩ := digs_facts n.natAbs
  have hlen := d3 18 h
  by_cases h0 : n = 0
  · subst h0
    have e : dec 0 = [48] := by rw [dec_of]; rfl
    have : numOf [48] = 0 := by decide
    unfold rdDec
    rw [e, this, e]; rfl
  · have d5 := d4 (by omega)
    by_cases hn : n < 0
    · have e : dec n = 45 :: digs n.natAbs := by rw [dec_of, if_neg h0, if_pos hn]
      have hs : signOff (dec n) = digs n.natAbs := by rw [e]; rfl
      have hv : numOf (dec n) = n := by
        unfold numOf; rw [hs, d2, if_pos (by rw [e]; simp)]; omega
      unfold rdDec
      rw [hv, hs, d1]; simp; omega
    · have e : dec n = digs n.natAbs := by rw [dec_of, if_neg h0, if_neg hn]
      have hs : signOff (dec n) = digs n.natAbs := by rw [e]; exact signOff_digs d1
      have hv : numOf (dec n) = n := by
        unfold numOf; rw [hs, d2, if_neg (by rw [e]; omega)]; omega
      unfold rdDec
      rw [hv, hs, d1]; simp; omega
theorem rdDec_sound {bs : List UInt8} {n : Int} (h : rdDec bs = some n) : dec n = bs := by
  unfold rdDec at h
  split at h
  · rename_i h1
    injection h with h
    simp only [Bool.and_eq_true, decide_eq_true_eq] at h1
    rw [← h]; exact h1.2
  · cases h
theorem dec_bytes (n : Int) : ∀ c ∈ dec n, c.toNat = 45 ∨ (48 ≤ c.toNat ∧ c.toNat ≤ 57) := by
  intro c hc
  rw [dec_of] at hc
  have hd : ∀ c ∈ digs n.natAbs, 48 ≤ c.toNat ∧ c.toNat ≤ 57 := fun c hc => of_decide_eq_true (List.all_eq_true.1 (digs_facts n.natAbs).1 c hc)
  split at hc
  · rw [List.mem_singleton.1 hc]; right; decide
  · split at hc
    · rcases List.mem_cons.1 hc with rfl | hc
      · left; rfl
      · right; exact hd c hc
    · right; exact hd c hc
theorem dec_ne (n : Int) : dec n ≠ [] := by
  rw [dec_of]
  split
  · simp
  · split
    · simp
    · intro h
      have := (digs_facts n.natAbs).2.2.2 (by omega)
      rw [h] at this; simp at this
theorem not_mem_dec {k : UInt8} (n : Int) (h : k.toNat ≠ 45) (h2 : k.toNat < 48 ∨ 57 < k.toNat) : k ∉ dec n := fun hm => by
  rcases dec_bytes n k hm with h3 | h3
  · exact h h3
  · omega
theorem dch_nat (d : Int) (h0 : 0 ≤ d) (h1 : d < 16) : (dch d).toNat = if d < 10 then 48 + d.toNat else 87 + d.toNat := by
  unfold dch; split <;> (rw [UInt8.toNat_ofNat']; omega)
theorem digV_dch (d : Int) (h0 : 0 ≤ d) (h1 : d < 16) : digV (dch d) = d := by
  unfold digV
  rw [dch_nat d h0 h1]
  by_cases h : d < 10
  · rw [if_pos h, if_pos (by omega)]; omega
  · rw [if_neg h, if_neg (by omega), if_pos (by omega)]; omega
theorem dch_digV (c : UInt8) (h : 0 ≤ digV c) : dch (digV c) = c := by
  have hlt := c.toNat_lt
  apply UInt8.toNat_inj.1
  unfold digV at h ⊢
  by_cases h1 : 48 ≤ c.toNat ∧ c.toNat ≤ 57
  · rw [if_pos h1, dch_nat _ (by omega) (by omega), if_pos (by omega)]; omega
  · rw [if_neg h1] at h ⊢
    by_cases h2 : 97 ≤ c.toNat ∧ c.toNat ≤ 102
    · rw [if_pos h2, dch_nat _ (by omega) (by omega), if_neg (by omega)]; omega
    · rw [if_neg h2] at h; omega
theorem rdR_text {b : Int} {ds : List Int} (h : vreg b ds = true) : rdR (rtextL b ds) = some ⟨b, ds⟩ := by
  obtain ⟨⟨b1, b2⟩, -, hd, -⟩ := vreg_iff.1 h
  unfold rdR rtextL
  rw [List.append_assoc, List.singleton_append, cutB_of 58 _ _ (not_mem_dec b (by decide) (by right; decide))]
  simp only [Option.bind_some]
  rw [rdDec_dec b (by omega)]
  simp only [Option.bind_some]
  have e : ((ds.reverse.map dch).reverse.map digV) = ds := by
    rw [← List.map_reverse, List.reverse_reverse, List.map_map]
    conv => rhs; rw [← List.map_id ds]
    refine List.map_congr_left fun d hm => ?_
    have := hd d hm
    exact digV_dch d this.1 (by omega)
  rw [e, h]; rfl
theorem rdR_sound {w : List UInt8} {r : Reg} (h : rdR w = some r) : r.ok = true ∧ rtextL r.base r.digits = w := by
  unfold rdR at h
  obtain ⟨⟨x, y⟩, h1, h2⟩ := Option.bind_eq_some_iff.1 h
  obtain ⟨n, h3, h4⟩ := Option.bind_eq_some_iff.1 h2
  split at h4
  · rename_i hv
    injection h4 with h4
    rw [← h4]
    refine ⟨hv, ?_⟩
    obtain ⟨h5, -⟩ := cutB_mem 58 w x y h1
    unfold rtextL
    simp only []
    rw [rdDec_sound h3, h5, List.append_assoc, List.singleton_append]
    congr 2
    rw [← List.map_reverse, List.reverse_reverse, List.map_map]
    conv => rhs; rw [← List.map_id y]
    refine List.map_congr_left fun c hc => ?_
    exact dch_digV c ((vreg_iff.1 hv).2.2.1 _ (List.mem_map.2 ⟨c, by simpa using hc, rfl⟩)).1
  · cases h4
theorem no32 {b : Int} {ds : List Int} (h : vreg b ds = true) : (32 : UInt8) ∉ rtextL b ds := by
  obtain ⟨⟨b1, b2⟩, -, hd, -⟩ := vreg_iff.1 h
  unfold rtextL
  intro hm
  rcases List.mem_append.1 hm with hm | hm
  · rcases List.mem_append.1 hm with hm | hm
    · exact not_mem_dec b (by decide) (by left; decide) hm
    · simp at hm
  · obtain ⟨d, hd1, hd2⟩ := List.mem_map.1 hm
    have h1 := hd d (by simpa using hd1)
    have h2 := dch_nat d h1.1 (by omega)
    rw [hd2] at h2
    have h3 : (32 : UInt8).toNat = 32 := rfl
    rw [h3] at h2
    split at h2 <;> omega
theorem rtextL_ne (b : Int) (ds : List Int) : rtextL b ds ≠ [] := by unfold rtextL; simp
theorem split_cases (k : UInt8) (bs : List UInt8) : (splitB k.toNat bs = [bs] ∧ k ∉ bs) ∨ ∃ x y, bs = x ++ k :: y ∧ k ∉ x ∧ splitB k.toNat bs = x :: splitB k.toNat y := by
  cases h : cutB [k] bs with
  | none => exact .inl ⟨splitB_none k bs (cutB_none k bs h), cutB_none k bs h⟩
  | some q =>
    obtain ⟨x, y⟩ := q
    obtain ⟨h1, h2⟩ := cutB_mem k bs x y h
    exact .inr ⟨x, y, h1, h2, by rw [h1, splitB_at k y x h2]⟩
theorem split_join {bs x : List UInt8} {t : List (List UInt8)} (h : splitB 32 bs = x :: t) : (t = [] ∧ bs = x) ∨ ∃ y, bs = x ++ 32 :: y ∧ splitB 32 y = t := by
  have e32 : (32 : UInt8).toNat = 32 := rfl
  rcases split_cases 32 bs with ⟨h1, -⟩ | ⟨a, y, h1, -, h3⟩
  · rw [e32, h] at h1; injection h1 with h1 h2; exact .inl ⟨h2, h1.symm⟩
  · rw [e32, h] at h3; injection h3 with h3 h4; exact .inr ⟨y, by rw [h3]; exact h1, h4.symm⟩
theorem strB_cat (a b : ByteArray) : strB (a ++ b) = strB a ++ strB b := by simp [strB]
theorem strB_mtextL {t : Tri} (h : vmach t = true) : strB (mtextL t) = rtextL t.a.base t.a.digits ++ 32 :: (rtextL t.b.base t.b.digits ++ 32 :: (rtextL t.s.base t.s.digits ++ 32 :: dec t.carry)) := by
  obtain ⟨h1, h2, h3, -⟩ := vmach_parts h
  unfold mtextL
  simp only [strB_cat, strB_mk]
  unfold rtext
  rw [if_pos h1, if_pos h2, if_pos h3]
  simp
/-- the machine of a text -/
def rdM (bs : List UInt8) : Option Tri := match wordsB bs with
  | [w0, w1, w2, w3] => if ((rdR w0).isSome && (rdR w1).isSome && (rdR w2).isSome && (rdDec w3).isSome) && decide (strB (mtext ⟨rdReg w0, rdReg w1, rdReg w2, rdN w3⟩) = bs) then some ⟨rdReg w0, rdReg w1, rdReg w2, rdN w3⟩ else none
  | _ => none
theorem isSome_R {w : List UInt8} (h : (rdR w).isSome = true) : (rdReg w).ok = true ∧ rtextL (rdReg w).base (rdReg w).digits = w := by
  obtain ⟨r, hr⟩ := Option.isSome_iff_exists.1 h
  rw [(rdr_some hr).1]; exact rdR_sound hr
theorem isSome_N {w : List UInt8} (h : (rdDec w).isSome = true) : dec (rdN w) = w := by
  obtain ⟨r, hr⟩ := Option.isSome_iff_exists.1 h
  rw [(rd_some hr).1]; exact rdDec_sound hr
theorem rdM_text {t : Tri} (h : vmach t = true) : rdM (strB (mtextL t)) = some t ∧ splitB 32 (strB (mtextL t)) = [rtextL t.a.base t.a.digits, rtextL t.b.base t.b.digits, rtextL t.s.base t.s.digits, dec t.carry] := by
  obtain ⟨h1, h2, h3, h4, h5⟩ := vmach_parts h
  have e32 : (32 : UInt8).toNat = 32 := rfl
  have hsp : splitB 32 (strB (mtextL t)) = [rtextL t.a.base t.a.digits, rtextL t.b.base t.b.digits, rtextL t.s.base t.s.digits, dec t.carry] := by
    rw [strB_mtextL h, ← e32, splitB_at 32 _ _ (no32 h1), splitB_at 32 _ _ (no32 h2), splitB_at 32 _ _ (no32 h3), splitB_none 32 _ (not_mem_dec _ (by decide) (by left; decide))]
  have hw : wordsB (strB (mtextL t)) = [rtextL t.a.base t.a.digits, rtextL t.b.base t.b.digits, rtextL t.s.base t.s.digits, dec t.carry] := by
    unfold wordsB
    rw [hsp, List.filter_eq_self]
    intro x hx
    simp only [List.mem_cons, List.not_mem_nil, or_false] at hx
    rcases hx with rfl | rfl | rfl | rfl
    · simpa using rtextL_ne _ _
    · simpa using rtextL_ne _ _
    · simpa using rtextL_ne _ _
    · simpa using dec_ne _
  have q1 := rdr_some (rdR_text h1)
  have q2 := rdr_some (rdR_text h2)
  have q3 := rdr_some (rdR_text h3)
  have q4 := rd_some (rdDec_dec t.carry (by omega))
  refine ⟨?_, hsp⟩
  unfold rdM
  rw [hw]
  simp only []
  rw [q1.1, q1.2, q2.1, q2.2, q3.1, q3.2, q4.1, q4.2]
  have e : (⟨⟨t.a.base, t.a.digits⟩, ⟨t.b.base, t.b.digits⟩, ⟨t.s.base, t.s.digits⟩, t.carry⟩ : Tri) = t := rfl
  have e2 : mtext t = mtextL t := by unfold mtext; rw [if_pos h]
  rw [e, e2]; simp
theorem rdM_sound {bs : List UInt8} {t : Tri} (h : rdM bs = some t) : vmach t = true ∧ strB (mtextL t) = bs := by
  unfold rdM at h
  split at h
  · rename_i w0 w1 w2 w3 hw
    split at h
    · rename_i hc
      injection h with h
      simp only [Bool.and_eq_true, decide_eq_true_eq] at hc
      obtain ⟨-, hm⟩ := hc
      rw [h] at hm
      rcases hv : vmach t with _ | _
      · unfold mtext at hm; rw [hv] at hm
        have : bs = [] := by rw [← hm]; rfl
        subst this
        simp [wordsB, splitB] at hw
      · unfold mtext at hm; rw [hv] at hm; exact ⟨rfl, hm⟩
    · cases h
  · cases h
theorem rdM_spec (bs : List UInt8) : rdM bs = match splitB 32 bs with
    | [w0, w1, w2, w3] => if ((rdR w0).isSome && (rdR w1).isSome && (rdR w2).isSome && (rdDec w3).isSome) && vmach ⟨rdReg w0, rdReg w1, rdReg w2, rdN w3⟩ then some ⟨rdReg w0, rdReg w1, rdReg w2, rdN w3⟩ else none
    | _ => none := by
  cases h : rdM bs with
  | some t =>
    obtain ⟨hv, hm⟩ := rdM_sound h
    obtain ⟨-, hsp⟩ := rdM_text hv
    rw [hm] at hsp
    rw [hsp]
    simp only []
    obtain ⟨h1, h2, h3, h4, h5⟩ := vmach_parts hv
    have q1 := rdr_some (rdR_text h1)
    have q2 := rdr_some (rdR_text h2)
    have q3 := rdr_some (rdR_text h3)
    have q4 := rd_some (rdDec_dec t.carry (by omega))
    rw [q1.1, q1.2, q2.1, q2.2, q3.1, q3.2, q4.1, q4.2]
    have e : (⟨⟨t.a.base, t.a.digits⟩, ⟨t.b.base, t.b.digits⟩, ⟨t.s.base, t.s.digits⟩, t.carry⟩ : Tri) = t := rfl
    rw [e, hv]; simp
  | none =>
    split
    · rename_i w0 w1 w2 w3 hsp
      split
      · rename_i hc
        exfalso
        simp only [Bool.and_eq_true] at hc
        obtain ⟨⟨⟨⟨c0, c1⟩, c2⟩, c3⟩, hv⟩ := hc
        have t0 := (isSome_R c0).2
        have t1 := (isSome_R c1).2
        have t2 := (isSome_R c2).2
        have t3 := isSome_N c3
        rcases split_join hsp with ⟨h1, -⟩ | ⟨y1, e1, hs1⟩
        · cases h1
        rcases split_join hs1 with ⟨h1, -⟩ | ⟨y2, e2, hs2⟩
        · cases h1
        rcases split_join hs2 with ⟨h1, -⟩ | ⟨y3, e3, hs3⟩
        · cases h1
        rcases split_join hs3 with ⟨-, e4⟩ | ⟨y4, e4, hs4⟩
        · have hm := strB_mtextL hv
          simp only [] at hm
          rw [t0, t1, t2, t3] at hm
          have : strB (mtextL ⟨rdReg w0, rdReg w1, rdReg w2, rdN w3⟩) = bs := by rw [hm, e1, e2, e3, e4]
          have h2 := (rdM_text hv).1
          rw [this, h] at h2; cases h2
        · exact splitB_ne 32 y4 hs4
      · rfl
    · rfl
end Go.Proofs.Ytmmiahgmdllgdaa

namespace Go.Proofs.Ytmmiahgmdllgdaa
open Go.RowKit Go.Sort
def rdMach (bs : List UInt8) : Tri := (rdM bs).getD zTri
theorem rdm_none {bs : List UInt8} (h : rdM bs = none) : rdMach bs = zTri ∧ (rdM bs).isSome = false := by simp [rdMach, h]
theorem rdm_some {bs : List UInt8} {r : Tri} (h : rdM bs = some r) : rdMach bs = r ∧ (rdM bs).isSome = true := by simp [rdMach, h]
theorem rdReg_len (bs : List UInt8) : (rdReg bs).digits.length ≤ 16 := by
  cases h : rdR bs with
  | none => rw [(rdr_none h).1]; simp
  | some r => rw [(rdr_some h).1]; exact (ok_bd (rdR_sound h).1).2.2
theorem words_each (bs : List UInt8) : ∀ x ∈ wordsB bs, x.length ≤ bs.length := fun x hx => splitB_each 32 bs x (List.mem_filter.1 hx).1
theorem Kn.sw6 {w0 w : World} {m : List Ent} {a b c d e f g : Ent} (h : Kn w0 (a :: b :: c :: d :: e :: f :: g :: m) w) : Kn w0 (g :: a :: b :: c :: d :: e :: f :: m) w := h.perm (by
  have := (List.perm_middle (a := g) (l₁ := [a, b, c, d, e, f]) (l₂ := m)); simpa using this)
end Go.Proofs.Ytmmiahgmdllgdaa

namespace Go.Proofs.Ytmmiahgmdllgdaa
open Go.RowKit Go.Sort
/-! rows of strings -/
def StrM (w : World) (p : Addr) (s : ByteArray) : Prop := w.cell? p = some (.string s)
theorem steady_StrM : Steady StrM := by
  intro w w' p s hp hb h
  unfold StrM at *
  rw [hb.cell hp]; exact h
def rowSN (A : Option Addr) (n c : Nat) (ss : List ByteArray) : Ent := .row (.slice A n c) 9 1 n (ss.map Value.string)
theorem Kn.rlSN {w0 w : World} {m : List Ent} {A : Option Addr} {n c : Nat} {ss : List ByteArray} (h : Kn w0 (rowSN A n c ss :: m) w) : ss.length = n ∧ RL StrM 1 w A n ss := by
  have h0 : w.ownsRow 0 9 1 (.slice A n c) n (ss.map Value.string) := h.at0
  have hl : ss.length = n := by have := h0.1; simpa using this
  refine ⟨hl, hl, fun hn => ?_⟩
  rcases h0.2 with ⟨hv, hn'⟩ | ⟨g, cap, cur, hv, -, hg, -⟩
  · omega
  · injection hv with h1 h2 h3
    refine ⟨_, h1, (Array.getElem?_eq_some_iff.1 hg).1, fun k hk => ?_⟩
    rw [h1] at h0
    have := h0.cells (g := g) rfl k _ (by rw [List.getElem?_map, List.getElem?_eq_getElem hk]; rfl)
    rw [Nat.mul_one]
    exact this
theorem Kn.rlS {w0 w : World} {m : List Ent} {A : Option Addr} {n c : Nat} {ss : List ByteArray} (h : Kn w0 (rowS (.slice A n c) ss :: m) w) : n = ss.length ∧ RL StrM 1 w A n ss := by
  have h0 : w.ownsRow 0 9 1 (.slice A n c) ss.length (ss.map Value.string) := h.at0
  have hn : n = ss.length := by
    rcases h0.2 with ⟨hv, hn'⟩ | ⟨g, cap, cur, hv, -, hg, -⟩
    · injection hv with h1 h2 h3; omega
    · injection hv
  subst hn
  exact ⟨rfl, (Kn.rlSN (m := m) (c := c) h).2⟩
def totS (ss : List ByteArray) : Nat := (ss.map (·.size)).sum
theorem totS_mem {ss : List ByteArray} {s : ByteArray} (h : s ∈ ss) : s.size ≤ totS ss := by
  induction ss with
  | nil => cases h
  | cons a l ih =>
    unfold totS at *
    rw [List.map_cons, List.sum_cons]
    rcases List.mem_cons.1 h with rfl | h
    · omega
    · have := ih h; omega
theorem totS_snoc (ss : List ByteArray) (s : ByteArray) : totS (ss ++ [s]) = totS ss + s.size := by simp [totS]
set_option maxHeartbeats 800000 in
theorem szStringS_any (A : Option Addr) (n c : Nat) (ss : List ByteArray) (left : Int) (w : World) (hr : RL StrM 1 w A n ss) (hsz : ∀ s ∈ ss, s.size ≤ 9223372036854775807) (h1 : 0 ≤ left) (h2 : left ≤ 1048576) (hn : n ≤ 9223372036854775807) :
    Calls Try.prog 75 #[.slice A n c, .int .i64 left] w fun e w' => e = .returned (.int .i64 (if (n : Int) + totS ss ≤ left then left - n - totS ss else -1)) ∧ w = w' := by
  have HL := Lib.hid hr.1
  have HR := Lib.hid hr
  have HZ := Lib.hid hsz
  clear hr hsz
  by_cases h : (n : Int) ≤ left
  · have hi : ¬ left - (n : Int) < 0 := by omega
    obtain ⟨R, hR⟩ : ∃ R : Int, (if (n : Int) + totS ss ≤ left then left - n - totS ss else -1) = R := ⟨_, rfl⟩
    rw [hR]
    have HRR := Lib.hid hR
    clear hR
    go_enter Try.func75, Try.ntmps75
    go_wp2_with fail
    go_loopw [5, 1] (fun i lf wr => ∃ k : Nat, k ≤ n ∧ i = .int .i64 k ∧ lf = .int .i64 (left - n - totS (ss.take k)) ∧ (n : Int) + totS (ss.take k) ≤ left ∧ w = wr) (fun i _ _ => n - (intOf i).toNat)
    case atStart => exact ⟨0, Nat.zero_le _, rfl, by simp [totS], by simp [totS]; omega, rfl⟩
    case round =>
      obtain ⟨k, hk, rfl, rfl, hle, rfl⟩ := hrel
      by_cases hkn : k < n
      · obtain ⟨ad, hA, hlt, hkl, hx⟩ := HR.out.at_ hkn
        unfold StrM at hx
        rw [Nat.mul_one] at hx
        have hzz := HZ.out _ (List.getElem_mem hkl)
        obtain ⟨x, hxe⟩ : ∃ x, ss[k] = x := ⟨_, rfl⟩
        have htk : totS (ss.take (k + 1)) = totS (ss.take k) + x.size := by rw [List.take_succ_eq_append_getElem hkl, totS_snoc, hxe]
        rw [hxe] at hx hzz
        obtain ⟨T, hT⟩ : ∃ T, totS (ss.take k) = T := ⟨_, rfl⟩
        rw [hT] at htk hle ⊢
        have HT := Lib.hid hT
        have HTK := Lib.hid htk
        have HXE := Lib.hid hxe
        clear hT htk hxe
        have hi0 : (0 : Int) ≤ (k : Int) := by omega
        have hi1 : (k : Int) < (n : Int) := by omega
        subst hA
        by_cases hbad : left - (n : Int) - T - x.size < 0
        · go_wp2_with fail
          go_ret
          exact ⟨ret_int (by
            have hall : totS (ss.take (k + 1)) ≤ totS ss := by
              unfold totS
              conv => rhs; rw [← List.take_append_drop (k + 1) ss, List.map_append, List.sum_append]
              omega
            have := HTK.out
            have hr := HRR.out
            rw [if_neg (by omega)] at hr
            exact hr), by first | rfl | trivial⟩
        · go_wp2_with fail
          go_roundw
          case rel => exact ⟨k + 1, by omega, by go_num, by rw [HTK.out]; congr 1; omega, by rw [HTK.out]; omega, by first | rfl | trivial⟩
          case measure => simp [intOf]; omega
      · have hi1 : ¬ (k : Int) < (n : Int) := by omega
        have hT : totS (ss.take k) = totS ss := by rw [List.take_of_length_le (by have := HL.out; omega)]
        rw [hT] at hle ⊢
        have HLE := Lib.hid hle
        clear hle hT
        go_wp2_with fail
        go_ret
        exact ⟨ret_int (by
          have hr := HRR.out
          rw [if_pos HLE.out] at hr
          exact hr), by first | rfl | trivial⟩
  · have hi : left - (n : Int) < 0 := by omega
    go_enter Try.func75, Try.ntmps75
    go_wp2
    go_ret
    exact ⟨ret_int (by first | rfl | omega), rfl⟩
theorem info_str : (Try.prog.info? 9).map (fun i => (i.zero, i.size, i.bytes)) = some (some (.string ⟨#[]⟩), 1, 16) := by kernel_rfl
set_option maxRecDepth 100000 in
set_option maxHeartbeats 1600000 in
theorem toStringS_kn (A : Option Addr) (n c : Nat) (xs : List ByteArray) (w : World) (hr : RL StrM 1 w A n xs) (hm : n ≤ 1048576) :
    Calls Try.prog 80 #[.slice A n c] w fun e w' => ∃ X x, e = .returned (.slice X n x) ∧ Kn w [rowSN X n x xs] w' := by
  have HL := Lib.hid hr.1
  have HR := Lib.hid hr
  obtain ⟨i0, hi, hz0, hz1, hz2⟩ := info_parts info_str
  clear hr
  go_enter Try.func80, Try.ntmps80
  go_wp2_with (at_make; refine wpList_make_full _ rfl _ _ 57 rfl w.heap.size 9 i0 _ 1 Try.underlying57 hi hz0 hz1 _ _ _ _ n rfl rfl rfl rfl (by rw [hz2]; omega) (by unfold maxLen; omega) (Nat.le_refl _) ?_; intro w1 hown1 hg1)
  have hb1 : Below w.heap.size w w1 := (Below.refl _ _).grown hg1 (Nat.le_refl _) (by simp)
  have hK1 : Kn w [.row (.slice (some ⟨w.heap.size, 0, none⟩) n n) 9 1 n _] w1 := (Kn.nil w).add (e := .row (.slice (some ⟨w.heap.size, 0, none⟩) n n) 9 1 n _) hb1 (by
    refine ⟨hown1.1, ?_⟩
    rcases hown1.2 with hn | ⟨g, cap, cur, e, hbg, rest⟩
    · exact .inl hn
    · exact .inr ⟨g, cap, cur, e, Nat.zero_le _, rest⟩) (fun k hk => by
    have hk' : (Value.slice (some ⟨w.heap.size, 0, none⟩) n n).ownBlock = some k := hk
    simp only [Value.ownBlock, Option.some.injEq] at hk'
    omega)
  clear hg1 hown1 hb1 hi hz0 hz1 hz2
  go_loopw [4] (fun i wr => ∃ (k : Nat) (cs : List Value), k ≤ n ∧ i = .int .i64 k ∧ Kn w [.row (.slice (some ⟨w.heap.size, 0, none⟩) n n) 9 1 n cs] wr ∧ (∀ (i : Nat) (h : i < xs.length), i < k → cs[i]? = some (.string xs[i]))) (fun i _ => n - (intOf i).toNat)
  case atStart => exact ⟨0, _, Nat.zero_le _, rfl, hK1, fun i h h' => by omega⟩
  case round =>
    clear hK1
    obtain ⟨k, cs, hk, rfl, hK, hcs⟩ := hrel
    have hcl : cs.length = n * 1 := (show wr.ownsRow 0 9 1 _ n cs from hK.at0).1
    have HCS := Lib.hid hcs
    have HCL := Lib.hid hcl
    by_cases hkn : k < n
    · obtain ⟨ad, hA, hlt, hkl, hx⟩ := (HR.out.below steady_StrM hK.below).at_ hkn
      unfold StrM at hx
      rw [Nat.mul_one] at hx
      obtain ⟨x, hxe⟩ : ∃ x, xs[k] = x := ⟨_, rfl⟩
      rw [hxe] at hx
      have HX := Lib.hid hxe
      have hi0 : (0 : Int) ≤ (k : Int) := by omega
      have hi1 : (k : Int) < (n : Int) := by omega
      subst hA
      clear hxe hcs
      obtain ⟨u0, hu0⟩ : ∃ u, cs[k]? = some u := ⟨_, List.getElem?_eq_getElem (by omega)⟩
      obtain ⟨y1, y2⟩ := Kn.rowCell hK hu0
      clear hu0 hcl
      go_wp2_with fail
      go_roundw
      case rel =>
        refine ⟨k + 1, _, by omega, by go_num, hK.rowSt k (.string x), fun i h h' => ?_⟩
        have hcl := HCL.out
        rcases Nat.lt_or_ge i k with h1 | h1
        · rw [List.getElem?_set_ne (by omega)]
          exact HCS.out i h h1
        · obtain rfl : i = k := by omega
          have hx := HX.out
          rw [hx, List.getElem?_set_self (by omega)]
      case measure => simp [intOf]; omega
    · have hce : cs = xs.map Value.string := by
        apply List.ext_getElem?
        intro j
        by_cases hj : j < xs.length
        · rw [hcs j hj (by have := HL.out; omega), List.getElem?_map, List.getElem?_eq_getElem hj]; rfl
        · rw [List.getElem?_eq_none (by have := HL.out; omega), List.getElem?_eq_none (by rw [List.length_map]; omega)]
      have HCE := Lib.hid hce
      have hi1 : ¬ (k : Int) < (n : Int) := by omega
      clear hcs hcl hce
      go_wp2_with fail
      go_ret
      exact ⟨_, _, rfl, by unfold rowSN; rw [← HCE.out]; exact hK⟩
set_option maxHeartbeats 1600000 in
theorem eqStringS_same (A B : Option Addr) (n c d : Nat) (xs : List ByteArray) (w : World) (hr : RL StrM 1 w A n xs) (hs : RL StrM 1 w B n xs) (hm : n ≤ 1048576) :
    Calls Try.prog 88 #[.slice A n c, .slice B n d] w fun e w' => e = .returned (.bool true) ∧ ∃ q, w' = w.drewN q := by
  have HR := Lib.hid hr
  have HS := Lib.hid hs
  clear hr hs
  go_enter Try.func88, Try.ntmps88
  go_wp2_with fail
  go_loopw [5] (fun i wr => ∃ (k : Nat), k ≤ n ∧ i = .int .i64 k ∧ ∃ q, wr = w.drewN q) (fun i _ => n - (intOf i).toNat)
  case atStart => exact ⟨0, Nat.zero_le _, rfl, 0, rfl⟩
  case round =>
    obtain ⟨k, hk, rfl, q, rfl⟩ := hrel
    by_cases hkn : k < n
    · obtain ⟨ad, hA, hlt, hkl, hx⟩ := HR.out.at_ hkn
      obtain ⟨bd, hB, hlt2, hkl2, hy⟩ := HS.out.at_ hkn
      unfold StrM at hx hy
      rw [Nat.mul_one] at hx hy
      obtain ⟨x, hxe⟩ : ∃ x, xs[k] = x := ⟨_, rfl⟩
      rw [hxe] at hx hy
      have hi0 : (0 : Int) ≤ (k : Int) := by omega
      have hi1 : (k : Int) < (n : Int) := by omega
      have hxx : (x.toList == x.toList) = true := by simp
      subst hA
      subst hB
      clear hxe hlt hlt2
      go_wp2_with fail
      go_quiet (fail)
      go_wp2_with fail
      go_roundw
      case rel => exact ⟨k + 1, by omega, by go_num, by first | exact ⟨_, rfl⟩ | exact ⟨_, World.drewN_drewN _ _ _⟩⟩
      case measure => simp [intOf]; omega
    · have hi1 : ¬ (k : Int) < (n : Int) := by omega
      go_wp2_with fail
      go_ret
      exact ⟨rfl, q, rfl⟩
end Go.Proofs.Ytmmiahgmdllgdaa

namespace Go.Proofs.Ytmmiahgmdllgdaa
open Go.RowKit Go.Sort
/-! marks of strings -/
def mkT (k : Int) : ByteArray := ⟨(109 :: digs k.toNat).toArray⟩
def marksS (k : Int) (n : Nat) : List ByteArray := (List.range n).map (fun (i : Nat) => mkT (k + (i : Int)))
theorem marksS_len (k : Int) (n : Nat) : (marksS k n).length = n := by simp [marksS]
theorem marksS_get (k : Int) (n i : Nat) (h : i < (marksS k n).length) : (marksS k n)[i] = mkT (k + i) := by simp [marksS]
theorem eqS_same (A B : Option Addr) (n c d : Nat) (xs : List ByteArray) (w : World) (hr : RL StrM 1 w A n xs) (hs : RL StrM 1 w B n xs) (hm : n ≤ 1048576) :
    Calls Try.prog 88 #[.slice A n c, .slice B n d] w fun e w' => e = .returned (.bool true) ∧ Below w.heap.size w w' := by
  refine (eqStringS_same A B n c d xs w hr hs hm).mono ?_
  rintro e w' ⟨rfl, q, rfl⟩
  exact ⟨rfl, drewN_below q⟩
theorem size_app (a b : ByteArray) : (a ++ b).size = a.size + b.size := ByteArray.size_append
theorem strB_app (a b : ByteArray) : strB (a ++ b) = strB a ++ strB b := by unfold strB; simp
set_option maxHeartbeats 800000 in
theorem markText_any (u0 : Nat) (w : World) (h0 : 0 < u0) (h1 : u0 ≤ 100000000) :
    Calls Try.prog 89 #[.int .i64 u0] w fun e w' => e = .returned (.string (mkT u0)) ∧ Below w.heap.size w w' := by
  have hlen := digs_len (u0 : Int) (by omega) (by omega)
  have hu0 : ((u0 : Int)).natAbs = u0 := by omega
  rw [hu0] at hlen
  have hp : ¬ (u0 : Int) ≤ 0 := by omega
  clear hu0
  go_enter Try.func89, Try.ntmps89
  go_wp2_with fail
  clear hp
  go_loopw [0, 3] (fun k o wr => ∃ (u : Nat) (s : ByteArray), u ≤ u0 ∧ k = .int .i64 u ∧ o = .string s ∧ digs u0 = digs u ++ strB s ∧ Below w.heap.size w wr) (fun k _ _ => (intOf k).natAbs)
  case atStart => exact ⟨u0, ⟨#[]⟩, Nat.le_refl _, rfl, rfl, by simp [strB], Below.refl _ _⟩
  case round =>
    obtain ⟨u, s, hu, rfl, rfl, hdg, hbr⟩ := hrel
    have hbl : s.size ≤ 21 := by rw [hdg] at hlen; simp [strB_len] at hlen; omega
    have HG := Lib.hid hdg; clear hdg
    rcases Nat.eq_zero_or_pos u with hu1 | hu1
    · subst hu1
      have HE : Hid (mkT u0 = (⟨#[109]⟩ : ByteArray) ++ s) := by
        have hg := HG.out
        rw [show digs 0 = [] from rfl, List.nil_append] at hg
        unfold mkT
        rw [Hid, Int.toNat_natCast, str_eq, strB_app, hg]
        rfl
      go_wp2_with fail
      go_ret
      exact ⟨ret_str HE.out.symm, hbr⟩
    · have HN : Hid (digs u0 = digs (u / 10) ++ (UInt8.ofNat (48 + u % 10) :: strB s)) := by rw [Hid, HG.out, digs_step u (by omega)]; simp
      have hi1 : (0 : Int) < (u : Int) := by omega
      obtain ⟨d, hd⟩ : ∃ d : Nat, u % 10 = d := ⟨_, rfl⟩
      have hd1 : d < 10 := by omega
      obtain ⟨q, hq⟩ : ∃ q : Nat, u / 10 = q := ⟨_, rfl⟩
      have hq1 : q < u := by omega
      have t1 : (u : Int).tmod 10 = (d : Int) := by rw [Int.tmod_eq_emod_of_nonneg (by omega)]; omega
      have t2 : (u : Int).tdiv 10 = (q : Int) := by rw [Int.tdiv_eq_ediv_of_nonneg (by omega)]; omega
      have t3 : (u : Int) % 10 = (d : Int) := by omega
      have t4 : (u : Int) / 10 = (q : Int) := by omega
      rw [hq, hd] at HN
      have hbv : byteV (UInt8.ofNat (48 + d)) = .int .u8 (48 + (d : Int)) := by
        unfold byteV
        congr 1
        rw [UInt8.toNat_ofNat']
        omega
      obtain ⟨bb, hbb⟩ : ∃ b, UInt8.ofNat (48 + d) = b := ⟨_, rfl⟩
      rw [hbb] at hbv HN
      have hcv := conv_bytes (wr.alloc (.cells #[.int .u8 (48 + (d : Int))] 5)) (some ⟨wr.heap.size, 0, none⟩) 1 1 [bb] ⟨rfl, fun _ => ⟨_, rfl, by simp, fun j u hu => by
        cases j with
        | zero =>
          simp at hu; subst hu
          rw [hbv]
          exact (cell_of_row _ wr.heap.size _ _ 5 (0, 0) (heap_alloc_new _ _)).trans (by simp)
        | succ j => simp at hu⟩⟩
      have HQ := Lib.hid hq
      clear hd hq hbv hbb
      have hw1 : IntKind.u8.wrap (48 + (d : Int)) = 48 + d := wrapB (by omega)
      go_wp2_with fail
      go_roundw
      case rel => exact ⟨q, _, by omega, rfl, rfl, by rw [strB_app]; exact HN.out, hbr.alloc hbr.size _⟩
      case measure => simp [intOf]; omega
set_option maxRecDepth 100000 in
set_option maxHeartbeats 800000 in
theorem markS_kn (w0 : World) (m : List Ent) (A : Option Addr) (n c : Nat) (ss : List ByteArray) (k : Int) (w : World) (hK : Kn w0 (rowSN A n c ss :: m) w) (h0 : 1 ≤ k) (hk : k + n ≤ 40000000) :
    Calls Try.prog 90 #[.slice A n c, .int .i64 k] w fun e w' => e = .returned (.int .i64 (k + n)) ∧ Kn w0 (rowSN A n c (marksS k n) :: m) w' := by
  obtain ⟨k0, rfl⟩ : ∃ k0 : Nat, k = (k0 : Int) := ⟨k.toNat, by omega⟩
  have hl := hK.rlSN.1
  rcases Nat.eq_zero_or_pos n with hn | hn
  · subst hn
    obtain rfl : ss = [] := List.eq_nil_of_length_eq_zero hl
    go_enter Try.func90, Try.ntmps90
    go_wp2_with fail
    go_loopw [1, 5] (fun kk i wr => i = .int .i64 0 ∧ kk = .int .i64 k0 ∧ w = wr) (fun _ i _ => 0)
    case atStart => exact ⟨rfl, rfl, rfl⟩
    case round =>
      obtain ⟨rfl, rfl, rfl⟩ := hrel
      go_wp2_with fail
      go_ret
      exact ⟨ret_int (by simp), by simpa [marksS] using hK⟩
  · obtain ⟨g, c', hv⟩ := Kn.rowForm hK hn
    injection hv with hv1 hv2 hv3
    subst hv1
    clear hv2 hv3
    go_enter Try.func90, Try.ntmps90
    go_wp2_with fail
    go_loopw [1, 5] (fun kk i wr => ∃ (j : Nat) (cs : List Value), j ≤ n ∧ i = .int .i64 j ∧ kk = .int .i64 ((k0 + j : Nat) : Int) ∧ Kn w0 (.row (.slice (some ⟨g, 0, none⟩) n c) 9 1 n cs :: m) wr ∧ (∀ (i : Nat), i < j → cs[i]? = some (.string (mkT (k0 + i))))) (fun _ i _ => n - (intOf i).toNat)
    case atStart => exact ⟨0, _, Nat.zero_le _, rfl, rfl, hK, fun i h => by omega⟩
    case round =>
      clear hK
      obtain ⟨j, cs, hj, rfl, rfl, hK, hcs⟩ := hrel
      have hcl : cs.length = n * 1 := (show wr.ownsRow 0 9 1 _ n cs from hK.at0).1
      have HCS := Lib.hid hcs
      have HCL := Lib.hid hcl
      by_cases hkn : j < n
      · obtain ⟨N, hN⟩ : ∃ N, k0 + j = N := ⟨_, rfl⟩
        rw [hN]
        have KM := (markText_any N wr (by omega) (by omega))
        obtain ⟨T, hT⟩ : ∃ T, mkT (N : Int) = T := ⟨_, rfl⟩
        rw [hT] at KM
        have KM := Lib.hid KM
        have HN := Lib.hid hN
        have HT := Lib.hid hT
        have hNb : N ≤ 40000000 := by omega
        have hi0 : (0 : Int) ≤ (j : Int) := by omega
        have hi1 : (j : Int) < (n : Int) := by omega
        obtain ⟨u0, hu0⟩ : ∃ u, cs[j]? = some u := ⟨_, List.getElem?_eq_getElem (by omega)⟩
        have HU := Lib.hid hu0
        clear hN hT hcs hcl hu0
        go_wp2_with fail
        refine KM.out.mono ?_; rintro e w1 ⟨rfl, hw⟩
        have hK1 := hK.keep hw
        obtain ⟨y1, y2⟩ := Kn.rowCell hK1 HU.out
        clear hK hw
        go_wp2_with fail
        go_roundw
        case rel =>
          refine ⟨j + 1, _, by omega, by go_num, by rw [← HN.out]; go_num, hK1.rowSt j (.string T), fun i h => ?_⟩
          have hcl := HCL.out
          rcases Nat.lt_or_ge i j with h1 | h1
          · rw [List.getElem?_set_ne (by omega)]
            exact HCS.out i h1
          · obtain rfl : i = j := by omega
            rw [List.getElem?_set_self (by omega), ← HT.out, ← HN.out, Int.natCast_add]
        case measure => simp [intOf]; omega
      · have hce : cs = (marksS k0 n).map Value.string := by
          apply List.ext_getElem?
          intro i
          by_cases hi : i < n
          · rw [hcs i (by omega), List.getElem?_map, List.getElem?_eq_getElem (by rw [marksS_len]; exact hi), marksS_get]; rfl
          · rw [List.getElem?_eq_none (by omega), List.getElem?_eq_none (by rw [List.length_map, marksS_len]; omega)]
        have HCE := Lib.hid hce
        have hi1 : ¬ (j : Int) < (n : Int) := by omega
        obtain rfl : j = n := by omega
        clear hcs hcl hce
        go_wp2_with fail
        go_ret
        exact ⟨ret_int (by omega), by unfold rowSN; rw [← HCE.out]; exact hK⟩
set_option maxRecDepth 100000 in
set_option maxHeartbeats 800000 in
theorem heldS_any (A : Option Addr) (n c : Nat) (k : Int) (w : World) (hr : RL StrM 1 w A n (marksS k n)) (h0 : 1 ≤ k) (hk : k + n ≤ 40000000) :
    Calls Try.prog 91 #[.slice A n c, .int .i64 k] w fun e w' => e = .returned (.int .i64 (k + n)) ∧ Below w.heap.size w w' := by
  obtain ⟨k0, rfl⟩ : ∃ k0 : Nat, k = (k0 : Int) := ⟨k.toNat, by omega⟩
  have HR := Lib.hid (fun W (hW : Below w.heap.size w W) => hr.below steady_StrM hW)
  clear hr
  go_enter Try.func91, Try.ntmps91
  go_wp2_with fail
  go_loopw [1, 5] (fun kk i wr => ∃ (j : Nat), j ≤ n ∧ i = .int .i64 j ∧ kk = .int .i64 ((k0 + j : Nat) : Int) ∧ Below w.heap.size w wr) (fun _ i _ => n - (intOf i).toNat)
  case atStart => exact ⟨0, Nat.zero_le _, rfl, rfl, Below.refl _ _⟩
  case round =>
    obtain ⟨j, hj, rfl, rfl, hb⟩ := hrel
    by_cases hkn : j < n
    · obtain ⟨N, hN⟩ : ∃ N, k0 + j = N := ⟨_, rfl⟩
      rw [hN]
      have KM := (fun W => markText_any N W (by omega) (by omega))
      obtain ⟨T, hT⟩ : ∃ T, mkT (N : Int) = T := ⟨_, rfl⟩
      rw [hT] at KM
      obtain ⟨ad, hA, hlt, hkl, hx⟩ := (HR.out wr hb).at_ hkn
      unfold StrM at hx
      rw [Nat.mul_one, marksS_get, show (k0 : Int) + (j : Int) = (N : Int) by omega, hT] at hx
      have KM := Lib.hid KM
      have HN := Lib.hid hN
      have hNb : N ≤ 40000000 := by omega
      have hi0 : (0 : Int) ≤ (j : Int) := by omega
      have hi1 : (j : Int) < (n : Int) := by omega
      have HX := Lib.hid (fun W (hW : Below wr.heap.size wr W) => (hW.cell (p := ad.add j) (by rw [block_of_add]; exact hlt)).trans hx)
      have HG := Lib.hid (HX.out _ (Below.refl _ _).drew)
      have hTT : (T.toList == T.toList) = true := by simp
      subst hA
      clear hN hT hkl
      go_wp2_with fail
      go_region_held3 (fun W => W.cell? (ad.add j) = some (.string T)) (first | with_reducible exact HG.out | exact HG.out) (
        (go_at_call 89; (refine (KM.out _).mono ?_); rintro e w1 ⟨rfl, hw⟩; have hw2 := (Below.refl wr.heap.size wr).drew.trans (hw.mono (by simp)); clear HG; have HG := Lib.hid (HX.out _ hw2)))
      all_goals
        go_wp2_with fail
        go_roundw
        case rel => exact ⟨j + 1, by omega, by go_num, by rw [← HN.out]; go_num, hb.trans (hw2.mono hb.size)⟩
        case measure => simp [intOf]; omega
    · have hi1 : ¬ (j : Int) < (n : Int) := by omega
      obtain rfl : j = n := by omega
      go_wp2_with fail
      go_ret
      exact ⟨ret_int (by omega), hb⟩
end Go.Proofs.Ytmmiahgmdllgdaa

namespace Go.Proofs.Ytmmiahgmdllgdaa
open Go.RowKit Go.Sort
/-! entries of a catalogue in memory -/
structure Etr where
  num : Int
  name : ByteArray
  maker : ByteArray
  year : Int
  words : List ByteArray
instance : Inhabited Etr := ⟨⟨0, ⟨#[]⟩, ⟨#[]⟩, 0, []⟩⟩
def EtrM (w : World) (p : Addr) (x : Etr) : Prop := ∃ A c, (A = none → c = 0) ∧ (w.cell? p = some (.int .i64 x.num) ∧ w.cell? ⟨p.block, p.off + 1, none⟩ = some (.string x.name) ∧ w.cell? ⟨p.block, p.off + 2, none⟩ = some (.string x.maker) ∧ w.cell? ⟨p.block, p.off + 3, none⟩ = some (.int .i64 x.year) ∧ w.cell? ⟨p.block, p.off + 4, none⟩ = some (.slice A x.words.length c)) ∧ RL StrM 1 w A x.words.length x.words
theorem steady_EtrM : Steady EtrM := by
  rintro w w' p x hp hb ⟨A, c, hn, ⟨h0, h1, h2, h3, h4⟩, h5⟩
  exact ⟨A, c, hn, ⟨by rw [hb.cell hp]; exact h0, by rw [hb.cell (by exact hp)]; exact h1, by rw [hb.cell (by exact hp)]; exact h2, by rw [hb.cell (by exact hp)]; exact h3, by rw [hb.cell (by exact hp)]; exact h4⟩, h5.below steady_StrM hb⟩
theorem Kn.noneCap {w0 w : World} {m : List Ent} {A : Option Addr} {n c : Nat} {ss : List ByteArray} (h : Kn w0 (rowSN A n c ss :: m) w) : A = none → c = 0 := fun hA => by
  have h0 : w.ownsRow 0 9 1 (.slice A n c) n (ss.map Value.string) := h.at0
  rcases h0.2 with ⟨hv, -⟩ | ⟨g, cap, cur, hv, -⟩
  · injection hv
  · injection hv with hv
    rw [hA] at hv
    cases hv
/-- an entry that the call owns -/
structure EE where
  t : Etr
  X : Option Addr
  x : Nat
def EE.cells (e : EE) : List Value := [.int .i64 e.t.num, .string e.t.name, .string e.t.maker, .int .i64 e.t.year, .slice e.X e.t.words.length e.x]
def EE.row (e : EE) : Ent := rowSN e.X e.t.words.length e.x e.t.words
def cellsE (L : List EE) : List Value := L.flatMap EE.cells
def rowsE (L : List EE) : List Ent := L.map EE.row
theorem cellsE_app (L M : List EE) : cellsE (L ++ M) = cellsE L ++ cellsE M := by unfold cellsE; rw [List.flatMap_append]
theorem rowsE_app (L M : List EE) : rowsE (L ++ M) = rowsE L ++ rowsE M := by unfold rowsE; rw [List.map_append]
theorem cellsE_len (L : List EE) : (cellsE L).length = L.length * 5 := by
  induction L with
  | nil => rfl
  | cons x L ih =>
    have h2 : cellsE (x :: L) = x.cells ++ cellsE L := by simp [cellsE]
    rw [h2, List.length_append, ih, List.length_cons, show x.cells.length = 5 from rfl]; omega
theorem cellsE_get : ∀ (L : List EE) (k : Nat) (x : EE), L[k]? = some x → ∀ j u, x.cells[j]? = some u → (cellsE L)[k * 5 + j]? = some u
  | [], k, x, h => by simp at h
  | y :: L, 0, x, h => by
    have h : y = x := by simpa using h
    subst h
    intro j u hu
    have hl : j < y.cells.length := by
      by_cases hj : j < y.cells.length
      · exact hj
      · rw [List.getElem?_eq_none (by omega)] at hu; cases hu
    have h2 : cellsE (y :: L) = y.cells ++ cellsE L := by simp [cellsE]
    rw [h2, List.getElem?_append_left (by omega), Nat.zero_mul, Nat.zero_add]
    exact hu
  | y :: L, k + 1, x, h => by
    intro j u hu
    have h1 := cellsE_get L k x (by simpa using h) j u hu
    have h2 : cellsE (y :: L) = y.cells ++ cellsE L := by simp [cellsE]
    have h3 : y.cells.length = 5 := rfl
    rw [h2, List.getElem?_append_right (by omega), h3, show (k + 1) * 5 + j - 5 = k * 5 + j by omega]
    exact h1
/-- entries that the call owns, read as a list -/
theorem Kn.rlE {w0 w : World} {m : List Ent} {vt : Value} {L : List EE} (h : Kn w0 (.row vt 66 5 L.length (cellsE L) :: bunA (rowsE L) :: m) w) :
    ∃ A c, vt = .slice A L.length c ∧ RL EtrM 5 w A L.length (L.map (·.t)) := by
  obtain ⟨A, c, rfl⟩ := row_form h.at0
  refine ⟨A, c, rfl, by rw [List.length_map], fun h0 => ?_⟩
  have hr : w.ownsRow 0 66 5 (.slice A L.length c) L.length (cellsE L) := h.at0
  rcases hr.2 with ⟨hv, hn⟩ | ⟨g, cap, cur, hv, -, hg, -⟩
  · injection hv with h1 h2 h3
    omega
  · injection hv with h1 h2 h3
    refine ⟨_, h1, (Array.getElem?_eq_some_iff.1 hg).1, fun k hk => ?_⟩
    have hk' : k < L.length := by rw [List.length_map] at hk; exact hk
    rw [List.getElem_map]
    have hx : L[k]? = some L[k] := List.getElem?_eq_getElem hk'
    have hm : L[k].row ∈ rowsE L := List.mem_map.2 ⟨_, List.getElem_mem hk', rfl⟩
    have r1 := (Kn.rlSN ((h.front 1 rfl).bunAPick hm)).2
    rw [h1] at hr
    have hc : ∀ j u, (L[k].cells)[j]? = some u → w.cell? ⟨g, k * 5 + j, none⟩ = some u := fun j u hu => by
      have hq := hr.cells (g := g) rfl _ _ (cellsE_get L k _ hx j u hu)
      rw [add_zero_block] at hq
      exact hq
    rw [add_zero_block]
    exact ⟨_, _, Kn.noneCap ((h.front 1 rfl).bunAPick hm), ⟨hc 0 _ rfl, hc 1 _ rfl, hc 2 _ rfl, hc 3 _ rfl, hc 4 _ rfl⟩, r1⟩
end Go.Proofs.Ytmmiahgmdllgdaa

namespace Go.Proofs.Ytmmiahgmdllgdaa
open Go.RowKit Go.Sort
/-! names -/
def smallB (b : UInt8) : Bool := decide (97 ≤ b.toNat) && decide (b.toNat ≤ 122)
def nmB (i : Nat) (b : UInt8) : Bool := smallB b || (decide (i ≠ 0) && (decide (b.toNat = 45) || isD b))
def nameP (bs : List UInt8) (k : Nat) : Bool := (List.range k).all fun i => nmB i (bs.getD i 0)
def nameOk (bs : List UInt8) : Bool := decide (1 ≤ bs.length) && decide (bs.length ≤ 12) && nameP bs bs.length
theorem nameP_succ (bs : List UInt8) (k : Nat) : nameP bs (k + 1) = (nameP bs k && nmB k (bs.getD k 0)) := by
  unfold nameP
  rw [List.range_succ, List.all_append]; simp
theorem nameP_not {bs : List UInt8} {k n : Nat} (h : k < n) (h0 : nmB k (bs.getD k 0) = false) : nameP bs n = false := by
  unfold nameP
  rw [List.all_eq_false]
  exact ⟨k, List.mem_range.2 h, by simpa using h0⟩
theorem l01Small_any (b : UInt8) (w : World) : Calls Try.prog 128 #[.int .u8 (b.toNat : Int)] w fun e w' => e = .returned (.bool (smallB b)) ∧ w = w' := by
  obtain ⟨z, hz⟩ : ∃ z : Nat, b.toNat = z := ⟨_, rfl⟩
  have HB := Lib.hid (show smallB b = (decide (97 ≤ z) && decide (z ≤ 122)) by unfold smallB; rw [hz])
  rw [hz]
  clear hz
  by_cases h1 : 97 ≤ z
  · by_cases h2 : z ≤ 122
    · have i1 : (97 : Int) ≤ (z : Int) := by omega
      have i2 : (z : Int) ≤ 122 := by omega
      go_enter Try.func128, Try.ntmps128
      go_wp2
      go_ret
      exact ⟨ret_bool (by rw [HB.out, decide_eq_true h1, decide_eq_true h2]; rfl), rfl⟩
    · have i1 : ¬ (z : Int) < 97 := by omega
      have i2 : ¬ (z : Int) ≤ 122 := by omega
      go_enter Try.func128, Try.ntmps128
      go_wp2
      go_ret
      exact ⟨ret_bool (by rw [HB.out, decide_eq_true h1, decide_eq_false h2]; rfl), rfl⟩
  · have i1 : (z : Int) < 97 := by omega
    go_enter Try.func128, Try.ntmps128
    go_wp2
    go_ret
    exact ⟨ret_bool (by rw [HB.out, decide_eq_false h1]; rfl), rfl⟩
set_option maxHeartbeats 1600000 in
theorem IsName_any (s : ByteArray) (w : World) (hs : s.size ≤ 9223372036854775807) :
    Calls Try.prog 118 #[.string s] w fun e w' => e = .returned (.bool (nameOk (strB s))) ∧ w = w' := by
  have HXL := Lib.hid (strB_len s)
  have HR := Lib.hid (show nameOk (strB s) = (decide (1 ≤ s.size) && decide (s.size ≤ 12) && nameP (strB s) s.size) by unfold nameOk; rw [strB_len])
  obtain ⟨R, hR⟩ : ∃ R, nameOk (strB s) = R := ⟨_, rfl⟩
  rw [hR] at HR ⊢
  clear hR
  by_cases h0 : s.size = 0
  · have i1 : (s.size : Int) = 0 := by omega
    go_enter Try.func118, Try.ntmps118
    go_wp2
    go_ret
    exact ⟨ret_bool (by rw [HR.out, h0]; rfl), rfl⟩
  by_cases h12 : s.size ≤ 12
  rotate_left
  · have i1 : ¬ (s.size : Int) = 0 := by omega
    have i2 : ¬ (s.size : Int) ≤ 12 := by omega
    go_enter Try.func118, Try.ntmps118
    go_wp2
    go_ret
    exact ⟨ret_bool (by rw [HR.out, decide_eq_false h12]; simp), rfl⟩
  have i1 : ¬ (s.size : Int) = 0 := by omega
  have i2 : ¬ (12 : Int) < (s.size : Int) := by omega
  go_enter Try.func118, Try.ntmps118
  go_wp2_with fail
  go_loopw [15] (fun ii wr => ∃ k : Nat, k ≤ s.size ∧ ii = .int .i64 k ∧ nameP (strB s) k = true ∧ w = wr) (fun ii _ => s.size - (intOf ii).toNat)
  case atStart => exact ⟨0, Nat.zero_le _, rfl, rfl, rfl⟩
  case round =>
    obtain ⟨k, hk, rfl, hall, rfl⟩ := hrel
    have HA := Lib.hid hall
    clear hall
    by_cases hkn : k < s.size
    · obtain ⟨q, hq⟩ : ∃ q : UInt8, s[k] = q := ⟨_, rfl⟩
      obtain ⟨z, hz⟩ : ∃ z : Nat, q.toNat = z := ⟨_, rfl⟩
      have hg : (strB s).getD k 0 = q := by
        rw [List.getD_eq_getElem?_getD, List.getElem?_eq_getElem (by rw [strB_len]; exact hkn), ← hq]
        show (strB s)[k] = s[k]
        rw [strB_get s hkn]
        rfl
      have HT := Lib.hid (show nameP (strB s) (k + 1) = (nameP (strB s) k && nmB k q) by rw [nameP_succ, hg])
      have HNOT := Lib.hid (fun (h : nmB k q = false) => show nameP (strB s) s.size = false from nameP_not hkn (by rw [hg]; exact h))
      have HB := Lib.hid (show nmB k q = ((decide (97 ≤ z) && decide (z ≤ 122)) || (decide (k ≠ 0) && (decide (z = 45) || isD q))) by unfold nmB smallB; rw [hz])
      have KD := (fun W => isDigit_any z q hz W)
      have i0 : (0 : Int) ≤ (k : Int) := by omega
      have i3 : (k : Int) < (s.size : Int) := by omega
      clear hg
      by_cases h1 : 97 ≤ z ∧ z ≤ 122
      · have j1 : ¬ (z : Int) < 97 := by omega
        have j2 : ¬ (122 : Int) < (z : Int) := by omega
        have HNM := Lib.hid (show nmB k q = true by rw [HB.out, decide_eq_true h1.1, decide_eq_true h1.2]; rfl)
        go_wp2_with (first | (go_at_call 130; refine (KD _).mono ?_; rintro e w' ⟨rfl, rfl⟩) | (go_at_call 129; refine (KG _).mono ?_; rintro e w' ⟨rfl, rfl⟩) | (go_at_call 128; refine (KS _).mono ?_; rintro e w' ⟨rfl, rfl⟩))
        go_roundw
        case rel => exact ⟨k + 1, by omega, by go_num, by rw [HT.out, HA.out, HNM.out]; rfl, by first | rfl | trivial⟩
        case measure => simp [intOf]; omega
      · have HS : Hid ((decide (97 ≤ z) && decide (z ≤ 122)) = false) := by
          simp only [Hid, Bool.and_eq_false_iff, decide_eq_false_iff_not]; omega
        have hj : (z : Int) < 97 ∨ ¬ (z : Int) ≤ 122 := by omega
        rcases Nat.eq_zero_or_pos k with hk0 | hk0
        · subst hk0
          have HNM := Lib.hid (show nmB 0 q = false by rw [HB.out, HS.out]; rfl)
          rcases hj with j1 | j1
          · go_wp2_with (first | (go_at_call 130; refine (KD _).mono ?_; rintro e w' ⟨rfl, rfl⟩) | (go_at_call 129; refine (KG _).mono ?_; rintro e w' ⟨rfl, rfl⟩) | (go_at_call 128; refine (KS _).mono ?_; rintro e w' ⟨rfl, rfl⟩))
            go_ret
            exact ⟨ret_bool (by rw [HR.out, HNOT.out HNM.out]; simp), rfl⟩
          · have j2 : ¬ (z : Int) < 97 := by omega
            go_wp2_with (first | (go_at_call 130; refine (KD _).mono ?_; rintro e w' ⟨rfl, rfl⟩) | (go_at_call 129; refine (KG _).mono ?_; rintro e w' ⟨rfl, rfl⟩) | (go_at_call 128; refine (KS _).mono ?_; rintro e w' ⟨rfl, rfl⟩))
            go_ret
            exact ⟨ret_bool (by rw [HR.out, HNOT.out HNM.out]; simp), rfl⟩
        · have hk1 : ¬ (k : Int) = 0 := by omega
          by_cases h45 : z = 45
          · have HNM := Lib.hid (show nmB k q = true by rw [HB.out, HS.out, decide_eq_true (by omega : k ≠ 0), decide_eq_true h45]; rfl)
            have j3 : (z : Int) = 45 := by omega
            have j1 : (z : Int) < 97 := by omega
            go_wp2_with (first | (go_at_call 130; refine (KD _).mono ?_; rintro e w' ⟨rfl, rfl⟩) | (go_at_call 129; refine (KG _).mono ?_; rintro e w' ⟨rfl, rfl⟩) | (go_at_call 128; refine (KS _).mono ?_; rintro e w' ⟨rfl, rfl⟩))
            go_roundw
            case rel => exact ⟨k + 1, by omega, by go_num, by rw [HT.out, HA.out, HNM.out]; rfl, by first | rfl | trivial⟩
            case measure => simp [intOf]; omega
          · have j3 : ¬ (z : Int) = 45 := by omega
            have j4 : ((z : Int) != 45) = true := by simpa using j3
            rcases hd : isD q with _ | _
            · have HNM := Lib.hid (show nmB k q = false by rw [HB.out, HS.out, decide_eq_true (by omega : k ≠ 0), decide_eq_false h45, hd]; rfl)
              rw [hd] at KD
              rcases hj with j1 | j1
              · go_wp2_with (first | (go_at_call 130; refine (KD _).mono ?_; rintro e w' ⟨rfl, rfl⟩) | (go_at_call 129; refine (KG _).mono ?_; rintro e w' ⟨rfl, rfl⟩) | (go_at_call 128; refine (KS _).mono ?_; rintro e w' ⟨rfl, rfl⟩))
                go_ret
                exact ⟨ret_bool (by rw [HR.out, HNOT.out HNM.out]; simp), rfl⟩
              · have j2 : ¬ (z : Int) < 97 := by omega
                go_wp2_with (first | (go_at_call 130; refine (KD _).mono ?_; rintro e w' ⟨rfl, rfl⟩) | (go_at_call 129; refine (KG _).mono ?_; rintro e w' ⟨rfl, rfl⟩) | (go_at_call 128; refine (KS _).mono ?_; rintro e w' ⟨rfl, rfl⟩))
                go_ret
                exact ⟨ret_bool (by rw [HR.out, HNOT.out HNM.out]; simp), rfl⟩
            · have HNM := Lib.hid (show nmB k q = true by rw [HB.out, HS.out, decide_eq_true (by omega : k ≠ 0), decide_eq_false h45, hd]; rfl)
              rw [hd] at KD
              rcases hj with j1 | j1
              · go_wp2_with (first | (go_at_call 130; refine (KD _).mono ?_; rintro e w' ⟨rfl, rfl⟩) | (go_at_call 129; refine (KG _).mono ?_; rintro e w' ⟨rfl, rfl⟩) | (go_at_call 128; refine (KS _).mono ?_; rintro e w' ⟨rfl, rfl⟩))
                go_roundw
                case rel => exact ⟨k + 1, by omega, by go_num, by rw [HT.out, HA.out, HNM.out]; rfl, by first | rfl | trivial⟩
                case measure => simp [intOf]; omega
              · have j2 : ¬ (z : Int) < 97 := by omega
                go_wp2_with (first | (go_at_call 130; refine (KD _).mono ?_; rintro e w' ⟨rfl, rfl⟩) | (go_at_call 129; refine (KG _).mono ?_; rintro e w' ⟨rfl, rfl⟩) | (go_at_call 128; refine (KS _).mono ?_; rintro e w' ⟨rfl, rfl⟩))
                go_roundw
                case rel => exact ⟨k + 1, by omega, by go_num, by rw [HT.out, HA.out, HNM.out]; rfl, by first | rfl | trivial⟩
                case measure => simp [intOf]; omega
    · obtain rfl : k = s.size := by omega
      have i3 : ¬ (s.size : Int) < (s.size : Int) := by omega
      go_wp2
      go_ret
      exact ⟨ret_bool (by rw [HR.out, HA.out, decide_eq_true h12, decide_eq_true (by omega)]; rfl), rfl⟩
set_option maxHeartbeats 1600000 in
theorem specIsName_any (s : ByteArray) (w : World) (hs : s.size ≤ 9223372036854775807) :
    Calls Try.prog 116 #[.string s] w fun e w' => e = .returned (.bool (nameOk (strB s))) ∧ w = w' := by
  have HXL := Lib.hid (strB_len s)
  have HR := Lib.hid (show nameOk (strB s) = (decide (1 ≤ s.size) && decide (s.size ≤ 12) && nameP (strB s) s.size) by unfold nameOk; rw [strB_len])
  have HE : s.toList.isEmpty = decide (s.size = 0) := by
    rw [strB_toList, ← strB_len]
    cases strB s <;> simp
  obtain ⟨R, hR⟩ : ∃ R, nameOk (strB s) = R := ⟨_, rfl⟩
  rw [hR] at HR ⊢
  clear hR
  by_cases h0 : s.size = 0
  · have i1 : (s.size : Int) = 0 := by omega
    rw [decide_eq_true h0] at HE
    go_enter Try.func116, Try.ntmps116
    go_wp2_with fail
    go_ret
    exact ⟨ret_bool (by rw [HR.out, h0]; rfl), rfl⟩
  rw [decide_eq_false h0] at HE
  by_cases h12 : s.size ≤ 12
  rotate_left
  · have i1 : ¬ (s.size : Int) = 0 := by omega
    have i2 : ¬ (s.size : Int) ≤ 12 := by omega
    go_enter Try.func116, Try.ntmps116
    go_wp2_with fail
    go_ret
    exact ⟨ret_bool (by rw [HR.out, decide_eq_false h12]; simp), rfl⟩
  have i1 : ¬ (s.size : Int) = 0 := by omega
  have i2 : ¬ (12 : Int) < (s.size : Int) := by omega
  have hpos : 0 < s.size := by omega
  have hposi : (0 : Int) < (s.size : Int) := by omega
  obtain ⟨q0, hq0⟩ : ∃ q : UInt8, s[0] = q := ⟨_, rfl⟩
  obtain ⟨z0, hz0⟩ : ∃ z : Nat, q0.toNat = z := ⟨_, rfl⟩
  have hg0 : (strB s).getD 0 0 = q0 := by
    rw [List.getD_eq_getElem?_getD, List.getElem?_eq_getElem (by rw [strB_len]; exact hpos), ← hq0]
    show (strB s)[0] = s[0]
    rw [strB_get s hpos]
    rfl
  have KS0 := (fun W => l01Small_any q0 W)
  rw [hz0] at KS0
  have HN0 := Lib.hid (fun (h : smallB q0 = false) => show nameP (strB s) s.size = false from nameP_not hpos (by rw [hg0]; unfold nmB; rw [h]; rfl))
  clear hg0
  obtain ⟨b0, hb0⟩ : ∃ b, smallB q0 = b := ⟨_, rfl⟩
  have HB0 := Lib.hid hb0
  rw [hb0] at KS0 HN0
  clear hb0
  rcases b0 with _ | _
  · go_enter Try.func116, Try.ntmps116
    go_wp2_with (go_at_call 128; refine (KS0 _).mono ?_; rintro e w' ⟨rfl, rfl⟩)
    go_ret
    exact ⟨ret_bool (by rw [HR.out, HN0.out trivial]; simp), rfl⟩
  clear HN0
  go_enter Try.func116, Try.ntmps116
  go_wp2_with (go_at_call 128; refine (KS0 _).mono ?_; rintro e w' ⟨rfl, rfl⟩)
  go_loopw [3] (fun ii wr => ∃ k : Nat, k ≤ s.size ∧ ii = .int .i64 k ∧ nameP (strB s) k = true ∧ w = wr) (fun ii _ => s.size - (intOf ii).toNat)
  case atStart => exact ⟨0, Nat.zero_le _, rfl, rfl, rfl⟩
  case round =>
    obtain ⟨k, hk, rfl, hall, rfl⟩ := hrel
    have HA := Lib.hid hall
    clear hall
    by_cases hkn : k < s.size
    · obtain ⟨q, hq⟩ : ∃ q : UInt8, s[k] = q := ⟨_, rfl⟩
      have HQ0 := Lib.hid (fun (h : k = 0) => show q = q0 by subst h; rw [← hq, ← hq0])
      clear hq0 hz0 KS0
      obtain ⟨z, hz⟩ : ∃ z : Nat, q.toNat = z := ⟨_, rfl⟩
      have hg : (strB s).getD k 0 = q := by
        rw [List.getD_eq_getElem?_getD, List.getElem?_eq_getElem (by rw [strB_len]; exact hkn), ← hq]
        show (strB s)[k] = s[k]
        rw [strB_get s hkn]
        rfl
      have HT := Lib.hid (show nameP (strB s) (k + 1) = (nameP (strB s) k && nmB k q) by rw [nameP_succ, hg])
      have HNOT := Lib.hid (fun (h : nmB k q = false) => show nameP (strB s) s.size = false from nameP_not hkn (by rw [hg]; exact h))
      have HB := Lib.hid (show nmB k q = (smallB q || (decide (k ≠ 0) && (decide (z = 45) || isD q))) by unfold nmB; rw [hz])
      have KG := (fun W => l01Digit_any z q hz W)
      have KS := (fun W => l01Small_any q W)
      rw [hz] at KS
      have i0 : (0 : Int) ≤ (k : Int) := by omega
      have i3 : (k : Int) < (s.size : Int) := by omega
      clear hg
      rcases hs1 : smallB q with _ | _
      rotate_left
      · have HNM := Lib.hid (show nmB k q = true by rw [HB.out, hs1]; rfl)
        rw [hs1] at KS
        go_wp2_with (first | (go_at_call 130; refine (KD _).mono ?_; rintro e w' ⟨rfl, rfl⟩) | (go_at_call 129; refine (KG _).mono ?_; rintro e w' ⟨rfl, rfl⟩) | (go_at_call 128; refine (KS _).mono ?_; rintro e w' ⟨rfl, rfl⟩))
        go_roundw
        case rel => exact ⟨k + 1, by omega, by go_num, by rw [HT.out, HA.out, HNM.out]; rfl, by first | rfl | trivial⟩
        case measure => simp [intOf]; omega
      · have hk1 : k ≠ 0 := fun h => by
          have h1 := HQ0.out h
          rw [h1, HB0.out] at hs1
          cases hs1
        rw [hs1] at KS
        by_cases h45 : z = 45
        · have HNM := Lib.hid (show nmB k q = true by rw [HB.out, hs1, decide_eq_true hk1, decide_eq_true h45]; rfl)
          have e45 : ((45 : Nat) : Int) = 45 := rfl
          have HNM := HNM
          subst h45
          rw [e45] at KS KG
          clear e45
          rcases hd : isD q with _ | _
          · rw [hd] at KG
            go_wp2_with (first | (go_at_call 130; refine (KD _).mono ?_; rintro e w' ⟨rfl, rfl⟩) | (go_at_call 129; refine (KG _).mono ?_; rintro e w' ⟨rfl, rfl⟩) | (go_at_call 128; refine (KS _).mono ?_; rintro e w' ⟨rfl, rfl⟩))
            go_roundw
            case rel => exact ⟨k + 1, by omega, by go_num, by rw [HT.out, HA.out, HNM.out]; rfl, by first | rfl | trivial⟩
            case measure => simp [intOf]; omega
          · rw [hd] at KG
            go_wp2_with (first | (go_at_call 130; refine (KD _).mono ?_; rintro e w' ⟨rfl, rfl⟩) | (go_at_call 129; refine (KG _).mono ?_; rintro e w' ⟨rfl, rfl⟩) | (go_at_call 128; refine (KS _).mono ?_; rintro e w' ⟨rfl, rfl⟩))
            go_roundw
            case rel => exact ⟨k + 1, by omega, by go_num, by rw [HT.out, HA.out, HNM.out]; rfl, by first | rfl | trivial⟩
            case measure => simp [intOf]; omega
        · have j3 : ¬ (z : Int) = 45 := by omega
          have j4 : ((z : Int) != 45) = true := by simpa using j3
          rcases hd : isD q with _ | _
          · have HNM := Lib.hid (show nmB k q = false by rw [HB.out, hs1, decide_eq_true hk1, decide_eq_false h45, hd]; rfl)
            rw [hd] at KG
            go_wp2_with (first | (go_at_call 130; refine (KD _).mono ?_; rintro e w' ⟨rfl, rfl⟩) | (go_at_call 129; refine (KG _).mono ?_; rintro e w' ⟨rfl, rfl⟩) | (go_at_call 128; refine (KS _).mono ?_; rintro e w' ⟨rfl, rfl⟩))
            go_ret
            exact ⟨ret_bool (by rw [HR.out, HNOT.out HNM.out]; simp), rfl⟩
          · have HNM := Lib.hid (show nmB k q = true by rw [HB.out, hs1, decide_eq_true hk1, decide_eq_false h45, hd]; rfl)
            rw [hd] at KG
            go_wp2_with (first | (go_at_call 130; refine (KD _).mono ?_; rintro e w' ⟨rfl, rfl⟩) | (go_at_call 129; refine (KG _).mono ?_; rintro e w' ⟨rfl, rfl⟩) | (go_at_call 128; refine (KS _).mono ?_; rintro e w' ⟨rfl, rfl⟩))
            go_roundw
            case rel => exact ⟨k + 1, by omega, by go_num, by rw [HT.out, HA.out, HNM.out]; rfl, by first | rfl | trivial⟩
            case measure => simp [intOf]; omega
    · obtain rfl : k = s.size := by omega
      have i3 : ¬ (s.size : Int) < (s.size : Int) := by omega
      go_wp2
      go_ret
      exact ⟨ret_bool (by rw [HR.out, HA.out, decide_eq_true h12, decide_eq_true (by omega)]; rfl), rfl⟩
end Go.Proofs.Ytmmiahgmdllgdaa

namespace Go.Proofs.Ytmmiahgmdllgdaa
open Go.RowKit Go.ChangeShapes Go.WideShapes Go.ChangeAt
section
variable {H : Type} {enc : TypeId × Value → H} {w : World} {base : Nat} {spare : Nat → Bool} {held : Bool} {fuel : Nat} {cs : List Value} {x : DataW H × List MemPlace}
theorem cellsI64 : Try.prog.cellsOf 2 = 1 := by kernel_rfl
theorem cellsInts : Try.prog.cellsOf 24 = 1 := by kernel_rfl
theorem rd_i64 (h : DataW.trod enc Try.prog w base spare held fuel 2 cs = some x) : ∃ n, cs = [.int .i64 n] ∧ -9223372036854775808 ≤ n ∧ n ≤ 9223372036854775807 := by
  obtain ⟨n, rfl, _, hw⟩ := DataW.trod_int Try.underlying2 h
  refine ⟨n, rfl, ?_⟩
  have h1 : IntKind.i64.min = -9223372036854775808 := by decide
  have h2 : IntKind.i64.max = 9223372036854775807 := by decide
  simp [Lit.wf] at hw
  omega
theorem rd_ints (h : DataW.trod enc Try.prog w base spare held fuel 24 cs = some x) : ∃ A n c ds, cs = [.slice A n c] ∧ RI w A n ds ∧ n ≤ 9223372036854775807 := by
  rcases open_ints Try.underlying24 Try.underlying2 cellsI64 h with ⟨rfl, _⟩ | ⟨a, len, cap, zs, rfl, _, hl, hm, hz, _, hcell, _⟩
  · exact ⟨none, 0, 0, [], rfl, ⟨rfl, fun h => absurd h (by omega)⟩, by omega⟩
  · have hlen : len ≤ zs.length := by rw [hz]; split <;> omega
    refine ⟨some a, len, cap, zs.take len, rfl, ⟨by simp; omega, fun h0 => ⟨a, rfl, ?_, fun j u hu => ?_⟩⟩, by simp only [maxLen] at hm; omega⟩
    · have := World.block_lt_of_cell? w _ (hcell 0 (by omega)); rwa [block_of_add] at this
    · rw [List.getElem?_take] at hu
      split at hu
      · rw [hcell j (by omega)]; simp [List.getD, hu]
      · cases hu
end
end Go.Proofs.Ytmmiahgmdllgdaa

namespace Go.Proofs.Ytmmiahgmdllgdaa
open Go.RowKit Go.ChangeShapes Go.WideShapes Go.ChangeAt
section
variable {H : Type} {enc : TypeId × Value → H} {w : World} {base : Nat} {spare : Nat → Bool} {held : Bool} {fuel : Nat} {cs : List Value} {x : DataW H × List MemPlace}
end
end Go.Proofs.Ytmmiahgmdllgdaa

namespace Go.Proofs.Ytmmiahgmdllgdaa
open Go.RowKit Go.Sort
/-! entries, plainly -/
def ltB (a b : ByteArray) : Bool := Op.bytesLess a.toList b.toList
theorem leL : ∀ (a b : List UInt8), (Op.bytesLess b a || (b == a)) = !(Op.bytesLess a b)
  | [], [] => by simp [Op.bytesLess]
  | [], y :: ys => by simp [Op.bytesLess]
  | x :: xs, [] => by simp [Op.bytesLess]
  | x :: xs, y :: ys => by
    have h := leL xs ys
    by_cases h1 : x < y
    · have h2 : ¬ y < x := fun h2 => absurd (UInt8.lt_trans h1 h2) (UInt8.lt_irrefl x)
      have h3 : ¬ y = x := fun h3 => by rw [h3] at h1; exact absurd h1 (UInt8.lt_irrefl x)
      simp [Op.bytesLess, h1, h2, h3]
    · by_cases h3 : y = x
      · subst h3
        simp only [Op.bytesLess, UInt8.lt_irrefl, decide_false, Bool.false_or, beq_self_eq_true, Bool.true_and]
        rw [← h]
        simp
      · have h2 : y < x := by
          rcases UInt8.lt_or_lt_of_ne h3 with h4 | h4
          · exact h4
          · exact absurd h4 h1
        have h4 : ¬ x = y := fun e => h3 e.symm
        simp [Op.bytesLess, h1, h2, h3, h4]
theorem leB (a b : ByteArray) : (Op.bytesLess b.toList a.toList || (b.toList == a.toList)) = !(ltB a b) := leL a.toList b.toList
def wordAt (ws : List ByteArray) (k : Nat) : Bool := nameOk (strB (ws.getD k ⟨#[]⟩)) && (decide (k = 0) || ltB (ws.getD (k - 1) ⟨#[]⟩) (ws.getD k ⟨#[]⟩))
def wordsP (ws : List ByteArray) (k : Nat) : Bool := (List.range k).all (wordAt ws)
theorem wordsP_succ (ws : List ByteArray) (k : Nat) : wordsP ws (k + 1) = (wordsP ws k && wordAt ws k) := by
  unfold wordsP
  rw [List.range_succ, List.all_append]; simp
theorem wordsP_not {ws : List ByteArray} {k n : Nat} (h : k < n) (h0 : wordAt ws k = false) : wordsP ws n = false := by
  unfold wordsP
  rw [List.all_eq_false]
  exact ⟨k, List.mem_range.2 h, by simpa using h0⟩
def etrHead (x : Etr) : Bool := (((betB x.num 1 1000000 && nameOk (strB x.name)) && nameOk (strB x.maker)) && betB x.year 1000 3000) && decide (x.words.length ≤ 8)
def etrOk (x : Etr) : Bool := etrHead x && wordsP x.words x.words.length
structure SmE (x : Etr) : Prop where
  name : x.name.size ≤ 9223372036854775807
  maker : x.maker.size ≤ 9223372036854775807
  words : ∀ s ∈ x.words, s.size ≤ 9223372036854775807
  len : x.words.length ≤ 9223372036854775807
set_option maxRecDepth 100000 in
set_option maxHeartbeats 3200000 in
theorem validEntry_any (x : Etr) (A : Option Addr) (c : Nat) (w : World) (hr : RL StrM 1 w A x.words.length x.words) (hz : SmE x) :
    Calls Try.prog 82 #[.agg #[.int .i64 x.num, .string x.name, .string x.maker, .int .i64 x.year, .slice A x.words.length c]] w fun e w' => e = .returned (.bool (etrOk x)) ∧ Below w.heap.size w w' := by
  have K1 := (fun W => between_any x.num 1 1000000 W)
  have K2 := (fun W => IsName_any x.name W hz.name)
  have K3 := (fun W => IsName_any x.maker W hz.maker)
  have K4 := (fun W => between_any x.year 1000 3000 W)
  have HE := Lib.hid (show etrOk x = ((((((betB x.num 1 1000000 && nameOk (strB x.name)) && nameOk (strB x.maker)) && betB x.year 1000 3000) && decide (x.words.length ≤ 8))) && wordsP x.words x.words.length) from rfl)
  have HR := Lib.hid (fun W (hW : Below w.heap.size w W) => hr.below steady_StrM hW)
  have HW := Lib.hid hz.words
  have hlen := hz.len
  obtain ⟨R, hR⟩ : ∃ R, etrOk x = R := ⟨_, rfl⟩
  rw [hR] at HE ⊢
  obtain ⟨b1, hb1⟩ : ∃ b, betB x.num 1 1000000 = b := ⟨_, rfl⟩
  obtain ⟨b2, hb2⟩ : ∃ b, nameOk (strB x.name) = b := ⟨_, rfl⟩
  obtain ⟨b3, hb3⟩ : ∃ b, nameOk (strB x.maker) = b := ⟨_, rfl⟩
  obtain ⟨b4, hb4⟩ : ∃ b, betB x.year 1000 3000 = b := ⟨_, rfl⟩
  simp only [hb1, hb2, hb3, hb4] at K1 K2 K3 K4 HE
  clear hR hb1 hb2 hb3 hb4 hr hz
  replace K1 := Lib.hid K1
  replace K2 := Lib.hid K2
  replace K3 := Lib.hid K3
  replace K4 := Lib.hid K4
  have hK := (Kn.nil w).al [.int .i64 x.num, .string x.name, .string x.maker, .int .i64 x.year, .slice A x.words.length c] 66
  obtain ⟨g, hg⟩ : ∃ g, w.heap.size = g := ⟨_, rfl⟩
  rw [hg] at hK
  go_enter Try.func82, Try.ntmps82
  go_upto_region 1 with fail
  try rw [hg]
  refine Code.wp.kn hK ?_; clear hK hg; intro w1 hK
  obtain ⟨a1, a2, a3⟩ := hK.blkAt
  have HB := Lib.hid hK.below
  rcases b1 with _ | _
  · go_wp2_with (first | (go_at_call 74; first | ((with_reducible refine (K1.out _).mono ?_); rintro e w' ⟨rfl, hww⟩; obtain rfl := hww) | ((with_reducible refine (K4.out _).mono ?_); rintro e w' ⟨rfl, hww⟩; obtain rfl := hww)) | (go_at_call 118; first | ((with_reducible refine (K2.out _).mono ?_); rintro e w' ⟨rfl, hww⟩; obtain rfl := hww) | ((with_reducible refine (K3.out _).mono ?_); rintro e w' ⟨rfl, hww⟩; obtain rfl := hww)))
    go_ret
    exact ⟨ret_bool (by rw [HE.out]; rfl), HB.out⟩
  rcases b2 with _ | _
  · go_wp2_with (first | (go_at_call 74; first | ((with_reducible refine (K1.out _).mono ?_); rintro e w' ⟨rfl, hww⟩; obtain rfl := hww) | ((with_reducible refine (K4.out _).mono ?_); rintro e w' ⟨rfl, hww⟩; obtain rfl := hww)) | (go_at_call 118; first | ((with_reducible refine (K2.out _).mono ?_); rintro e w' ⟨rfl, hww⟩; obtain rfl := hww) | ((with_reducible refine (K3.out _).mono ?_); rintro e w' ⟨rfl, hww⟩; obtain rfl := hww)))
    go_ret
    exact ⟨ret_bool (by rw [HE.out]; rfl), HB.out⟩
  rcases b3 with _ | _
  · go_wp2_with (first | (go_at_call 74; first | ((with_reducible refine (K1.out _).mono ?_); rintro e w' ⟨rfl, hww⟩; obtain rfl := hww) | ((with_reducible refine (K4.out _).mono ?_); rintro e w' ⟨rfl, hww⟩; obtain rfl := hww)) | (go_at_call 118; first | ((with_reducible refine (K2.out _).mono ?_); rintro e w' ⟨rfl, hww⟩; obtain rfl := hww) | ((with_reducible refine (K3.out _).mono ?_); rintro e w' ⟨rfl, hww⟩; obtain rfl := hww)))
    go_ret
    exact ⟨ret_bool (by rw [HE.out]; rfl), HB.out⟩
  rcases b4 with _ | _
  · go_wp2_with (first | (go_at_call 74; first | ((with_reducible refine (K1.out _).mono ?_); rintro e w' ⟨rfl, hww⟩; obtain rfl := hww) | ((with_reducible refine (K4.out _).mono ?_); rintro e w' ⟨rfl, hww⟩; obtain rfl := hww)) | (go_at_call 118; first | ((with_reducible refine (K2.out _).mono ?_); rintro e w' ⟨rfl, hww⟩; obtain rfl := hww) | ((with_reducible refine (K3.out _).mono ?_); rintro e w' ⟨rfl, hww⟩; obtain rfl := hww)))
    go_ret
    exact ⟨ret_bool (by rw [HE.out]; rfl), HB.out⟩
  by_cases h8 : x.words.length ≤ 8
  rotate_left
  · have i8 : (8 : Int) < (x.words.length : Int) := by omega
    go_wp2_with (first | (go_at_call 74; first | ((with_reducible refine (K1.out _).mono ?_); rintro e w' ⟨rfl, hww⟩; obtain rfl := hww) | ((with_reducible refine (K4.out _).mono ?_); rintro e w' ⟨rfl, hww⟩; obtain rfl := hww)) | (go_at_call 118; first | ((with_reducible refine (K2.out _).mono ?_); rintro e w' ⟨rfl, hww⟩; obtain rfl := hww) | ((with_reducible refine (K3.out _).mono ?_); rintro e w' ⟨rfl, hww⟩; obtain rfl := hww)))
    go_ret
    exact ⟨ret_bool (by rw [HE.out, decide_eq_false h8]; rfl), HB.out⟩
  have i8 : ¬ (8 : Int) < (x.words.length : Int) := by omega
  have HE2 := Lib.hid (show R = wordsP x.words x.words.length by rw [HE.out, decide_eq_true h8]; simp)
  clear HE
  go_wp2_with (first | (go_at_call 74; first | ((with_reducible refine (K1.out _).mono ?_); rintro e w' ⟨rfl, hww⟩; obtain rfl := hww) | ((with_reducible refine (K4.out _).mono ?_); rintro e w' ⟨rfl, hww⟩; obtain rfl := hww)) | (go_at_call 118; first | ((with_reducible refine (K2.out _).mono ?_); rintro e w' ⟨rfl, hww⟩; obtain rfl := hww) | ((with_reducible refine (K3.out _).mono ?_); rintro e w' ⟨rfl, hww⟩; obtain rfl := hww)))
  clear K1 K2 K3 K4
  go_loopw [36] (fun ii wr => ∃ k : Nat, k ≤ x.words.length ∧ ii = .int .i64 k ∧ Hid (wordsP x.words k = true) ∧ w1 = wr) (fun ii _ => x.words.length - (intOf ii).toNat)
  case atStart => exact ⟨0, Nat.zero_le _, rfl, Lib.hid rfl, rfl⟩
  case round =>
    obtain ⟨k, hk, rfl, HA, rfl⟩ := hrel
    by_cases hkn : k < x.words.length
    · obtain ⟨ad, hA, hlt, hkl, hx⟩ := (HR.out _ HB.out).at_ hkn
      unfold StrM at hx
      rw [Nat.mul_one] at hx
      have hzx := HW.out _ (List.getElem_mem hkl)
      have hgd : x.words.getD k ⟨#[]⟩ = x.words[k] := by simp [List.getD, List.getElem?_eq_getElem hkl]
      obtain ⟨y, hy⟩ : ∃ y, x.words[k] = y := ⟨_, rfl⟩
      rw [hy] at hx hzx hgd
      have KN := (fun W => IsName_any y W hzx)
      have HNX := Lib.hid (show wordsP x.words (k + 1) = wordAt x.words k by rw [wordsP_succ, HA.out]; rfl)
      have HNO := Lib.hid (fun (h : wordAt x.words k = false) => show wordsP x.words x.words.length = false from wordsP_not hkn h)
      have i0 : (0 : Int) ≤ (k : Int) := by omega
      have i1 : (k : Int) < (x.words.length : Int) := by omega
      obtain ⟨b, hb⟩ : ∃ b, nameOk (strB y) = b := ⟨_, rfl⟩
      simp only [hb] at KN
      rcases Nat.eq_zero_or_pos k with hk0 | hk0
      · subst hk0
        rw [addr_add_zero] at hx
        have HWA := Lib.hid (show wordAt x.words 0 = b by unfold wordAt; rw [hgd, hb]; simp)
        replace KN := Lib.hid KN
        subst hA
        clear hgd hy hb
        rcases b with _ | _
        · go_wp2_with (go_at_call 118; refine (KN.out _).mono ?_; rintro e w' ⟨rfl, hww⟩; obtain rfl := hww)
          go_ret
          exact ⟨ret_bool (by rw [HE2.out, HNO.out HWA.out]), HB.out⟩
        · go_wp2_with (go_at_call 118; refine (KN.out _).mono ?_; rintro e w' ⟨rfl, hww⟩; obtain rfl := hww)
          go_roundw
          case rel => exact ⟨1, by omega, by go_num, Lib.hid (by rw [HNX.out, HWA.out]), by first | rfl | trivial⟩
          case measure => simp [intOf]; omega
      · obtain ⟨ad', hA', -, hkl', hx'⟩ := (HR.out _ HB.out).at_ (show k - 1 < x.words.length by omega)
        obtain rfl : ad = ad' := by rw [hA] at hA'; injection hA'
        unfold StrM at hx'
        rw [Nat.mul_one] at hx'
        have hgd2 : x.words.getD (k - 1) ⟨#[]⟩ = x.words[k - 1] := by simp [List.getD, List.getElem?_eq_getElem hkl']
        obtain ⟨j, hj⟩ : ∃ j, k - 1 = j := ⟨_, rfl⟩
        obtain ⟨z, hz⟩ : ∃ y, x.words[k - 1] = y := ⟨_, rfl⟩
        rw [hz] at hx' hgd2
        rw [hj] at hx'
        have hle := leB z y
        have HWA := Lib.hid (show wordAt x.words k = (b && ltB z y) by unfold wordAt; rw [hgd, hb, hgd2, decide_eq_false (by omega), Bool.false_or])
        obtain ⟨b1, hb1⟩ : ∃ b, Op.bytesLess y.toList z.toList = b := ⟨_, rfl⟩
        obtain ⟨b2, hb2⟩ : ∃ b, (y.toList == z.toList) = b := ⟨_, rfl⟩
        obtain ⟨b3, hb3⟩ : ∃ b, ltB z y = b := ⟨_, rfl⟩
        rw [hb1, hb2, hb3] at hle
        rw [hb3] at HWA
        have hwj : IntKind.i64.wrap ((k : Int) - 1) = (j : Int) := by rw [wrapI64 (by omega)]; omega
        have j0 : (0 : Int) ≤ (j : Int) := by omega
        have j1 : (j : Int) < (x.words.length : Int) := by omega
        have j2 : (0 : Int) < (k : Int) := by omega
        replace KN := Lib.hid KN
        subst hA
        have HLE := Lib.hid hle
        clear hgd hgd2 hy hz hb hb3 hj hA' hkl' hle
        rcases b with _ | _
        · go_wp2_with (go_at_call 118; refine (KN.out _).mono ?_; rintro e w' ⟨rfl, hww⟩; obtain rfl := hww)
          go_ret
          exact ⟨ret_bool (by rw [HE2.out, HNO.out (by rw [HWA.out]; rfl)]), HB.out⟩
        · rcases b1 with _ | _
          · rcases b2 with _ | _
            · have hb3 : Hid (b3 = true) := by have := HLE.out; cases b3 <;> first | rfl | cases this
              go_wp2_with (go_at_call 118; refine (KN.out _).mono ?_; rintro e w' ⟨rfl, hww⟩; obtain rfl := hww)
              go_roundw
              case rel => exact ⟨k + 1, by omega, by go_num, Lib.hid (by rw [HNX.out, HWA.out, hb3.out]; rfl), by first | rfl | trivial⟩
              case measure => simp [intOf]; omega
            · have hb3 : Hid (b3 = false) := by have := HLE.out; cases b3 <;> first | rfl | cases this
              go_wp2_with (go_at_call 118; refine (KN.out _).mono ?_; rintro e w' ⟨rfl, hww⟩; obtain rfl := hww)
              go_ret
              exact ⟨ret_bool (by rw [HE2.out, HNO.out (by rw [HWA.out, hb3.out]; rfl)]), HB.out⟩
          · have hb3 : Hid (b3 = false) := by have := HLE.out; cases b3 <;> first | rfl | cases this
            go_wp2_with (go_at_call 118; refine (KN.out _).mono ?_; rintro e w' ⟨rfl, hww⟩; obtain rfl := hww)
            go_ret
            exact ⟨ret_bool (by rw [HE2.out, HNO.out (by rw [HWA.out, hb3.out]; rfl)]), HB.out⟩
    · obtain rfl : k = x.words.length := by omega
      have i1 : ¬ (x.words.length : Int) < (x.words.length : Int) := by omega
      go_wp2_with fail
      go_ret
      exact ⟨ret_bool (by rw [HE2.out, HA.out]), HB.out⟩
end Go.Proofs.Ytmmiahgmdllgdaa

namespace Go.Proofs.Ytmmiahgmdllgdaa
open Go.RowKit Go.Sort
set_option maxRecDepth 100000 in
set_option maxHeartbeats 3200000 in
theorem l25One_any (p : Addr) (x : Etr) (w : World) (hp : EtrM w p x) (hz : SmE x) :
    Calls Try.prog 77 #[.pointer (some p)] w fun e w' => e = .returned (.bool (etrOk x)) ∧ ∃ q, w' = w.drewN q := by
  obtain ⟨A, c, -, ⟨c0, c1, c2, c3, c4⟩, hr⟩ := hp
  have K1 := (fun W => l00In_any x.num 1 1000000 W)
  have K2 := (fun W => specIsName_any x.name W hz.name)
  have K3 := (fun W => specIsName_any x.maker W hz.maker)
  have K4 := (fun W => l00In_any x.year 1000 3000 W)
  have HE := Lib.hid (show etrOk x = ((((((betB x.num 1 1000000 && nameOk (strB x.name)) && nameOk (strB x.maker)) && betB x.year 1000 3000) && decide (x.words.length ≤ 8))) && wordsP x.words x.words.length) from rfl)
  have HW := Lib.hid hz.words
  have hlen := hz.len
  obtain ⟨R, hR⟩ : ∃ R, etrOk x = R := ⟨_, rfl⟩
  rw [hR] at HE ⊢
  obtain ⟨b1, hb1⟩ : ∃ b, betB x.num 1 1000000 = b := ⟨_, rfl⟩
  obtain ⟨b2, hb2⟩ : ∃ b, nameOk (strB x.name) = b := ⟨_, rfl⟩
  obtain ⟨b3, hb3⟩ : ∃ b, nameOk (strB x.maker) = b := ⟨_, rfl⟩
  obtain ⟨b4, hb4⟩ : ∃ b, betB x.year 1000 3000 = b := ⟨_, rfl⟩
  simp only [hb1, hb2, hb3, hb4] at K1 K2 K3 K4 HE
  clear hR hb1 hb2 hb3 hb4 hz
  replace K1 := Lib.hid K1
  replace K2 := Lib.hid K2
  replace K3 := Lib.hid K3
  replace K4 := Lib.hid K4
  have HR := Lib.hid hr
  clear hr
  go_enter Try.func77, Try.ntmps77
  rcases b1 with _ | _
  · go_wp2_with (first | (go_at_call 72; first | ((with_reducible refine (K1.out _).mono ?_); rintro e w' ⟨rfl, hww⟩; obtain rfl := hww) | ((with_reducible refine (K4.out _).mono ?_); rintro e w' ⟨rfl, hww⟩; obtain rfl := hww)) | (go_at_call 116; first | ((with_reducible refine (K2.out _).mono ?_); rintro e w' ⟨rfl, hww⟩; obtain rfl := hww) | ((with_reducible refine (K3.out _).mono ?_); rintro e w' ⟨rfl, hww⟩; obtain rfl := hww)))
    go_ret
    exact ⟨ret_bool (by rw [HE.out]; rfl), 0, rfl⟩
  rcases b2 with _ | _
  · go_wp2_with (first | (go_at_call 72; first | ((with_reducible refine (K1.out _).mono ?_); rintro e w' ⟨rfl, hww⟩; obtain rfl := hww) | ((with_reducible refine (K4.out _).mono ?_); rintro e w' ⟨rfl, hww⟩; obtain rfl := hww)) | (go_at_call 116; first | ((with_reducible refine (K2.out _).mono ?_); rintro e w' ⟨rfl, hww⟩; obtain rfl := hww) | ((with_reducible refine (K3.out _).mono ?_); rintro e w' ⟨rfl, hww⟩; obtain rfl := hww)))
    go_ret
    exact ⟨ret_bool (by rw [HE.out]; rfl), 0, rfl⟩
  rcases b3 with _ | _
  · go_wp2_with (first | (go_at_call 72; first | ((with_reducible refine (K1.out _).mono ?_); rintro e w' ⟨rfl, hww⟩; obtain rfl := hww) | ((with_reducible refine (K4.out _).mono ?_); rintro e w' ⟨rfl, hww⟩; obtain rfl := hww)) | (go_at_call 116; first | ((with_reducible refine (K2.out _).mono ?_); rintro e w' ⟨rfl, hww⟩; obtain rfl := hww) | ((with_reducible refine (K3.out _).mono ?_); rintro e w' ⟨rfl, hww⟩; obtain rfl := hww)))
    go_ret
    exact ⟨ret_bool (by rw [HE.out]; rfl), 0, rfl⟩
  rcases b4 with _ | _
  · go_wp2_with (first | (go_at_call 72; first | ((with_reducible refine (K1.out _).mono ?_); rintro e w' ⟨rfl, hww⟩; obtain rfl := hww) | ((with_reducible refine (K4.out _).mono ?_); rintro e w' ⟨rfl, hww⟩; obtain rfl := hww)) | (go_at_call 116; first | ((with_reducible refine (K2.out _).mono ?_); rintro e w' ⟨rfl, hww⟩; obtain rfl := hww) | ((with_reducible refine (K3.out _).mono ?_); rintro e w' ⟨rfl, hww⟩; obtain rfl := hww)))
    go_ret
    exact ⟨ret_bool (by rw [HE.out]; rfl), 0, rfl⟩
  by_cases h8 : x.words.length ≤ 8
  rotate_left
  · have i8 : (8 : Int) < (x.words.length : Int) := by omega
    go_wp2_with (first | (go_at_call 72; first | ((with_reducible refine (K1.out _).mono ?_); rintro e w' ⟨rfl, hww⟩; obtain rfl := hww) | ((with_reducible refine (K4.out _).mono ?_); rintro e w' ⟨rfl, hww⟩; obtain rfl := hww)) | (go_at_call 116; first | ((with_reducible refine (K2.out _).mono ?_); rintro e w' ⟨rfl, hww⟩; obtain rfl := hww) | ((with_reducible refine (K3.out _).mono ?_); rintro e w' ⟨rfl, hww⟩; obtain rfl := hww)))
    go_ret
    exact ⟨ret_bool (by rw [HE.out, decide_eq_false h8]; rfl), 0, rfl⟩
  have i8 : ¬ (8 : Int) < (x.words.length : Int) := by omega
  have HE2 := Lib.hid (show R = wordsP x.words x.words.length by rw [HE.out, decide_eq_true h8]; simp)
  clear HE
  go_wp2_with (first | (go_at_call 72; first | ((with_reducible refine (K1.out _).mono ?_); rintro e w' ⟨rfl, hww⟩; obtain rfl := hww) | ((with_reducible refine (K4.out _).mono ?_); rintro e w' ⟨rfl, hww⟩; obtain rfl := hww)) | (go_at_call 116; first | ((with_reducible refine (K2.out _).mono ?_); rintro e w' ⟨rfl, hww⟩; obtain rfl := hww) | ((with_reducible refine (K3.out _).mono ?_); rintro e w' ⟨rfl, hww⟩; obtain rfl := hww)))
  clear K1 K2 K3 K4
  go_loopw [3] (fun ii wr => ∃ k : Nat, k ≤ x.words.length ∧ ii = .int .i64 k ∧ Hid (wordsP x.words k = true) ∧ ∃ q, wr = w.drewN q) (fun ii _ => x.words.length - (intOf ii).toNat)
  case atStart => exact ⟨0, Nat.zero_le _, rfl, Lib.hid rfl, 0, rfl⟩
  case round =>
    obtain ⟨k, hk, rfl, HA, q, rfl⟩ := hrel
    by_cases hkn : k < x.words.length
    · obtain ⟨ad, hA, hlt, hkl, hx⟩ := HR.out.at_ hkn
      unfold StrM at hx
      rw [Nat.mul_one] at hx
      have hzx := HW.out _ (List.getElem_mem hkl)
      have hgd : x.words.getD k ⟨#[]⟩ = x.words[k] := by simp [List.getD, List.getElem?_eq_getElem hkl]
      obtain ⟨y, hy⟩ : ∃ y, x.words[k] = y := ⟨_, rfl⟩
      rw [hy] at hx hzx hgd
      have KN := (fun W => specIsName_any y W hzx)
      have HNX := Lib.hid (show wordsP x.words (k + 1) = wordAt x.words k by rw [wordsP_succ, HA.out]; rfl)
      have HNO := Lib.hid (fun (h : wordAt x.words k = false) => show wordsP x.words x.words.length = false from wordsP_not hkn h)
      have i0 : (0 : Int) ≤ (k : Int) := by omega
      have i1 : (k : Int) < (x.words.length : Int) := by omega
      obtain ⟨b, hb⟩ : ∃ b, nameOk (strB y) = b := ⟨_, rfl⟩
      simp only [hb] at KN
      rcases Nat.eq_zero_or_pos k with hk0 | hk0
      · subst hk0
        rw [addr_add_zero] at hx
        have HWA := Lib.hid (show wordAt x.words 0 = b by unfold wordAt; rw [hgd, hb]; simp)
        replace KN := Lib.hid KN
        subst hA
        clear hgd hy hb
        rcases b with _ | _
        · go_wp2_with fail
          go_quiet ((go_at_call 116; first | exact quiet_left (KN.out _) | exact quiet_add_left (KN.out _)))
          go_wp2
          go_ret
          exact ⟨ret_bool (by rw [HE2.out, HNO.out (HWA.out)]), by first | exact ⟨_, rfl⟩ | exact ⟨_, World.drewN_drewN _ _ _⟩⟩
        · obtain ⟨k, hk0⟩ : ∃ k : Nat, k = 0 := ⟨0, rfl⟩
          go_wp2_with fail
          go_quiet ((go_at_call 116; first | exact quiet_left (KN.out _) | exact quiet_add_left (KN.out _)))
          go_wp2
          go_roundw
          case rel => exact ⟨1, by omega, by go_num, Lib.hid (by rw [HNX.out, HWA.out]), by first | exact ⟨_, rfl⟩ | exact ⟨_, World.drewN_drewN _ _ _⟩⟩
          case measure => simp [intOf]; omega
      · obtain ⟨ad', hA', -, hkl', hx'⟩ := HR.out.at_ (show k - 1 < x.words.length by omega)
        obtain rfl : ad = ad' := by rw [hA] at hA'; injection hA'
        unfold StrM at hx'
        rw [Nat.mul_one] at hx'
        have hgd2 : x.words.getD (k - 1) ⟨#[]⟩ = x.words[k - 1] := by simp [List.getD, List.getElem?_eq_getElem hkl']
        obtain ⟨j, hj⟩ : ∃ j, k - 1 = j := ⟨_, rfl⟩
        obtain ⟨z, hz⟩ : ∃ y, x.words[k - 1] = y := ⟨_, rfl⟩
        rw [hz] at hx' hgd2
        rw [hj] at hx'
        have HWA := Lib.hid (show wordAt x.words k = (b && ltB z y) by unfold wordAt; rw [hgd, hb, hgd2, decide_eq_false (by omega), Bool.false_or])
        obtain ⟨b3, hb3⟩ : ∃ b, ltB z y = b := ⟨_, rfl⟩
        rw [hb3] at HWA
        have hb1 : Op.bytesLess z.toList y.toList = b3 := hb3
        have hwj : IntKind.i64.wrap ((k : Int) - 1) = (j : Int) := by rw [wrapI64 (by omega)]; omega
        have j0 : (0 : Int) ≤ (j : Int) := by omega
        have j1 : (j : Int) < (x.words.length : Int) := by omega
        have j2 : (0 : Int) < (k : Int) := by omega
        have j3 : decide ((0 : Int) < (k : Int)) = true := decide_eq_true j2
        replace KN := Lib.hid KN
        subst hA
        clear hgd hgd2 hy hz hb hb3 hj hA' hkl'
        rcases b with _ | _
        · go_wp2_with fail
          go_quiet ((go_at_call 116; first | exact quiet_left (KN.out _) | exact quiet_add_left (KN.out _)))
          go_wp2
          go_ret
          exact ⟨ret_bool (by rw [HE2.out, HNO.out (by rw [HWA.out]; rfl)]), by first | exact ⟨_, rfl⟩ | exact ⟨_, World.drewN_drewN _ _ _⟩⟩
        · rcases b3 with _ | _
          · go_wp2_with fail
            go_quiet ((go_at_call 116; first | exact quiet_left (KN.out _) | exact quiet_add_left (KN.out _)))
            go_wp2
            go_ret
            exact ⟨ret_bool (by rw [HE2.out, HNO.out (by rw [HWA.out]; rfl)]), by first | exact ⟨_, rfl⟩ | exact ⟨_, World.drewN_drewN _ _ _⟩⟩
          · go_wp2_with fail
            go_quiet ((go_at_call 116; first | exact quiet_left (KN.out _) | exact quiet_add_left (KN.out _)))
            go_wp2
            go_roundw
            case rel => exact ⟨k + 1, by omega, by go_num, Lib.hid (by rw [HNX.out]; rw [HWA.out]; rfl), by first | exact ⟨_, rfl⟩ | exact ⟨_, World.drewN_drewN _ _ _⟩⟩
            case measure => simp [intOf]; omega
    · obtain rfl : k = x.words.length := by omega
      have i1 : ¬ (x.words.length : Int) < (x.words.length : Int) := by omega
      go_wp2_with fail
      go_ret
      exact ⟨ret_bool (by rw [HE2.out, HA.out]), q, rfl⟩
end Go.Proofs.Ytmmiahgmdllgdaa

namespace Go.Proofs.Ytmmiahgmdllgdaa
open Go.RowKit Go.Sort
def entAt (L : List Etr) (k : Nat) : Bool := etrOk (L.getD k default) && (decide (k = 0) || decide ((L.getD (k - 1) default).num < (L.getD k default).num))
def entsP (L : List Etr) (k : Nat) : Bool := (List.range k).all (entAt L)
def entsOk (L : List Etr) : Bool := entsP L L.length && decide (L.length ≤ 50)
theorem entsP_succ (L : List Etr) (k : Nat) : entsP L (k + 1) = (entsP L k && entAt L k) := by
  unfold entsP
  rw [List.range_succ, List.all_append]; simp
theorem entsP_not {L : List Etr} {k n : Nat} (h : k < n) (h0 : entAt L k = false) : entsP L n = false := by
  unfold entsP
  rw [List.all_eq_false]
  exact ⟨k, List.mem_range.2 h, by simpa using h0⟩
set_option maxRecDepth 100000 in
set_option maxHeartbeats 3200000 in
theorem ValidEntries_any (A : Option Addr) (n c : Nat) (L : List Etr) (w : World) (hr : RL EtrM 5 w A n L) (hn : n ≤ 9223372036854775807) (hz : ∀ x ∈ L, SmE x) :
    Calls Try.prog 81 #[.slice A n c] w fun e w' => e = .returned (.bool (entsOk L)) ∧ Below w.heap.size w w' := by
  have HL := Lib.hid hr.1
  have HR := Lib.hid (fun W (hW : Below w.heap.size w W) => hr.below steady_EtrM hW)
  have HZ := Lib.hid hz
  have HE := Lib.hid (show entsOk L = (entsP L L.length && decide (L.length ≤ 50)) from rfl)
  obtain ⟨R, hR⟩ : ∃ R, entsOk L = R := ⟨_, rfl⟩
  rw [hR] at HE ⊢
  clear hR hr hz
  go_enter Try.func81, Try.ntmps81
  go_wp2_with fail
  go_loopw [7] (fun ii wr => ∃ k : Nat, k ≤ n ∧ ii = .int .i64 k ∧ Hid (entsP L k = true) ∧ Below w.heap.size w wr) (fun ii _ => n - (intOf ii).toNat)
  case atStart => exact ⟨0, Nat.zero_le _, rfl, Lib.hid rfl, Below.refl _ _⟩
  case round =>
    obtain ⟨k, hk, rfl, HA, hbw⟩ := hrel
    by_cases hkn : k < n
    · obtain ⟨ad, hA, hlt, hkl, hx⟩ := (HR.out _ hbw).at_ hkn
      have hgd : L.getD k default = L[k] := by simp [List.getD, List.getElem?_eq_getElem hkl]
      have hzx := HZ.out _ (List.getElem_mem hkl)
      obtain ⟨x, hxe⟩ : ∃ x, L[k] = x := ⟨_, rfl⟩
      rw [hxe] at hx hgd hzx
      have HNX := Lib.hid (show entsP L (k + 1) = entAt L k by rw [entsP_succ, HA.out]; rfl)
      have HNO := Lib.hid (fun (h : entAt L k = false) => show entsP L L.length = false from entsP_not hkl h)
      obtain ⟨b, hb⟩ : ∃ b, etrOk x = b := ⟨_, rfl⟩
      have i0 : (0 : Int) ≤ (k : Int) := by omega
      have i1 : (k : Int) < (n : Int) := by omega
      clear hxe
      skip
      rcases Nat.eq_zero_or_pos k with hk0 | hk0
      · subst hk0
        have HWA := Lib.hid (show entAt L 0 = b by unfold entAt; rw [hgd, hb]; simp)
        rw [Nat.zero_mul, addr_add_zero] at hx
        obtain ⟨XA, xc, -, ⟨c0, c1, c2, c3, c4⟩, hxr⟩ := hx
        have hK := (Kn.nil wr).al [.int .i64 x.num, .string x.name, .string x.maker, .int .i64 x.year, .slice XA x.words.length xc] 66
        obtain ⟨g, hg⟩ : ∃ g, wr.heap.size = g := ⟨_, rfl⟩
        rw [hg] at hK
        subst hA
        go_upto_region 4 with fail
        try rw [hg]
        refine Code.wp.kn hK ?_; clear hK hg; intro w3 hK
        have KV := (fun W (hW : Below w3.heap.size w3 W) => validEntry_any x XA xc W (hxr.below steady_StrM (hK.below.trans (hW.mono hK.size))) hzx)
        rw [hb] at KV
        have KV1 := Lib.hid KV
        have x0 := cell_regrown (show w3.cell? ⟨g, 0, none⟩ = some (.int .i64 x.num) from hK.blkAt.1 0)
        have x1 := cell_regrown (show w3.cell? ⟨g, 1, none⟩ = some (.string x.name) from hK.blkAt.1 1)
        have x2 := cell_regrown (show w3.cell? ⟨g, 2, none⟩ = some (.string x.maker) from hK.blkAt.1 2)
        have x3 := cell_regrown (show w3.cell? ⟨g, 3, none⟩ = some (.int .i64 x.year) from hK.blkAt.1 3)
        have x4 := cell_regrown (show w3.cell? ⟨g, 4, none⟩ = some (.slice XA x.words.length xc) from hK.blkAt.1 4)
        clear KV c0 c1 c2 c3 c4 hxr
        clear hgd hb
        rcases b with _ | _
        · have HNX2 := Lib.hid HWA.out
          refine wp_region_quiet_below (by kernel_rfl) (by kernel_rfl) ?_
          repeat (go_big_quiet_step ((go_at_call 82; with_reducible exact quietB KV1.out)))
          refine wpQuiet_nil ?_
          intro _ hw'
          obtain ⟨⟨dq, osq⟩, hw''⟩ := hw'
          subst hw''
          obtain ⟨w4, hw3⟩ : ∃ W, grow (redrawn w3 dq) osq = W := ⟨_, rfl⟩
          have hK2 := hK.keep (below_regrown w3 dq osq)
          dsimp only
          rw [hw3] at hK2 ⊢
          clear hw3
          have HB4 := Lib.hid (hbw.trans (hK2.below.mono hbw.size))
          go_wp2_with fail
          go_ret
          exact ⟨ret_bool (by rw [HE.out, HNO.out HNX2.out]; rfl), HB4.out⟩
        · have HNX2 := Lib.hid (HNX.out.trans HWA.out)
          refine wp_region_quiet_below (by kernel_rfl) (by kernel_rfl) ?_
          repeat (go_big_quiet_step ((go_at_call 82; with_reducible exact quietB KV1.out)))
          refine wpQuiet_nil ?_
          intro _ hw'
          obtain ⟨⟨dq, osq⟩, hw''⟩ := hw'
          subst hw''
          obtain ⟨w4, hw3⟩ : ∃ W, grow (redrawn w3 dq) osq = W := ⟨_, rfl⟩
          have hK2 := hK.keep (below_regrown w3 dq osq)
          dsimp only
          rw [hw3] at hK2 ⊢
          clear hw3
          have HB4 := Lib.hid (hbw.trans (hK2.below.mono hbw.size))
          go_wp2_with fail
          go_roundw
          case rel => exact ⟨1, by omega, by go_num, Lib.hid HNX2.out, HB4.out⟩
          case measure => simp [intOf] <;> omega
      · obtain ⟨XA, xc, -, ⟨c0, c1, c2, c3, c4⟩, hxr⟩ := hx
        have hK := (Kn.nil wr).al [.int .i64 x.num, .string x.name, .string x.maker, .int .i64 x.year, .slice XA x.words.length xc] 66
        obtain ⟨g, hg⟩ : ∃ g, wr.heap.size = g := ⟨_, rfl⟩
        rw [hg] at hK
        subst hA
        go_upto_region 4 with fail
        try rw [hg]
        refine Code.wp.kn hK ?_; clear hK hg; intro w3 hK
        have KV := (fun W (hW : Below w3.heap.size w3 W) => validEntry_any x XA xc W (hxr.below steady_StrM (hK.below.trans (hW.mono hK.size))) hzx)
        rw [hb] at KV
        have KV1 := Lib.hid KV
        have x0 := cell_regrown (show w3.cell? ⟨g, 0, none⟩ = some (.int .i64 x.num) from hK.blkAt.1 0)
        have x1 := cell_regrown (show w3.cell? ⟨g, 1, none⟩ = some (.string x.name) from hK.blkAt.1 1)
        have x2 := cell_regrown (show w3.cell? ⟨g, 2, none⟩ = some (.string x.maker) from hK.blkAt.1 2)
        have x3 := cell_regrown (show w3.cell? ⟨g, 3, none⟩ = some (.int .i64 x.year) from hK.blkAt.1 3)
        have x4 := cell_regrown (show w3.cell? ⟨g, 4, none⟩ = some (.slice XA x.words.length xc) from hK.blkAt.1 4)
        clear KV c0 c1 c2 c3 c4 hxr
        obtain ⟨ad', hA', hlt', hkl', hy⟩ := (HR.out _ (hbw.trans (hK.below.mono hbw.size))).at_ (show k - 1 < n by omega)
        obtain rfl : ad = ad' := by injection hA'
        have hgd2 : L.getD (k - 1) default = L[k - 1] := by simp [List.getD, List.getElem?_eq_getElem hkl']
        obtain ⟨j, hj⟩ : ∃ j, k - 1 = j := ⟨_, rfl⟩
        obtain ⟨y, hye⟩ : ∃ y, L[k - 1] = y := ⟨_, rfl⟩
        rw [hye] at hy hgd2
        rw [hj] at hy
        obtain ⟨YA, yc, -, ⟨d0, -⟩, -⟩ := hy
        have y0 := cell_regrown d0
        obtain ⟨yn, hyn⟩ : ∃ v, y.num = v := ⟨_, rfl⟩
        obtain ⟨xn, hxn⟩ : ∃ v, x.num = v := ⟨_, rfl⟩
        have HWA := Lib.hid (show entAt L k = (b && decide (yn < xn)) by unfold entAt; rw [hgd, hb, hgd2, hyn, hxn, decide_eq_false (by omega : ¬ k = 0), Bool.false_or])
        have hwj : IntKind.i64.wrap ((k : Int) - 1) = (j : Int) := by rw [wrapI64 (by omega)]; omega
        have j0 : (0 : Int) ≤ (j : Int) := by omega
        have j1 : (j : Int) < (n : Int) := by omega
        have j2 : (0 : Int) < (k : Int) := by omega
        have j3 : decide ((0 : Int) < (k : Int)) = true := decide_eq_true j2
        rw [hyn] at y0
        rw [hxn] at x0 hK KV1
        clear hgd hgd2 hye hb hj hA' hkl' hyn d0 hlt'
        rcases b with _ | _
        · have HNX2 := Lib.hid (show entAt L k = false by rw [HWA.out]; rfl)
          clear hxn
          refine wp_region_quiet_below (by kernel_rfl) (by kernel_rfl) ?_
          repeat (go_big_quiet_step ((go_at_call 82; with_reducible exact quietB KV1.out)))
          refine wpQuiet_nil ?_
          intro _ hw'
          obtain ⟨⟨dq, osq⟩, hw''⟩ := hw'
          subst hw''
          obtain ⟨w4, hw3⟩ : ∃ W, grow (redrawn w3 dq) osq = W := ⟨_, rfl⟩
          have hK2 := hK.keep (below_regrown w3 dq osq)
          dsimp only
          rw [hw3] at hK2 ⊢
          clear hw3
          have HB4 := Lib.hid (hbw.trans (hK2.below.mono hbw.size))
          go_wp2_with fail
          go_ret
          exact ⟨ret_bool (by rw [HE.out, HNO.out HNX2.out]; rfl), HB4.out⟩
        · by_cases hcmp : yn < xn
          · have HNX2 := Lib.hid (show entsP L (k + 1) = true by rw [HNX.out, HWA.out, decide_eq_true hcmp]; rfl)
            have hc2 : decide (xn ≤ yn) = false := decide_eq_false (by omega)
            have hc3 : ¬ xn ≤ yn := by omega
            clear hxn
            refine wp_region_quiet_below (by kernel_rfl) (by kernel_rfl) ?_
            repeat (go_big_quiet_step ((go_at_call 82; with_reducible exact quietB KV1.out)))
            refine wpQuiet_nil ?_
            intro _ hw'
            obtain ⟨⟨dq, osq⟩, hw''⟩ := hw'
            subst hw''
            obtain ⟨w4, hw3⟩ : ∃ W, grow (redrawn w3 dq) osq = W := ⟨_, rfl⟩
            have hK2 := hK.keep (below_regrown w3 dq osq)
            dsimp only
            rw [hw3] at hK2 ⊢
            clear hw3
            have HB4 := Lib.hid (hbw.trans (hK2.below.mono hbw.size))
            go_wp2_with fail
            go_roundw
            case rel => exact ⟨k + 1, by omega, by go_num, Lib.hid HNX2.out, HB4.out⟩
            case measure => simp [intOf] <;> omega
          · have HNX2 := Lib.hid (show entAt L k = false by rw [HWA.out, decide_eq_false hcmp]; rfl)
            have hc2 : decide (xn ≤ yn) = true := decide_eq_true (by omega)
            have hc3 : xn ≤ yn := by omega
            clear hxn
            refine wp_region_quiet_below (by kernel_rfl) (by kernel_rfl) ?_
            repeat (go_big_quiet_step ((go_at_call 82; with_reducible exact quietB KV1.out)))
            refine wpQuiet_nil ?_
            intro _ hw'
            obtain ⟨⟨dq, osq⟩, hw''⟩ := hw'
            subst hw''
            obtain ⟨w4, hw3⟩ : ∃ W, grow (redrawn w3 dq) osq = W := ⟨_, rfl⟩
            have hK2 := hK.keep (below_regrown w3 dq osq)
            dsimp only
            rw [hw3] at hK2 ⊢
            clear hw3
            have HB4 := Lib.hid (hbw.trans (hK2.below.mono hbw.size))
            go_wp2_with fail
            go_ret
            exact ⟨ret_bool (by rw [HE.out, HNO.out HNX2.out]; rfl), HB4.out⟩
    · have i1 : ¬ (k : Int) < (n : Int) := by omega
      obtain rfl : n = k := by omega
      have hall := HA.out
      rw [← HL.out] at hall
      by_cases h50 : n ≤ 50
      · have i2 : (n : Int) ≤ 50 := by omega
        have HQ := Lib.hid (show R = true by rw [HE.out, hall, decide_eq_true (by rw [HL.out]; exact h50)]; rfl)
        clear hall
        go_wp2_with fail
        go_ret
        exact ⟨ret_bool HQ.out.symm, hbw⟩
      · have i2 : ¬ (n : Int) ≤ 50 := by omega
        have HQ := Lib.hid (show R = false by rw [HE.out, hall, decide_eq_false (by rw [HL.out]; exact h50)]; rfl)
        clear hall
        go_wp2_with fail
        go_ret
        exact ⟨ret_bool HQ.out.symm, hbw⟩
theorem drewN_Bw {w w' : World} (h : ∃ m, w' = w.drewN m) : Below w.heap.size w w' := by
  obtain ⟨m, rfl⟩ := h; exact drewN_below m
set_option maxRecDepth 100000 in
set_option maxHeartbeats 3200000 in
theorem l25Ok_any (A : Option Addr) (n c : Nat) (L : List Etr) (w : World) (hr : RL EtrM 5 w A n L) (hn : n ≤ 9223372036854775807) (hz : ∀ x ∈ L, SmE x) :
    Calls Try.prog 76 #[.slice A n c] w fun e w' => e = .returned (.bool (entsOk L)) ∧ Below w.heap.size w w' := by
  have HL := Lib.hid hr.1
  have HR := Lib.hid (fun W (hW : Below w.heap.size w W) => hr.below steady_EtrM hW)
  have HZ := Lib.hid hz
  have HE := Lib.hid (show entsOk L = (entsP L L.length && decide (L.length ≤ 50)) from rfl)
  obtain ⟨R, hR⟩ : ∃ R, entsOk L = R := ⟨_, rfl⟩
  rw [hR] at HE ⊢
  clear hR hr hz
  go_enter Try.func76, Try.ntmps76
  go_wp2_with fail
  go_loopw [3] (fun ii wr => ∃ k : Nat, k ≤ n ∧ ii = .int .i64 k ∧ Hid (entsP L k = true) ∧ Below w.heap.size w wr) (fun ii _ => n - (intOf ii).toNat)
  case atStart => exact ⟨0, Nat.zero_le _, rfl, Lib.hid rfl, Below.refl _ _⟩
  case round =>
    obtain ⟨k, hk, rfl, HA, hbw⟩ := hrel
    by_cases hkn : k < n
    · obtain ⟨ad, hA, hlt, hkl, hx⟩ := (HR.out _ hbw).at_ hkn
      have hgd : L.getD k default = L[k] := by simp [List.getD, List.getElem?_eq_getElem hkl]
      have hzx := HZ.out _ (List.getElem_mem hkl)
      obtain ⟨x, hxe⟩ : ∃ x, L[k] = x := ⟨_, rfl⟩
      rw [hxe] at hx hgd hzx
      have HNX := Lib.hid (show entsP L (k + 1) = entAt L k by rw [entsP_succ, HA.out]; rfl)
      have HNO := Lib.hid (fun (h : entAt L k = false) => show entsP L L.length = false from entsP_not hkl h)
      obtain ⟨b, hb⟩ : ∃ b, etrOk x = b := ⟨_, rfl⟩
      have i0 : (0 : Int) ≤ (k : Int) := by omega
      have i1 : (k : Int) < (n : Int) := by omega
      clear hxe
      skip
      have KV := (fun W (hW : Below wr.heap.size wr W) => (l25One_any (ad.add (k * 5)) x W (steady_EtrM _ _ _ _ (by rw [block_of_add]; exact hlt) hW hx) hzx).mono fun e w' h => (⟨h.1, drewN_Bw h.2⟩ : _ ∧ Below W.heap.size W w'))
      rw [hb] at KV
      have hK := Kn.nil wr
      obtain ⟨w3, hw30⟩ : ∃ W, W = wr := ⟨_, rfl⟩
      subst hw30
      rcases Nat.eq_zero_or_pos k with hk0 | hk0
      · subst hk0
        have HWA := Lib.hid (show entAt L 0 = b by unfold entAt; rw [hgd, hb]; simp)
        rw [Nat.zero_mul, addr_add_zero] at hx KV
        have KV1 := Lib.hid KV
        subst hA
        clear hgd hb KV hx
        go_upto_region 4 with fail
        rcases b with _ | _
        · have HNX2 := Lib.hid HWA.out
          refine wp_region_quiet_below (by kernel_rfl) (by kernel_rfl) ?_
          repeat (go_big_quiet_step ((go_at_call 77; with_reducible exact quietB KV1.out)))
          refine wpQuiet_nil ?_
          intro _ hw'
          obtain ⟨⟨dq, osq⟩, hw''⟩ := hw'
          subst hw''
          obtain ⟨w4, hw3⟩ : ∃ W, grow (redrawn w3 dq) osq = W := ⟨_, rfl⟩
          have hK2 := hK.keep (below_regrown w3 dq osq)
          dsimp only
          rw [hw3] at hK2 ⊢
          clear hw3
          have HB4 := Lib.hid (hbw.trans (hK2.below.mono hbw.size))
          go_wp2_with fail
          go_ret
          exact ⟨ret_bool (by rw [HE.out, HNO.out HNX2.out]; rfl), HB4.out⟩
        · have HNX2 := Lib.hid (HNX.out.trans HWA.out)
          refine wp_region_quiet_below (by kernel_rfl) (by kernel_rfl) ?_
          repeat (go_big_quiet_step ((go_at_call 77; with_reducible exact quietB KV1.out)))
          refine wpQuiet_nil ?_
          intro _ hw'
          obtain ⟨⟨dq, osq⟩, hw''⟩ := hw'
          subst hw''
          obtain ⟨w4, hw3⟩ : ∃ W, grow (redrawn w3 dq) osq = W := ⟨_, rfl⟩
          have hK2 := hK.keep (below_regrown w3 dq osq)
          dsimp only
          rw [hw3] at hK2 ⊢
          clear hw3
          have HB4 := Lib.hid (hbw.trans (hK2.below.mono hbw.size))
          go_wp2_with fail
          go_roundw
          case rel => exact ⟨1, by omega, by go_num, Lib.hid HNX2.out, HB4.out⟩
          case measure => simp [intOf] <;> omega
      · have KV1 := Lib.hid KV
        obtain ⟨ad', hA', hlt', hkl', hy⟩ := (HR.out _ hbw).at_ (show k - 1 < n by omega)
        obtain rfl : ad = ad' := by rw [hA] at hA'; injection hA'
        have hgd2 : L.getD (k - 1) default = L[k - 1] := by simp [List.getD, List.getElem?_eq_getElem hkl']
        obtain ⟨j, hj⟩ : ∃ j, k - 1 = j := ⟨_, rfl⟩
        obtain ⟨y, hye⟩ : ∃ y, L[k - 1] = y := ⟨_, rfl⟩
        rw [hye] at hy hgd2
        rw [hj] at hy
        obtain ⟨YA, yc, -, ⟨d0, -⟩, -⟩ := hy
        obtain ⟨XA, xc, -, ⟨c0, -⟩, -⟩ := hx
        have y0 := cell_regrown d0
        have x0 := cell_regrown c0
        obtain ⟨yn, hyn⟩ : ∃ v, y.num = v := ⟨_, rfl⟩
        obtain ⟨xn, hxn⟩ : ∃ v, x.num = v := ⟨_, rfl⟩
        have HWA := Lib.hid (show entAt L k = (b && decide (yn < xn)) by unfold entAt; rw [hgd, hb, hgd2, hyn, hxn, decide_eq_false (by omega : ¬ k = 0), Bool.false_or])
        have hwj : IntKind.i64.wrap ((k : Int) - 1) = (j : Int) := by rw [wrapI64 (by omega)]; omega
        have j0 : (0 : Int) ≤ (j : Int) := by omega
        have j1 : (j : Int) < (n : Int) := by omega
        have j2 : (0 : Int) < (k : Int) := by omega
        have j3 : decide ((0 : Int) < (k : Int)) = true := decide_eq_true j2
        rw [hyn] at y0
        rw [hxn] at x0
        subst hA
        clear hgd hgd2 hye hb hj hA' hkl' hyn d0 c0 hlt' KV hxn
        go_upto_region 4 with fail
        rcases b with _ | _
        · have HNX2 := Lib.hid (show entAt L k = false by rw [HWA.out]; rfl)
          refine wp_region_quiet_below (by kernel_rfl) (by kernel_rfl) ?_
          repeat (go_big_quiet_step ((go_at_call 77; with_reducible exact quietB KV1.out)))
          refine wpQuiet_nil ?_
          intro _ hw'
          obtain ⟨⟨dq, osq⟩, hw''⟩ := hw'
          subst hw''
          obtain ⟨w4, hw3⟩ : ∃ W, grow (redrawn w3 dq) osq = W := ⟨_, rfl⟩
          have hK2 := hK.keep (below_regrown w3 dq osq)
          dsimp only
          rw [hw3] at hK2 ⊢
          clear hw3
          have HB4 := Lib.hid (hbw.trans (hK2.below.mono hbw.size))
          go_wp2_with fail
          go_ret
          exact ⟨ret_bool (by rw [HE.out, HNO.out HNX2.out]; rfl), HB4.out⟩
        · by_cases hcmp : yn < xn
          · have HNX2 := Lib.hid (show entsP L (k + 1) = true by rw [HNX.out, HWA.out, decide_eq_true hcmp]; rfl)
            have hc2 : decide (xn ≤ yn) = false := decide_eq_false (by omega)
            have hc3 : ¬ xn ≤ yn := by omega
            refine wp_region_quiet_below (by kernel_rfl) (by kernel_rfl) ?_
            repeat (go_big_quiet_step ((go_at_call 77; with_reducible exact quietB KV1.out)))
            refine wpQuiet_nil ?_
            intro _ hw'
            obtain ⟨⟨dq, osq⟩, hw''⟩ := hw'
            subst hw''
            obtain ⟨w4, hw3⟩ : ∃ W, grow (redrawn w3 dq) osq = W := ⟨_, rfl⟩
            have hK2 := hK.keep (below_regrown w3 dq osq)
            dsimp only
            rw [hw3] at hK2 ⊢
            clear hw3
            have HB4 := Lib.hid (hbw.trans (hK2.below.mono hbw.size))
            go_wp2_with fail
            go_roundw
            case rel => exact ⟨k + 1, by omega, by go_num, Lib.hid HNX2.out, HB4.out⟩
            case measure => simp [intOf] <;> omega
          · have HNX2 := Lib.hid (show entAt L k = false by rw [HWA.out, decide_eq_false hcmp]; rfl)
            have hc2 : decide (xn ≤ yn) = true := decide_eq_true (by omega)
            have hc3 : xn ≤ yn := by omega
            refine wp_region_quiet_below (by kernel_rfl) (by kernel_rfl) ?_
            repeat (go_big_quiet_step ((go_at_call 77; with_reducible exact quietB KV1.out)))
            refine wpQuiet_nil ?_
            intro _ hw'
            obtain ⟨⟨dq, osq⟩, hw''⟩ := hw'
            subst hw''
            obtain ⟨w4, hw3⟩ : ∃ W, grow (redrawn w3 dq) osq = W := ⟨_, rfl⟩
            have hK2 := hK.keep (below_regrown w3 dq osq)
            dsimp only
            rw [hw3] at hK2 ⊢
            clear hw3
            have HB4 := Lib.hid (hbw.trans (hK2.below.mono hbw.size))
            go_wp2_with fail
            go_ret
            exact ⟨ret_bool (by rw [HE.out, HNO.out HNX2.out]; rfl), HB4.out⟩
    · have i1 : ¬ (k : Int) < (n : Int) := by omega
      obtain rfl : n = k := by omega
      have hall := HA.out
      rw [← HL.out] at hall
      by_cases h50 : n ≤ 50
      · have i2 : (n : Int) ≤ 50 := by omega
        have HQ := Lib.hid (show R = true by rw [HE.out, hall, decide_eq_true (by rw [HL.out]; exact h50)]; rfl)
        clear hall
        go_wp2_with fail
        go_ret
        exact ⟨ret_bool HQ.out.symm, hbw⟩
      · have i2 : ¬ (n : Int) ≤ 50 := by omega
        have HQ := Lib.hid (show R = false by rw [HE.out, hall, decide_eq_false (by rw [HL.out]; exact h50)]; rfl)
        clear hall
        go_wp2_with fail
        go_ret
        exact ⟨ret_bool HQ.out.symm, hbw⟩
end Go.Proofs.Ytmmiahgmdllgdaa
