/- For every input the law FnRuns returns true and leaves its arguments as they were: a program makes the strokes that are told, and a program without settings and bells makes the same strokes on every machine. No condition. -/
import Derived.Test.YtkfbfainhmkkdaaZC1
import Derived.Test.YtkfbfainhmkkdaaZC2
import Derived.Test.YtkfbfainhmkkdaaZC3
import Derived.Test.YtkfbfainhmkkdaaZC4
import Derived.Test.YtkfbfainhmkkdaaZC5
import Derived.Test.YtkfbfainhmkkdaaZC6
import Derived.Test.YtkfbfainhmkkdaaZC7
import Derived.Deep.RegionHeld3
import Derived.ProofKit
import Derived.Carry
import Derived.OpenShut
import Derived.ChangeMaps5
import Derived.Deep.DeepHandedRow
import Derived.Lib.LaidTab
namespace Go.Proofs.Ytkfbfainhmkkdaa
open Go.RowKit Go.Sort
/-! flat programs, plainly -/
theorem match_seek {xs : List Ins} (h : vprog xs = true) {i : Nat} : ∀ n j, i < j → j + n = xs.length → (∀ q, i < q → q ≤ j → depA xs i < depA xs q) → ∃ e, IsMatch xs i e
  | 0, j, h1, h2, h3 => by
    have a := h3 j h1 (Nat.le_refl _)
    rw [depA_end h (show xs.length ≤ j by omega)] at a
    have := (dep_bd h i).1
    omega
  | n + 1, j, h1, h2, h3 => by
    by_cases hd : depA xs i < depA xs (j + 1)
    · exact match_seek h n (j + 1) (by omega) (by omega) (fun q hq1 hq2 => by
        rcases Nat.lt_or_ge j q with h4 | h4
        · obtain rfl : q = j + 1 := by omega
          exact hd
        · exact h3 q hq1 h4)
    · have a := h3 j h1 (Nat.le_refl _)
      have b := (dep_near h j).1
      exact ⟨j, by omega, by omega, by omega, h3⟩
theorem match_some {xs : List Ins} (h : vprog xs = true) {i : Nat} (hi : i < xs.length) (ho : opens xs[i].op = true) : ∃ e, IsMatch xs i e := by
  have h1 := dep_open h hi ho
  exact match_seek h (xs.length - (i + 1)) (i + 1) (by omega) (by omega) (fun q hq1 hq2 => by
    obtain rfl : q = i + 1 := by omega
    omega)
/-- the strokes of a part of a program, as a relation -/
inductive Fl (L : List Ins) : Nat → Nat → List Int → Prop where
  | done {i tt} (h : tt ≤ i) : Fl L i tt []
  | times {i tt e body rest} (hi : i < tt) (hl : i < L.length) (ho : L[i].op = 8) (hm : IsMatch L i e) (he : e < tt) (h1 : Fl L (i + 1) e body) (h2 : Fl L (e + 1) tt rest) : Fl L i tt ((List.replicate L[i].arg.toNat body).flatten ++ rest)
  | one {i tt rest} (hi : i < tt) (hl : i < L.length) (ho : ¬ L[i].op = 8) (h10 : ¬ L[i].op = 10) (h2 : Fl L (i + 1) tt rest) : Fl L i tt (List.replicate (max 1 L[i].arg).toNat (L[i].op - 1) ++ rest)
theorem Fl.inv {L : List Ins} {i tt : Nat} {out : List Int} (h : Fl L i tt out) (hi : i < tt) : ∃ hl : i < L.length, (L[i].op = 8 ∧ ∃ e body rest, IsMatch L i e ∧ e < tt ∧ Fl L (i + 1) e body ∧ Fl L (e + 1) tt rest ∧ out = (List.replicate L[i].arg.toNat body).flatten ++ rest) ∨ (¬ L[i].op = 8 ∧ ¬ L[i].op = 10 ∧ ∃ rest, Fl L (i + 1) tt rest ∧ out = List.replicate (max 1 L[i].arg).toNat (L[i].op - 1) ++ rest) := by
  cases h with
  | done h => omega
  | times hi hl ho hm he h1 h2 => exact ⟨hl, .inl ⟨ho, _, _, _, hm, he, h1, h2, rfl⟩⟩
  | one hi hl ho h10 h2 => exact ⟨hl, .inr ⟨ho, h10, _, h2, rfl⟩⟩
theorem Fl.nil {L : List Ins} {i tt : Nat} {out : List Int} (h : Fl L i tt out) (hi : ¬ i < tt) : out = [] := by
  cases h with
  | done h => rfl
  | times hi' => omega
  | one hi' => omega
theorem Fl.det {L : List Ins} {i tt : Nat} {out : List Int} (h : Fl L i tt out) : ∀ {out' : List Int}, Fl L i tt out' → out = out' := by
  induction h with
  | done h => intro out' h'; exact (h'.nil (by omega)).symm
  | @times i tt e body rest hi hl ho hm he h1 h2 ih1 ih2 =>
    intro out' h'
    obtain ⟨hl', ⟨h8', e', body', rest', hm', he', g1, g2, rfl⟩ | ⟨ho', hx⟩⟩ := h'.inv hi
    · obtain rfl := hm.one hm'
      rw [ih1 g1, ih2 g2]
    · exact absurd ho ho'
  | @one i tt rest hi hl ho h10 h2 ih2 =>
    intro out' h'
    obtain ⟨hl', ⟨ho', hx⟩ | ⟨h8', h10', rest', g2, rfl⟩⟩ := h'.inv hi
    · exact absurd ho' ho
    · rw [ih2 g2]
/-- no instruction depends on the bell or sets -/
def plainI (L : List Ins) : Bool := L.all fun x => !(x.op == 1) && !(x.op == 9)
theorem plainI_get {L : List Ins} (h : plainI L = true) {i : Nat} (hl : i < L.length) : ¬ L[i].op = 1 ∧ ¬ L[i].op = 9 := by
  have := List.all_eq_true.1 h _ (List.getElem_mem hl)
  simpa using this
theorem ins_ok {L : List Ins} (hv : vprog L = true) {i : Nat} (hl : i < L.length) : instrOk L[i].op L[i].arg = true := (dep_step hv hl).1
theorem ins_bd {op arg : Int} (h : instrOk op arg = true) (h1 : ¬ op = 1) : 2 ≤ op ∧ op ≤ 10 ∧ 0 ≤ arg ∧ arg ≤ 100 ∧ (op = 8 → 1 ≤ arg) := by
  unfold instrOk at h
  rw [if_neg h1] at h
  split at h
  · have := betB_iff.1 h; omega
  · split at h
    · have : arg = 0 := by simpa using h
      omega
    · cases h
theorem ins_plain {op arg : Int} (h : instrOk op arg = true) (h1 : ¬ op = 1) (h8 : ¬ op = 8) (h9 : ¬ op = 9) (h10 : ¬ op = 10) : (2 ≤ op ∧ op ≤ 5 ∧ 1 ≤ arg ∧ arg ≤ 100) ∨ ((op = 6 ∨ op = 7) ∧ arg = 0) := by
  unfold instrOk at h
  rw [if_neg h1] at h
  split at h
  · have := betB_iff.1 h; omega
  · split at h
    · have : arg = 0 := by simpa using h
      omega
    · cases h
theorem pow100 (a : Nat) : 1 ≤ 100 ^ a := Nat.one_le_pow _ _ (by decide)
theorem flat_rep {α : Type} (n : Nat) (l : List α) : (List.replicate n l).flatten.length = n * l.length := by simp
/-- what is flat is there, and it is not too long -/
theorem Fl.some {L : List Ins} (hv : vprog L = true) (hp : plainI L = true) : ∀ (n i tt : Nat), tt - i ≤ n → Seg L i tt → ∃ out, Fl L i tt out ∧ out.length ≤ (tt - i) * 100 ^ (5 - (depA L i).toNat)
  | n, i, tt, hn, hs => by
    by_cases hi : i < tt
    · obtain ⟨m, rfl⟩ : ∃ m, n = m + 1 := ⟨n - 1, by omega⟩
      have hl := hs.lt hi
      obtain ⟨hb1, hb9⟩ := plainI_get hp hl
      obtain ⟨o1, o2, o3, o4, o5⟩ := ins_bd (ins_ok hv hl) hb1
      have hd := dep_bd hv i
      by_cases h8 : L[i].op = 8
      · have ho : opens L[i].op = true := by rw [h8]; rfl
        obtain ⟨e, hm⟩ := match_some hv hl ho
        obtain ⟨g1, g2, s1, s2⟩ := hs.loop hv hi ho hm
        obtain ⟨body, f1, l1⟩ := Fl.some hv hp m (i + 1) e (by omega) s1
        obtain ⟨rest, f2, l2⟩ := Fl.some hv hp m (e + 1) tt (by omega) s2
        refine ⟨_, .times hi hl h8 hm g2 f1 f2, ?_⟩
        have hdo := dep_open hv hl ho
        have hdi := dep_bd hv (i + 1)
        have hme := hm.2.2.1
        rw [hme] at l2
        rw [hdo] at l1
        obtain ⟨k, hk⟩ : ∃ k : Nat, depA L i = k := ⟨(depA L i).toNat, by omega⟩
        rw [hk, show ((k : Int) + 1).toNat = k + 1 by omega] at l1
        rw [hk, show ((k : Int)).toNat = k by omega] at l2 ⊢
        rw [List.length_append, flat_rep]
        have hp5 : 100 ^ (5 - k) = 100 * 100 ^ (5 - (k + 1)) := by
          rw [show 5 - k = (5 - (k + 1)) + 1 by omega, Nat.pow_succ, Nat.mul_comm]
        rw [hp5] at l2 ⊢
        obtain ⟨P, hP⟩ : ∃ P, 100 ^ (5 - (k + 1)) = P := ⟨_, rfl⟩
        rw [hP] at l1 l2 ⊢
        have a1 : L[i].arg.toNat * body.length ≤ 100 * ((e - (i + 1)) * P) := Nat.mul_le_mul (by omega) l1
        have a2 : 100 * ((e - (i + 1)) * P) = (e - (i + 1)) * (100 * P) := Nat.mul_left_comm _ _ _
        have a3 : (e - (i + 1)) * (100 * P) + (tt - (e + 1)) * (100 * P) ≤ (tt - i) * (100 * P) := by
          rw [← Nat.add_mul]; exact Nat.mul_le_mul_right _ (by omega)
        omega
      · have ho : opens L[i].op = false := by unfold opens; simp; omega
        obtain ⟨rest, f2, l2⟩ := Fl.some hv hp m (i + 1) tt (by omega) (hs.next hv hi ho)
        have h10 := hs.noEnd hv hi
        refine ⟨_, .one hi hl h8 h10 f2, ?_⟩
        have hds := dep_same hv hl ho h10
        rw [hds] at l2
        rw [List.length_append, List.length_replicate]
        have a1 : (max 1 L[i].arg).toNat ≤ 100 := by omega
        obtain ⟨k, hk⟩ : ∃ k : Nat, depA L i = k := ⟨(depA L i).toNat, by omega⟩
        rw [hk, show ((k : Int)).toNat = k by omega] at l2 ⊢
        have hp5 : 100 ^ (5 - k) = 100 * 100 ^ (4 - k) := by
          rw [show 5 - k = (4 - k) + 1 by omega, Nat.pow_succ, Nat.mul_comm]
        have hp1 := pow100 (4 - k)
        obtain ⟨P, hP⟩ : ∃ P, 100 ^ (5 - k) = P := ⟨_, rfl⟩
        rw [hP] at l2 hp5 ⊢
        have a3 : P + (tt - (i + 1)) * P ≤ (tt - i) * P := by
          rw [show tt - i = (tt - (i + 1)) + 1 by omega, Nat.add_mul, Nat.one_mul]; omega
        omega
    · exact ⟨[], .done (by omega), by simp⟩
/-- strokes of one kind -/
theorem str_ev {L : List Ins} (kind : Int) : ∀ (n : Nat) (s : RS), s.code = 0 → s.Good → ∃ s' b, Ev L (.str kind n) s s' b ∧ s'.Good ∧ ((s'.code = 0 ∧ s'.tr = s.tr ++ List.replicate n kind) ∨ s'.code = 5)
  | 0, s, hc, hg => ⟨s, false, .s0, hg, .inl ⟨hc, by simp⟩⟩
  | n + 1, s, hc, hg => by
    by_cases hd : s.done = 3000
    · exact ⟨s.tick, false, .sFull hd, hg.tick hc, .inr (by rw [RS.tick_full hd])⟩
    · obtain ⟨s', b, he, hg', hr⟩ := str_ev kind n ⟨(strokeT kind s.m).1, s.tr ++ [kind], s.done + 1, 0⟩ rfl (hg.stroke hc hd kind)
      refine ⟨s', _, .sStep hd he, hg', ?_⟩
      rcases hr with ⟨h1, h2⟩ | h1
      · exact .inl ⟨h1, by rw [h2, List.append_assoc]; rfl⟩
      · exact .inr h1
theorem code_ev {L : List Ins} {s : RS} (hc : ¬ s.code = 0) (i tt : Nat) : Ev L (.run i tt) s s false := by
  by_cases hi : i < tt
  · exact .rCode hi hc
  · exact .rEnd (by omega)
theorem loop_ev {L : List Ins} {i e : Nat} {body : List Int} {arg : Int} (ih : ∀ s : RS, s.code = 0 → s.Good → ∃ s' b, Ev L (.run i e) s s' b ∧ s'.Good ∧ ((s'.code = 0 ∧ s'.tr = s.tr ++ body) ∨ s'.code = 5)) :
    ∀ (r k : Nat), (k : Int) + r = arg → ∀ s : RS, s.code = 0 → s.Good → ∃ s' b, Ev L (.loop 8 arg i e k) s s' b ∧ s'.Good ∧ ((s'.code = 0 ∧ s'.tr = s.tr ++ (List.replicate r body).flatten) ∨ s'.code = 5)
  | 0, k, hk, s, hc, hg => ⟨s, false, .lEnd rfl (by omega), hg, .inl ⟨hc, by simp⟩⟩
  | r + 1, k, hk, s, hc, hg => by
    have h8 : ¬ ((8 : Int) = 8 ∧ arg ≤ (k : Int)) := by omega
    by_cases hd : s.done = 3000
    · exact ⟨s.tick, false, .lFull h8 hd, hg.tick hc, .inr (by rw [RS.tick_full hd])⟩
    · obtain ⟨s1, b1, he, hg1, hr⟩ := ih ⟨s.m, s.tr, s.done + 1, 0⟩ rfl (hg.more hc hd s.m hg.m 0)
      rcases hr with ⟨h1, h2⟩ | h1
      · obtain ⟨s', b', he', hg', hr'⟩ := loop_ev (arg := arg) ih r (k + 1) (by omega) s1 h1 hg1
        refine ⟨s', false, .lStep h8 hd he ⟨h1, fun h => absurd h.1 (by decide)⟩ he', hg', ?_⟩
        rcases hr' with ⟨h3, h4⟩ | h3
        · exact .inl ⟨h3, by rw [h4, h2, List.replicate_succ, List.flatten_cons, List.append_assoc]⟩
        · exact .inr h3
      · exact ⟨s1, false, .lOut h8 hd he (.inl (show ¬ s1.code = 0 by omega)), hg1, .inr h1⟩
theorem Fl.ev {L : List Ins} (hv : vprog L = true) (hp : plainI L = true) {i tt : Nat} {out : List Int} (h : Fl L i tt out) : ∀ s : RS, s.code = 0 → s.Good → ∃ s' b, Ev L (.run i tt) s s' b ∧ s'.Good ∧ ((s'.code = 0 ∧ s'.tr = s.tr ++ out) ∨ s'.code = 5) := by
  induction h with
  | done h => intro s hc hg; exact ⟨s, false, .rEnd h, hg, .inl ⟨hc, by simp⟩⟩
  | @times i tt e body rest hi hl ho hm he0 h1 h2 ih1 ih2 =>
    intro s hc hg
    obtain ⟨hb1, hb9⟩ := plainI_get hp hl
    obtain ⟨o1, o2, o3, o4, o5⟩ := ins_bd (ins_ok hv hl) hb1
    obtain ⟨s1, b1, he1, hg1, hr1⟩ := loop_ev (arg := L[i].arg) ih1 L[i].arg.toNat 0 (by omega) s hc hg
    have hop : opens L[i].op = true := by rw [ho]; rfl
    rcases hr1 with ⟨g1, g2⟩ | g1
    · obtain ⟨s2, b2, he2, hg2, hr2⟩ := ih2 s1 g1 hg1
      refine ⟨s2, b2, .rLoop hi hl hc hop hm (by rw [ho]; exact he1) he2, hg2, ?_⟩
      rcases hr2 with ⟨g3, g4⟩ | g3
      · exact .inl ⟨g3, by rw [g4, g2, List.append_assoc]⟩
      · exact .inr g3
    · exact ⟨s1, false, .rLoop hi hl hc hop hm (by rw [ho]; exact he1) (code_ev (show ¬ s1.code = 0 by omega) _ _), hg1, .inr g1⟩
  | @one i tt rest hi hl ho h10 h2 ih2 =>
    intro s hc hg
    obtain ⟨hb1, hb9⟩ := plainI_get hp hl
    have hop : opens L[i].op = false := by unfold opens; simp; omega
    obtain ⟨s1, b1, he1, hg1, hr1⟩ := str_ev (L := L) (L[i].op - 1) (max 1 L[i].arg).toNat s hc hg
    rcases hr1 with ⟨g1, g2⟩ | g1
    · obtain ⟨s2, b2, he2, hg2, hr2⟩ := ih2 s1 g1 hg1
      refine ⟨s2, _, .rStr hi hl hc hop hb1 he1 he2, hg2, ?_⟩
      rcases hr2 with ⟨g3, g4⟩ | g3
      · exact .inl ⟨g3, by rw [g4, g2, List.append_assoc]⟩
      · exact .inr g3
    · exact ⟨s1, _, .rStr hi hl hc hop hb1 he1 (code_ev (show ¬ s1.code = 0 by omega) _ _), hg1, .inr g1⟩
theorem startR_fine2 {t : Tri} (h : vmach t = true) : (startR t).Good ∧ (startR t).code = 0 ∧ (startR t).tr = [] := by
  refine ⟨⟨h, by simp [startR], fun _ => by simp [startR], by simp [startR]⟩, rfl, rfl⟩
/-- a flat program's trace, or none where it is too long -/
theorem flat_trace {L : List Ins} {t : Tri} {out : List Int} (hm : vmach t = true) (hv : vprog L = true) (hp : plainI L = true) (h : Fl L 0 L.length out) : (rpC L t = 0 ∧ rpT L t = out) ∨ rpC L t = 5 := by
  obtain ⟨g1, g2, g3⟩ := startR_fine2 hm
  obtain ⟨s', b, he, hg, hr⟩ := h.ev hv hp (startR t) g2 g1
  rcases hr with ⟨h1, h2⟩ | h1
  · obtain ⟨r1, -, r3⟩ := rp_fine hm hv he hg h1
    exact .inl ⟨r1, by rw [r3, h2, g3]; rfl⟩
  · obtain ⟨r1, -, -⟩ := rp_code hm hv he (by omega)
    exact .inr (by rw [r1, h1])
end Go.Proofs.Ytkfbfainhmkkdaa

namespace Go.Proofs.Ytkfbfainhmkkdaa
open Go.RowKit Go.Sort
/-! draws for runs -/
def DrawsIns (w : World) (e : Ending) (w' : World) : Prop := ∃ (B : Option Addr) (d : Nat) (xs : List Ins), e = .returned (.slice B xs.length d) ∧ xs.length ≤ 200 ∧ Kn w [rowIns (.slice B xs.length d) xs] w'
set_option maxRecDepth 100000 in
theorem DrawDepthOfProgram_any (A : Option Addr) (n c : Nat) (bs : List UInt8) (w : World) (hb : RB w A n bs) (hn : n ≤ 9223372036854775807) :
    Calls Try.prog 16 #[.slice A n c] w (DrawsIns w) := by
  unfold DrawsIns
  have HB := Lib.hid hb
  clear hb
  go_enter Try.func16, Try.ntmps16
  go_wp2_with fail
  refine (l00From_any A n c bs w HB.out hn).mono ?_; rintro e w0 ⟨rfl, hs, hb2⟩
  have D0 := DR.nil hs
  clear HB hs
  go_wp2_with fail
  have KR := Lib.hid (l11Bent_dr _ _ w0 D0.src (by omega))
  unfold DIns at KR
  refine KR.out.mono ?_; rintro e w9 ⟨g, d, xs, rfl, hl, h9⟩
  have D1 := D0.add h9
  clear D0 h9 KR
  have K := (Kn.nil w).join (Kn.ofDR hb2 (Nat.le_refl _) D1)
  go_wp2_with fail
  go_ret
  exact ⟨_, d, xs, rfl, by omega, K⟩
set_option maxRecDepth 100000 in
set_option maxHeartbeats 1600000 in
theorem DrawFlatStrokes_any (A : Option Addr) (n c : Nat) (bs : List UInt8) (w : World) (hb : RB w A n bs) (hn : n ≤ 9223372036854775807) :
    Calls Try.prog 13 #[.slice A n c] w (DrawsIns w) := by
  unfold DrawsIns
  have HB := Lib.hid hb
  clear hb
  go_enter Try.func13, Try.ntmps13
  go_wp2_with fail
  refine (l00From_any A n c bs w HB.out hn).mono ?_; rintro e w0 ⟨rfl, hs, hb2⟩
  have D0 := DR.nil hs
  clear HB hs
  go_wp2_with fail
  refine (one_dr _ _ 2 w0 D0.src (by omega)).mono ?_; rintro e w1 ⟨z, rfl, h1⟩
  have D1 := D0.add h1
  clear D0 h1
  rcases z with _ | _
  · go_wp2_with fail
    have KR := Lib.hid (l11Bent_dr _ _ w1 D1.src (by omega))
    unfold DIns at KR
    refine KR.out.mono ?_; rintro e w9 ⟨g, d, xs, rfl, hl, h9⟩
    have D2 := D1.add h9
    clear D1 h9 KR
    have K := (Kn.nil w).join (Kn.ofDR hb2 (Nat.le_refl _) D2)
    go_wp2_with fail
    go_ret
    exact ⟨_, d, xs, rfl, by omega, K⟩
  · go_wp2_with fail
    refine (pick_dr _ _ 5 w1 D1.src (by omega)).mono ?_; rintro e w2 ⟨p, rfl, hp, h2⟩
    have D2 := D1.add h2
    clear D1 h2
    obtain ⟨q, rfl⟩ : ∃ q : Nat, p = q := ⟨p.toNat, by omega⟩
    have hq : q ≤ 4 := by rcases hp.2 with h | h <;> omega
    clear hp
    go_wp2_with fail
    refine (pick_dr _ _ 9 w2 D2.src (by omega)).mono ?_; rintro e w3 ⟨r, rfl, hr, h2⟩
    have K3 := (Kn.nil w).join (Kn.ofDR hb2 (Nat.le_refl _) (D2.add h2))
    clear D2 h2 hb2
    have KR := Lib.hid (fun t W => l11Nest_any q t W (by omega))
    unfold InsRet at KR
    go_wp2_with fail
    refine (KR.out _ _).mono ?_; rintro e w4 ⟨g, d, xs, rfl, hl, h3⟩
    have K4 := K3.join h3
    clear K3 h3 KR
    go_wp2_with fail
    go_ret
    exact ⟨_, d, xs, rfl, by omega, K4⟩
set_option maxRecDepth 100000 in
set_option maxHeartbeats 1600000 in
theorem DrawMatchOf_any (A : Option Addr) (n c : Nat) (bs : List UInt8) (w : World) (hb : RB w A n bs) (hn : n ≤ 9223372036854775807) :
    Calls Try.prog 19 #[.slice A n c] w fun e w' => ∃ (B : Option Addr) (d : Nat) (xs : List Ins) (x : Int), e = .returned (.tuple #[.slice B xs.length d, .int .i64 x]) ∧ xs.length ≤ 200 ∧ Kn w [rowIns (.slice B xs.length d) xs] w' := by
  have HB := Lib.hid hb
  clear hb
  go_enter Try.func19, Try.ntmps19
  go_wp2_with fail
  refine (l00From_any A n c bs w HB.out hn).mono ?_; rintro e w0 ⟨rfl, hs, hb2⟩
  have D0 := DR.nil hs
  clear HB hs
  go_wp2_with fail
  have KR := Lib.hid (l11Bent_dr _ _ w0 D0.src (by omega))
  unfold DIns at KR
  refine KR.out.mono ?_; rintro e w9 ⟨g, d, xs, rfl, hl, h9⟩
  have D1 := D0.add h9
  clear D0 h9 KR
  have hw1 : IntKind.i64.wrap ((xs.length : Int) + 1) = (xs.length : Int) + 1 := wrapI64 (by omega)
  go_wp2_with fail
  refine (pick_dr _ _ ((xs.length : Int) + 1) w9 D1.src (by omega)).mono ?_; rintro e w2 ⟨p, rfl, hp, h2⟩
  have D2 := D1.add h2
  clear D1 h2
  go_wp2_with fail
  refine (pick_dr _ _ 16 w2 D2.src (by omega)).mono ?_; rintro e w3 ⟨r, rfl, hr, h2⟩
  have K3 : Kn w [rowIns (.slice (some ⟨g, 0, none⟩) xs.length d) xs] w3 := (Kn.nil w).join (Kn.ofDR hb2 (Nat.le_refl _) (D2.add h2))
  clear D2 h2 hb2
  go_wp2_with fail
  go_ret2
  exact ⟨_, d, xs, _, rfl, by omega, K3⟩
def DrawsRun (w : World) (e : Ending) (w' : World) : Prop := ∃ (t : Tri) (A1 : Option Addr) (c1 : Nat) (A2 : Option Addr) (c2 : Nat) (A3 : Option Addr) (c3 : Nat) (B : Option Addr) (d : Nat) (xs : List Ins), e = .returned (.tuple #[.agg #[.int .i64 t.a.base, .slice A1 t.a.digits.length c1, .int .i64 t.b.base, .slice A2 t.b.digits.length c2, .int .i64 t.s.base, .slice A3 t.s.digits.length c3, .int .i64 t.carry], .slice B xs.length d]) ∧ ((t.a.digits.length ≤ 22 ∧ t.b.digits.length ≤ 22 ∧ t.s.digits.length ≤ 22) ∧ xs.length ≤ 200) ∧ Kn w [rowI A3 c3 t.s.digits, rowI A2 c2 t.b.digits, rowI A1 c1 t.a.digits, rowIns (.slice B xs.length d) xs] w'
set_option maxRecDepth 100000 in
set_option maxHeartbeats 3200000 in
theorem l11Ask_any (A : Option Addr) (n c : Nat) (bs : List UInt8) (w : World) (hb : RB w A n bs) (hn : n ≤ 9223372036854775807) :
    Calls Try.prog 64 #[.slice A n c] w (DrawsRun w) := by
  unfold DrawsRun
  have HB := Lib.hid hb
  clear hb
  go_enter Try.func64, Try.ntmps64
  go_wp2_with fail
  refine Calls.kn ((Kn.nil w).al [.int .i64 0, .slice none 0 0, .int .i64 0, .slice none 0 0, .int .i64 0, .slice none 0 0, .int .i64 0] 28) ?_; intro w1 K1
  refine (l00From_any A n c bs w1 (HB.out.below K1.below) hn).mono ?_; rintro e w2 ⟨rfl, hs, hb2⟩
  have D2 := DR.nil hs
  clear HB hs
  go_wp2_with fail
  have KD := Lib.hid (l10Bent_dr _ _ w2 D2.src (by omega))
  unfold DBent at KD
  refine KD.out.mono ?_; rintro e w3 ⟨t, A1, c1, A2, c2, A3, c3, rfl, hl, h3⟩
  have D3 := D2.add h3
  clear D2 h3 KD
  go_wp2_with fail
  obtain ⟨g, hg⟩ : ∃ g, w3.heap.size = g := ⟨_, rfl⟩
  have D4 := D3.al [.int .i64 t.a.base, .slice A1 t.a.digits.length c1, .int .i64 t.b.base, .slice A2 t.b.digits.length c2, .int .i64 t.s.base, .slice A3 t.s.digits.length c3, .int .i64 t.carry] 28
  rw [hg] at D4 ⊢
  generalize w3.alloc (.cells #[.int .i64 t.a.base, .slice A1 t.a.digits.length c1, .int .i64 t.b.base, .slice A2 t.b.digits.length c2, .int .i64 t.s.base, .slice A3 t.s.digits.length c3, .int .i64 t.carry] 28) = w4 at D4 ⊢
  clear D3 hg
  have HG := Lib.hid (D4.drew.box7at 0 rfl)
  have HT := HG
  have HV := Lib.hid (l11Bent_dr _ _ _ D4.drew.src (by omega))
  unfold DIns at HV
  go_region_held3 (fun W => W.cell? ⟨g, 0, none⟩ = some (.int .i64 t.a.base) ∧ W.cell? ⟨g, 1, none⟩ = some (.slice A1 t.a.digits.length c1) ∧ W.cell? ⟨g, 2, none⟩ = some (.int .i64 t.b.base) ∧ W.cell? ⟨g, 3, none⟩ = some (.slice A2 t.b.digits.length c2) ∧ W.cell? ⟨g, 4, none⟩ = some (.int .i64 t.s.base) ∧ W.cell? ⟨g, 5, none⟩ = some (.slice A3 t.s.digits.length c3) ∧ W.cell? ⟨g, 6, none⟩ = some (.int .i64 t.carry)) (first | with_reducible exact HG.out | with_reducible exact HT.out | exact HG.out | exact HT.out) (first
    | (go_at_call 75; (refine HV.out.mono ?_); rintro e w5 ⟨h, d, xs, rfl, hxl, h5⟩; have D5 := D4.drew.add h5; clear HG; have HG := Lib.hid (D5.box7at 1 rfl); have K5 : Kn w [rowIns (.slice (some ⟨h, 0, none⟩) xs.length d) xs, .blk g [.int .i64 t.a.base, .slice A1 t.a.digits.length c1, .int .i64 t.b.base, .slice A2 t.b.digits.length c2, .int .i64 t.s.base, .slice A3 t.s.digits.length c3, .int .i64 t.carry] 28, rowI A3 c3 t.s.digits, rowI A2 c2 t.b.digits, rowI A1 c1 t.a.digits, .blk w.heap.size [.int .i64 0, .slice none 0 0, .int .i64 0, .slice none 0 0, .int .i64 0, .slice none 0 0, .int .i64 0] 28] w5 := K1.join (Kn.ofDR hb2 (Nat.le_refl _) D5); obtain ⟨x1, x2, x3, -⟩ := (K5.front 5 rfl).cells; have K8 := ((((((((K5.front 5 rfl).st 0 (.int .i64 t.a.base)).st 1 (.slice A1 t.a.digits.length c1)).st 2 (.int .i64 t.b.base)).st 3 (.slice A2 t.b.digits.length c2)).st 4 (.int .i64 t.s.base)).st 5 (.slice A3 t.s.digits.length c3)).st 6 (.int .i64 t.carry)); clear HT; have HT := Lib.hid (Go.Proofs.Ytkfbfainhmkkdaa.box7at K8 2 rfl)))
  all_goals
    go_wp2_with fail
    refine bodyPost.kn K8 ?_; intro w9 K9
    clear x1 x2 x3
    obtain ⟨a1, a2, a3, -⟩ := K9.cells
    exact bodyPost_ret (v := .tuple #[.agg #[.int .i64 t.a.base, .slice A1 t.a.digits.length c1, .int .i64 t.b.base, .slice A2 t.b.digits.length c2, .int .i64 t.s.base, .slice A3 t.s.digits.length c3, .int .i64 t.carry], .slice (some ⟨h, 0, none⟩) xs.length d]) (by simp [results, Try.results64, go_sem, a1]) rfl ⟨t, A1, c1, A2, c2, A3, c3, _, d, xs, rfl, ⟨hl, by omega⟩, K9.sel [3, 4, 5, 1] 99 (by decide) (by decide)⟩
set_option maxRecDepth 100000 in
set_option maxHeartbeats 3200000 in
theorem DrawRunProgram_any (A : Option Addr) (n c : Nat) (bs : List UInt8) (w : World) (hb : RB w A n bs) (hn : n ≤ 9223372036854775807) :
    Calls Try.prog 8 #[.slice A n c] w (DrawsRun w) := by
  have KA := Lib.hid (fun W (hW : Below w.heap.size w W) => l11Ask_any A n c bs W (hb.below hW) hn)
  unfold DrawsRun at KA ⊢
  clear hb
  go_enter Try.func8, Try.ntmps8
  go_wp2_with fail
  refine Calls.kn ((Kn.nil w).al [.int .i64 0, .slice none 0 0, .int .i64 0, .slice none 0 0, .int .i64 0, .slice none 0 0, .int .i64 0] 28) ?_; intro w1 K1
  refine (KA.out _ K1.below).mono ?_; rintro e w2 ⟨t, A1, c1, A2, c2, A3, c3, B, d, xs, rfl, ⟨hl, hxl⟩, hK⟩
  have K6 := K1.join hK
  clear K1 hK KA
  obtain ⟨x1, x2, x3, -⟩ := (K6.front 4 rfl).cells
  go_wp2_with fail
  refine bodyPost.kn ((((((((K6.front 4 rfl).st 0 (.int .i64 t.a.base)).st 1 (.slice A1 t.a.digits.length c1)).st 2 (.int .i64 t.b.base)).st 3 (.slice A2 t.b.digits.length c2)).st 4 (.int .i64 t.s.base)).st 5 (.slice A3 t.s.digits.length c3)).st 6 (.int .i64 t.carry)) ?_; intro w9 K9
  clear x1 x2 x3
  obtain ⟨a1, a2, a3, -⟩ := K9.cells
  exact bodyPost_ret (v := .tuple #[.agg #[.int .i64 t.a.base, .slice A1 t.a.digits.length c1, .int .i64 t.b.base, .slice A2 t.b.digits.length c2, .int .i64 t.s.base, .slice A3 t.s.digits.length c3, .int .i64 t.carry], .slice B xs.length d]) (by simp [results, Try.results8, go_sem, a1]) rfl ⟨t, A1, c1, A2, c2, A3, c3, B, d, xs, rfl, ⟨hl, hxl⟩, K9.sel [1, 2, 3, 4] 99 (by decide) (by decide)⟩
/-! MatchOf and DepthOfProgram -/
def MT (L : List Ins) (x : Int) (v c : Int) : Prop :=
  (vprog L = false ∧ v = 0 ∧ c = 1) ∨ (vprog L = true ∧ betB x 0 ((L.length : Int) - 1) = false ∧ v = 0 ∧ c = 2) ∨
  (∃ (i : Nat) (hi : i < L.length), vprog L = true ∧ x = i ∧ opens L[i].op = false ∧ v = 0 ∧ c = 6) ∨
  (∃ (i e : Nat) (hi : i < L.length), vprog L = true ∧ x = i ∧ opens L[i].op = true ∧ IsMatch L i e ∧ v = e ∧ c = 0)
theorem MT.one {L : List Ins} {x v c v' c' : Int} (h : MT L x v c) (h' : MT L x v' c') : v = v' ∧ c = c' := by
  have hb : ∀ i : Nat, i < L.length → x = i → betB x 0 ((L.length : Int) - 1) = true := fun i hi hx => betB_iff.2 (by omega)
  rcases h with ⟨a, rfl, rfl⟩ | ⟨a, b, rfl, rfl⟩ | ⟨i, hi, a, rfl, b, rfl, rfl⟩ | ⟨i, e, hi, a, rfl, b, hm, rfl, rfl⟩
  · rcases h' with ⟨a', rfl, rfl⟩ | ⟨a', b', rfl, rfl⟩ | ⟨i', hi', a', hx, b', rfl, rfl⟩ | ⟨i', e', hi', a', hx, b', hm', rfl, rfl⟩
    · exact ⟨rfl, rfl⟩
    all_goals (rw [a] at a'; cases a')
  · rcases h' with ⟨a', rfl, rfl⟩ | ⟨a', b', rfl, rfl⟩ | ⟨i', hi', a', hx, b', rfl, rfl⟩ | ⟨i', e', hi', a', hx, b', hm', rfl, rfl⟩
    · rw [a] at a'; cases a'
    · exact ⟨rfl, rfl⟩
    · rw [hb i' hi' hx] at b; cases b
    · rw [hb i' hi' hx] at b; cases b
  · rcases h' with ⟨a', rfl, rfl⟩ | ⟨a', b', rfl, rfl⟩ | ⟨i', hi', a', hx, b', rfl, rfl⟩ | ⟨i', e', hi', a', hx, b', hm', rfl, rfl⟩
    · rw [a] at a'; cases a'
    · rw [hb i hi rfl] at b'; cases b'
    · exact ⟨rfl, rfl⟩
    · obtain rfl : i = i' := by omega
      rw [b] at b'; cases b'
  · rcases h' with ⟨a', rfl, rfl⟩ | ⟨a', b', rfl, rfl⟩ | ⟨i', hi', a', hx, b', rfl, rfl⟩ | ⟨i', e', hi', a', hx, b', hm', rfl, rfl⟩
    · rw [a] at a'; cases a'
    · rw [hb i hi rfl] at b'; cases b'
    · obtain rfl : i = i' := by omega
      rw [b] at b'; cases b'
    · obtain rfl : i = i' := by omega
      rw [hm.one hm']
      exact ⟨rfl, rfl⟩
/-- where a loop ends there is an end -/
theorem match_end {L : List Ins} (hv : vprog L = true) {i e : Nat} (hi : i < L.length) (ho : opens L[i].op = true) (hm : IsMatch L i e) : i < e ∧ ∃ he : e < L.length, L[e].op = 10 := by
  obtain ⟨m1, m2, m3, m4⟩ := hm
  have h1 := dep_open hv hi ho
  have hie : i < e := by
    rcases Nat.lt_or_ge i e with h | h
    · exact h
    · obtain rfl : i = e := by omega
      omega
  refine ⟨hie, m2, ?_⟩
  have h2 := m4 e hie (Nat.le_refl _)
  rcases Decidable.em (L[e].op = 10) with h | h
  · exact h
  · exfalso
    cases hoe : opens L[e].op with
    | true => have := dep_open hv m2 hoe; omega
    | false => have := dep_same hv m2 hoe h; omega
def MTRet (L : List Ins) (x : Int) (w : World) (e : Ending) (w' : World) : Prop := ∃ v c : Int, e = .returned (.tuple #[.int .i64 v, .int .i64 c]) ∧ MT L x v c ∧ Below w.heap.size w w'
set_option maxRecDepth 100000 in
set_option maxHeartbeats 3200000 in
theorem MatchOf_any (L : List Ins) (A : Option Addr) (n c : Nat) (x : Int) (w : World) (hr : RL InsM 2 w A n L) (hn : n ≤ 1000000) : Calls Try.prog 20 #[.slice A n c, .int .i64 x] w (MTRet L x w) := by
  unfold MTRet
  have hln := hr.1
  have KV := (fun W (hW : Below w.heap.size w W) => ValidProgram_any A n c L W (hr.below steady_InsM hW) (by omega))
  have hw1 : IntKind.i64.wrap ((n : Int) - 1) = (n : Int) - 1 := wrapI64 (by omega)
  cases hv : vprog L with
  | false =>
    rw [hv] at KV
    have KV := Lib.hid KV
    have HE := Lib.hid (show MT L x 0 1 from .inl ⟨hv, rfl, rfl⟩)
    clear hv hr hln
    go_enter Try.func20, Try.ntmps20
    go_wp2_with fail
    refine (KV.out _ (Below.refl _ _)).mono ?_; rintro e w1 ⟨rfl, hw⟩
    have K1 := (Kn.nil w).keep hw
    go_wp2_with fail
    go_ret2
    exact ⟨0, 1, rfl, HE.out, K1.below⟩
  | true =>
    rw [hv] at KV
    have KV := Lib.hid KV
    have KB := (fun W => between_B x 0 ((n : Int) - 1) W)
    cases hx : betB x 0 ((n : Int) - 1) with
    | false =>
      rw [hx] at KB
      have KB := Lib.hid KB
      have HE := Lib.hid (show MT L x 0 2 from .inr (.inl ⟨hv, by rw [hln]; exact hx, rfl, rfl⟩))
      clear hv hr hln hx
      go_enter Try.func20, Try.ntmps20
      go_wp2_with fail
      refine (KV.out _ (Below.refl _ _)).mono ?_; rintro e w1 ⟨rfl, hw⟩
      have K1 := (Kn.nil w).keep hw
      clear hw
      go_wp2_with fail
      refine (KB.out _).mono ?_; rintro e w2 ⟨rfl, hw⟩
      have K2 := K1.keep hw
      go_wp2_with fail
      go_ret2
      exact ⟨0, 2, rfl, HE.out, K2.below⟩
    | true =>
      have hx2 := betB_iff.1 hx
      obtain ⟨i, rfl⟩ : ∃ i : Nat, x = i := ⟨x.toNat, by omega⟩
      have hin : i < n := by omega
      rw [hx] at KB
      have KB := Lib.hid KB
      have hil : i < L.length := by omega
      have KI := Lib.hid (fun W (hW : Below w.heap.size w W) => (hr.below steady_InsM hW).at_ hin)
      have KM := (fun W (hW : Below w.heap.size w W) ho => matchOf_any A n c L i W (hr.below steady_InsM hW) hv hil ho)
      have hi0 : (0 : Int) ≤ (i : Int) := by omega
      have hi1 : (i : Int) < (n : Int) := by omega
      cases ho : opens L[i].op with
      | false =>
        have HE := Lib.hid (show MT L i 0 6 from .inr (.inr (.inl ⟨i, hil, hv, rfl, ho, rfl, rfl⟩)))
        have HO := Lib.hid ho
        clear hv hr hln hx hx2 KM ho
        go_enter Try.func20, Try.ntmps20
        go_wp2_with fail
        refine (KV.out _ (Below.refl _ _)).mono ?_; rintro e w1 ⟨rfl, hw⟩
        have K1 := (Kn.nil w).keep hw
        clear hw
        go_wp2_with fail
        refine (KB.out _).mono ?_; rintro e w2 ⟨rfl, hw⟩
        have K2 := K1.keep hw
        clear hw K1
        obtain ⟨ad, hA, hlt, hkl, y1, y2⟩ := KI.out _ K2.below
        have ho2 := HO.out
        obtain ⟨y, hy⟩ : ∃ y, L[i] = y := ⟨_, rfl⟩
        rw [hy] at y1 y2 ho2
        have KO := (fun W => begins_any y.op y.arg W)
        rw [ho2] at KO
        have KO := Lib.hid KO
        subst hA
        clear hy HO ho2 KI
        go_wp2_with fail
        refine (KO.out _).mono ?_; rintro e w3 ⟨rfl, hw⟩
        have K3 := K2.keep hw
        go_wp2_with fail
        go_ret2
        exact ⟨0, 6, rfl, HE.out, K3.below⟩
      | true =>
        have HE := Lib.hid (fun (e : Nat) (hm : IsMatch L i e) => show MT L i e 0 from .inr (.inr (.inr ⟨i, e, hil, hv, rfl, ho, hm, rfl, rfl⟩)))
        have HO := Lib.hid ho
        have KM := Lib.hid (fun W (hW : Below w.heap.size w W) => KM W hW ho)
        clear hv hr hln hx hx2 ho
        go_enter Try.func20, Try.ntmps20
        go_wp2_with fail
        refine (KV.out _ (Below.refl _ _)).mono ?_; rintro e w1 ⟨rfl, hw⟩
        have K1 := (Kn.nil w).keep hw
        clear hw
        go_wp2_with fail
        refine (KB.out _).mono ?_; rintro e w2 ⟨rfl, hw⟩
        have K2 := K1.keep hw
        clear hw K1
        obtain ⟨ad, hA, hlt, hkl, y1, y2⟩ := KI.out _ K2.below
        have ho2 := HO.out
        obtain ⟨y, hy⟩ : ∃ y, L[i] = y := ⟨_, rfl⟩
        rw [hy] at y1 y2 ho2
        have KO := (fun W => begins_any y.op y.arg W)
        rw [ho2] at KO
        have KO := Lib.hid KO
        have HA := Lib.hid hA
        subst hA
        clear hy HO ho2 KI
        go_wp2_with fail
        refine (KO.out _).mono ?_; rintro e w3 ⟨rfl, hw⟩
        have K3 := K2.keep hw
        clear hw K2 y1 y2
        go_wp2_with fail
        refine (KM.out _ K3.below).mono ?_; rintro e w4 ⟨f, rfl, hm, hw⟩
        have K4 := K3.keep hw
        go_wp2_with fail
        go_ret2
        exact ⟨f, 0, rfl, HE.out f hm, K4.below⟩
set_option maxRecDepth 100000 in
set_option maxHeartbeats 3200000 in
theorem specMatchOf_any (L : List Ins) (A : Option Addr) (n c : Nat) (x : Int) (w : World) (hr : RL InsM 2 w A n L) (hn : n ≤ 1000000) : Calls Try.prog 21 #[.slice A n c, .int .i64 x] w (MTRet L x w) := by
  unfold MTRet
  have hln := hr.1
  have KV := (fun W (hW : Below w.heap.size w W) => (l11Ok_any A n c L W (hr.below steady_InsM hW) (by omega)).mono (fun e w' h => show e = _ ∧ Below W.heap.size W w' from ⟨h.1, by obtain ⟨q, rfl⟩ := h.2; exact ((Kn.nil W).drewN q).below⟩))
  have hw1 : IntKind.i64.wrap ((n : Int) - 1) = (n : Int) - 1 := wrapI64 (by omega)
  cases hv : vprog L with
  | false =>
    rw [hv] at KV
    have KV := Lib.hid KV
    have HE := Lib.hid (show MT L x 0 1 from .inl ⟨hv, rfl, rfl⟩)
    clear hv hr hln
    go_enter Try.func21, Try.ntmps21
    go_wp2_with fail
    refine (KV.out _ (Below.refl _ _)).mono ?_; rintro e w1 ⟨rfl, hw⟩
    have K1 := (Kn.nil w).keep hw
    go_wp2_with fail
    go_ret2
    exact ⟨0, 1, rfl, HE.out, K1.below⟩
  | true =>
    rw [hv] at KV
    have KV := Lib.hid KV
    have KB := (fun W => (l00In_any x 0 ((n : Int) - 1) W).mono (fun e w' h => show e = _ ∧ Below W.heap.size W w' from ⟨h.1, by obtain rfl := h.2; exact Below.refl _ _⟩))
    cases hx : betB x 0 ((n : Int) - 1) with
    | false =>
      rw [hx] at KB
      have KB := Lib.hid KB
      have HE := Lib.hid (show MT L x 0 2 from .inr (.inl ⟨hv, by rw [hln]; exact hx, rfl, rfl⟩))
      clear hv hr hln hx
      go_enter Try.func21, Try.ntmps21
      go_wp2_with fail
      refine (KV.out _ (Below.refl _ _)).mono ?_; rintro e w1 ⟨rfl, hw⟩
      have K1 := (Kn.nil w).keep hw
      clear hw
      go_wp2_with fail
      refine (KB.out _).mono ?_; rintro e w2 ⟨rfl, hw⟩
      have K2 := K1.keep hw
      go_wp2_with fail
      go_ret2
      exact ⟨0, 2, rfl, HE.out, K2.below⟩
    | true =>
      have hx2 := betB_iff.1 hx
      obtain ⟨i, rfl⟩ : ∃ i : Nat, x = i := ⟨x.toNat, by omega⟩
      have hin : i < n := by omega
      rw [hx] at KB
      have KB := Lib.hid KB
      have hil : i < L.length := by omega
      have KI := Lib.hid (fun W (hW : Below w.heap.size w W) => (hr.below steady_InsM hW).at_ hin)
      have KM := (fun W (hW : Below w.heap.size w W) ho => (l11Match_any A n c L i W (hr.below steady_InsM hW) hv hil ho).mono (fun e w' h => show ∃ f : Nat, e = .returned (.int .i64 f) ∧ IsMatch L i f ∧ Below W.heap.size W w' from by obtain ⟨f, h1, h2, rfl⟩ := h; exact ⟨f, h1, h2, Below.refl _ _⟩))
      have hi0 : (0 : Int) ≤ (i : Int) := by omega
      have hi1 : (i : Int) < (n : Int) := by omega
      cases ho : opens L[i].op with
      | false =>
        have HE := Lib.hid (show MT L i 0 6 from .inr (.inr (.inl ⟨i, hil, hv, rfl, ho, rfl, rfl⟩)))
        have HO := Lib.hid ho
        clear hv hr hln hx hx2 KM ho
        go_enter Try.func21, Try.ntmps21
        go_wp2_with fail
        refine (KV.out _ (Below.refl _ _)).mono ?_; rintro e w1 ⟨rfl, hw⟩
        have K1 := (Kn.nil w).keep hw
        clear hw
        go_wp2_with fail
        refine (KB.out _).mono ?_; rintro e w2 ⟨rfl, hw⟩
        have K2 := K1.keep hw
        clear hw K1
        obtain ⟨ad, hA, hlt, hkl, y1, y2⟩ := KI.out _ K2.below
        have ho2 := HO.out
        obtain ⟨y, hy⟩ : ∃ y, L[i] = y := ⟨_, rfl⟩
        rw [hy] at y1 y2 ho2
        have KO := (fun W => (l11Opens_any y.op W).mono (fun e w' h => show e = _ ∧ Below W.heap.size W w' from ⟨h.1, by obtain rfl := h.2; exact Below.refl _ _⟩))
        rw [ho2] at KO
        have KO := Lib.hid KO
        subst hA
        clear hy HO ho2 KI
        go_wp2_with fail
        refine (KO.out _).mono ?_; rintro e w3 ⟨rfl, hw⟩
        have K3 := K2.keep hw
        go_wp2_with fail
        go_ret2
        exact ⟨0, 6, rfl, HE.out, K3.below⟩
      | true =>
        have HE := Lib.hid (fun (e : Nat) (hm : IsMatch L i e) => show MT L i e 0 from .inr (.inr (.inr ⟨i, e, hil, hv, rfl, ho, hm, rfl, rfl⟩)))
        have HO := Lib.hid ho
        have KM := Lib.hid (fun W (hW : Below w.heap.size w W) => KM W hW ho)
        clear hv hr hln hx hx2 ho
        go_enter Try.func21, Try.ntmps21
        go_wp2_with fail
        refine (KV.out _ (Below.refl _ _)).mono ?_; rintro e w1 ⟨rfl, hw⟩
        have K1 := (Kn.nil w).keep hw
        clear hw
        go_wp2_with fail
        refine (KB.out _).mono ?_; rintro e w2 ⟨rfl, hw⟩
        have K2 := K1.keep hw
        clear hw K1
        obtain ⟨ad, hA, hlt, hkl, y1, y2⟩ := KI.out _ K2.below
        have ho2 := HO.out
        obtain ⟨y, hy⟩ : ∃ y, L[i] = y := ⟨_, rfl⟩
        rw [hy] at y1 y2 ho2
        have KO := (fun W => (l11Opens_any y.op W).mono (fun e w' h => show e = _ ∧ Below W.heap.size W w' from ⟨h.1, by obtain rfl := h.2; exact Below.refl _ _⟩))
        rw [ho2] at KO
        have KO := Lib.hid KO
        have HA := Lib.hid hA
        subst hA
        clear hy HO ho2 KI
        go_wp2_with fail
        refine (KO.out _).mono ?_; rintro e w3 ⟨rfl, hw⟩
        have K3 := K2.keep hw
        clear hw K2 y1 y2
        go_wp2_with fail
        refine (KM.out _ K3.below).mono ?_; rintro e w4 ⟨f, rfl, hm, hw⟩
        have K4 := K3.keep hw
        go_wp2_with fail
        go_ret2
        exact ⟨f, 0, rfl, HE.out f hm, K4.below⟩
end Go.Proofs.Ytkfbfainhmkkdaa

namespace Go.Proofs.Ytkfbfainhmkkdaa
open Go.RowKit Go.Sort
/-! how deep loops are, and how many strokes a flat program makes -/
def mxA (L : List Ins) : Nat → Int
  | 0 => 0
  | k + 1 => max (mxA L k) (depA L (k + 1))
theorem mxA_bd {L : List Ins} (hv : vprog L = true) : ∀ k, 0 ≤ mxA L k ∧ mxA L k ≤ 4
  | 0 => by simp [mxA]
  | k + 1 => by
    have h1 := mxA_bd hv k
    have h2 := dep_bd hv (k + 1)
    simp only [mxA]; omega
def dpV (L : List Ins) : Int := if vprog L = true then mxA L L.length else 0
def dpCode (L : List Ins) : Int := if vprog L = true then 0 else 1
def DepRet (L : List Ins) (w : World) (e : Ending) (w' : World) : Prop := e = .returned (.tuple #[.int .i64 (dpV L), .int .i64 (dpCode L)]) ∧ Below w.heap.size w w'
set_option maxRecDepth 100000 in
set_option maxHeartbeats 1600000 in
theorem DepthOfProgram_any (L : List Ins) (A : Option Addr) (n c : Nat) (w : World) (hr : RL InsM 2 w A n L) (hn : n ≤ 1000000) : Calls Try.prog 17 #[.slice A n c] w (DepRet L w) := by
  unfold DepRet dpV dpCode
  have hln := hr.1
  have KV := (fun W (hW : Below w.heap.size w W) => ValidProgram_any A n c L W (hr.below steady_InsM hW) (by omega))
  cases hv : vprog L with
  | false =>
    rw [hv] at KV
    have KV := Lib.hid KV
    clear hv hr hln
    go_enter Try.func17, Try.ntmps17
    go_wp2_with fail
    refine (KV.out _ (Below.refl _ _)).mono ?_; rintro e w1 ⟨rfl, hw⟩
    go_wp2_with fail
    go_ret2
    exact ⟨rfl, hw⟩
  | true =>
    rw [hv] at KV
    have KV := Lib.hid KV
    have HL := Lib.hid hln
    go_enter Try.func17, Try.ntmps17
    go_wp2_with fail
    refine (KV.out _ (Below.refl _ _)).mono ?_; rintro e w1 ⟨rfl, hw⟩
    have K1 := (Kn.nil w).keep hw
    clear hw KV
    go_wp2_with fail
    go_loopw [4, 5, 13] (fun dd mm ii wr => ∃ k : Nat, k ≤ n ∧ ii = .int .i64 k ∧ dd = .int .i64 (depA L k) ∧ mm = .int .i64 (mxA L k) ∧ Kn w [] wr) (fun _ _ ii _ => n - (intOf ii).toNat)
    case atStart => exact ⟨0, Nat.zero_le _, rfl, rfl, rfl, K1⟩
    case round =>
      obtain ⟨k, hk, rfl, rfl, rfl, hK⟩ := hrel
      clear K1
      by_cases hkn : k < n
      · obtain ⟨ad, hA, hlt, hkl, y1, y2⟩ := (hr.below steady_InsM hK.below).at_ hkn
        have hd := dep_bd hv k
        have hst := (dep_step hv hkl).2
        have hm := mxA_bd hv k
        obtain ⟨y, hy⟩ : ∃ y, L[k] = y := ⟨_, rfl⟩
        rw [hy] at y1 y2 hst
        have KD := (fun W => depthBehind_any y.op y.arg (depA L k) hd.1 hd.2 W)
        obtain ⟨d, hdd⟩ : ∃ d, depA L k = d := ⟨_, rfl⟩
        rw [hdd] at KD hst ⊢
        obtain ⟨m, hmm⟩ : ∃ m, mxA L k = m := ⟨_, rfl⟩
        have HM := Lib.hid (show mxA L (k + 1) = max m (depA L (k + 1)) by rw [← hmm]; rfl)
        rw [hmm]
        have KD := Lib.hid KD
        have HST := Lib.hid hst
        have hi0 : (0 : Int) ≤ (k : Int) := by omega
        have hi1 : (k : Int) < (n : Int) := by omega
        subst hA
        clear hst hm hd hdd hmm hy
        go_wp2_with fail
        refine Calls.kn (hK.al [.int .i64 y.op, .int .i64 y.arg] 46) ?_; intro w2 K2
        refine (KD.out _).mono ?_; rintro e w3 ⟨d2, f, rfl, hcs, hw⟩
        have K3 := (K2.keep hw).drop
        have HD2 : Hid (d2 = depA L (k + 1)) := by
          simp only [Hid]
          rcases hcs with ⟨h1, -⟩ | ⟨h1, -⟩
          · rw [HST.out] at h1; cases h1
          · rw [HST.out] at h1; injection h1 with h1; exact h1.symm
        clear hcs hw K2 y1 y2
        go_wp2_with fail
        go_roundw
        case rel => exact ⟨k + 1, by omega, by go_num, by rw [HD2.out], by rw [HM.out, ← HD2.out]; exact congrArg (Value.int .i64) (show (if m < d2 then d2 else m) = max m d2 by split <;> omega), K3⟩
        case measure => simp [intOf]; omega
      · have hi1 : ¬ (k : Int) < (n : Int) := by omega
        obtain rfl : k = n := by omega
        go_wp2_with fail
        go_ret2
        exact ⟨by rw [← HL.out]; rfl, hK.below⟩
set_option maxRecDepth 100000 in
set_option maxHeartbeats 1600000 in
theorem specDepthOfProgram_any (L : List Ins) (A : Option Addr) (n c : Nat) (w : World) (hr : RL InsM 2 w A n L) (hn : n ≤ 1000000) : Calls Try.prog 18 #[.slice A n c] w (DepRet L w) := by
  unfold DepRet dpV dpCode
  have hln := hr.1
  have KV := l11Ok_any A n c L w hr (by omega)
  cases hv : vprog L with
  | false =>
    rw [hv] at KV
    have KV := Lib.hid KV
    clear hv hr hln
    go_enter Try.func18, Try.ntmps18
    go_wp2_with fail
    refine KV.out.mono ?_; rintro e w1 ⟨rfl, q, rfl⟩
    have K1 := (Kn.nil w).drewN q
    go_wp2_with fail
    go_ret2
    exact ⟨rfl, K1.below⟩
  | true =>
    rw [hv] at KV
    have KV := Lib.hid KV
    have HL := Lib.hid hln
    go_enter Try.func18, Try.ntmps18
    go_wp2_with fail
    refine KV.out.mono ?_; rintro e w1 ⟨rfl, q, rfl⟩
    have K1 := (Kn.nil w).drewN q
    generalize w.drewN q = w1 at K1 ⊢
    clear KV
    go_wp2_with fail
    go_loopw [4, 5, 6] (fun dd mm ii wr => ∃ k : Nat, k ≤ n ∧ ii = .int .i64 k ∧ dd = .int .i64 (depA L k) ∧ mm = .int .i64 (mxA L k) ∧ Kn w [] wr) (fun _ _ ii _ => n - (intOf ii).toNat)
    case atStart => exact ⟨0, Nat.zero_le _, rfl, rfl, rfl, K1⟩
    case round =>
      obtain ⟨k, hk, rfl, rfl, rfl, hK⟩ := hrel
      clear K1
      by_cases hkn : k < n
      · obtain ⟨ad, hA, hlt, hkl, y1, y2⟩ := (hr.below steady_InsM hK.below).at_ hkn
        have hd := dep_bd hv k
        have hd2 := dep_bd hv (k + 1)
        have hm := mxA_bd hv k
        have hcs : (opens L[k].op = true ∧ depA L (k + 1) = depA L k + 1) ∨ (opens L[k].op = false ∧ L[k].op = 10 ∧ depA L (k + 1) = depA L k - 1) ∨ (opens L[k].op = false ∧ ¬ L[k].op = 10 ∧ depA L (k + 1) = depA L k) := by
          cases ho : opens L[k].op with
          | true => exact .inl ⟨rfl, dep_open hv hkl ho⟩
          | false =>
            by_cases h10 : L[k].op = 10
            · exact .inr (.inl ⟨rfl, h10, dep_close hv hkl h10⟩)
            · exact .inr (.inr ⟨rfl, h10, dep_same hv hkl ho h10⟩)
        obtain ⟨y, hy⟩ : ∃ y, L[k] = y := ⟨_, rfl⟩
        rw [hy] at y1 y2 hcs
        have KO := (fun W => l11Opens_any y.op W)
        obtain ⟨d, hdd⟩ : ∃ d, depA L k = d := ⟨_, rfl⟩
        obtain ⟨d2, hdd2⟩ : ∃ d, depA L (k + 1) = d := ⟨_, rfl⟩
        rw [hdd] at hcs hd ⊢
        rw [hdd2] at hcs hd2
        obtain ⟨m, hmm⟩ : ∃ m, mxA L k = m := ⟨_, rfl⟩
        have HM := Lib.hid (show mxA L (k + 1) = max m d2 by rw [← hmm, ← hdd2]; rfl)
        rw [hmm]
        have HD2 := Lib.hid hdd2
        have hi0 : (0 : Int) ≤ (k : Int) := by omega
        have hi1 : (k : Int) < (n : Int) := by omega
        subst hA
        clear hm hdd hmm hy hdd2
        rcases hcs with ⟨ho, rfl⟩ | ⟨ho, h10, rfl⟩ | ⟨ho, h10, rfl⟩
        · have h10 : (y.op == 10) = false := by
            cases h : (y.op == 10) with
            | false => rfl
            | true => rw [beq_iff_eq] at h; rw [h] at ho; cases ho
          rw [ho] at KO
          have KO := Lib.hid KO
          go_wp2_with (first | (go_at_call 80; refine (KO.out _).mono ?_; rintro e w' ⟨rfl, rfl⟩) | (go_at_call 81; refine (l00Max_any _ _ _).mono ?_; rintro e w' ⟨rfl, rfl⟩))
          go_roundw
          case rel => exact ⟨k + 1, by omega, by go_num, by rw [HD2.out], by rw [HM.out], hK⟩
          case measure => simp [intOf]; omega
        · rw [h10] at y1
          have KO := Lib.hid (fun W => calls_val (l11Opens_any 10 W) (congrArg Value.bool (show opens 10 = false from rfl)))
          go_wp2_with (first | (go_at_call 80; refine (KO.out _).mono ?_; rintro e w' ⟨rfl, rfl⟩) | (go_at_call 81; refine (l00Max_any _ _ _).mono ?_; rintro e w' ⟨rfl, rfl⟩))
          go_roundw
          case rel => exact ⟨k + 1, by omega, by go_num, by rw [HD2.out], by rw [HM.out], hK⟩
          case measure => simp [intOf]; omega
        · have h10b : (y.op == 10) = false := beq_eq_false_iff_ne.2 h10
          rw [ho] at KO
          have KO := Lib.hid KO
          go_wp2_with (first | (go_at_call 80; refine (KO.out _).mono ?_; rintro e w' ⟨rfl, rfl⟩) | (go_at_call 81; refine (l00Max_any _ _ _).mono ?_; rintro e w' ⟨rfl, rfl⟩))
          go_roundw
          case rel => exact ⟨k + 1, by omega, by go_num, by rw [HD2.out], by rw [HM.out], hK⟩
          case measure => simp [intOf]; omega
      · have hi1 : ¬ (k : Int) < (n : Int) := by omega
        obtain rfl : k = n := by omega
        go_wp2_with fail
        go_ret2
        exact ⟨by rw [← HL.out]; rfl, hK.below⟩
set_option maxRecDepth 100000 in
set_option maxHeartbeats 3200000 in
theorem flatCount_any {L : List Ins} (hv : vprog L = true) (hp : plainI L = true) : ∀ (m i0 tt : Nat) (out : List Int) (A : Option Addr) (c : Nat) (w : World), tt - i0 ≤ m → tt ≤ L.length → Fl L i0 tt out → out.length ≤ 1000000000000000 → RL InsM 2 w A L.length L →
    Calls Try.prog 76 #[.slice A L.length c, .int .i64 i0, .int .i64 tt] w fun e w' => e = .returned (.int .i64 out.length) ∧ Below w.heap.size w w' := by
  intro m
  induction m with
  | zero =>
    intro i0 tt out A c w hm htt hF hol hr
    have h0 := hF.nil (by omega)
    have hi1 : ¬ (i0 : Int) < (tt : Int) := by omega
    subst h0
    go_enter Try.func76, Try.ntmps76
    go_wp2_with fail
    go_loopw [7, 8] (fun nn ii wr => nn = .int .i64 0 ∧ ii = .int .i64 i0 ∧ wr = w) (fun _ ii _ => 0)
    case atStart => exact ⟨rfl, rfl, rfl⟩
    case round =>
      obtain ⟨rfl, rfl, rfl⟩ := hrel
      go_wp2_with fail
      go_ret
      exact ⟨rfl, Below.refl _ _⟩
  | succ m ih =>
    intro i0 tt out A c w hm htt hF hol hr
    have h120 := vprog_len hv
    have HIH := Lib.hid ih
    have HR := Lib.hid hr
    clear ih hr
    go_enter Try.func76, Try.ntmps76
    go_wp2_with fail
    go_loopw [7, 8] (fun nn ii wr => ∃ (i p : Nat) (rest : List Int), i0 ≤ i ∧ ii = .int .i64 i ∧ nn = .int .i64 p ∧ Hid (Fl L i tt rest) ∧ p + rest.length = out.length ∧ Kn w [] wr) (fun _ ii _ => tt - (intOf ii).toNat)
    case atStart => exact ⟨i0, 0, out, Nat.le_refl _, rfl, rfl, Lib.hid hF, by omega, Kn.nil w⟩
    case round =>
      clear hF
      obtain ⟨i, p, rest, hii, rfl, rfl, HF, hpl, hK⟩ := hrel
      by_cases hi : i < tt
      · obtain ⟨hil, hcs⟩ := HF.out.inv hi
        obtain ⟨ad, hA, hlt, hkl, y1, y2⟩ := (HR.out.below steady_InsM hK.below).at_ hil
        obtain ⟨hb1, hb9⟩ := plainI_get hp hil
        have hok := ins_ok hv hil
        rcases hcs with ⟨h8, e, body, rest2, hm2, het0, f1, f2, rfl⟩ | ⟨h8, h10, rest2, f2, rfl⟩
        · obtain ⟨o1, o2, o3, o4, o5⟩ := ins_bd hok hb1
          have ho : opens L[i].op = true := by rw [h8]; rfl
          obtain ⟨hie, hel, -⟩ := match_end hv hil ho hm2
          have hM1 := hm2
          have KM := Lib.hid (fun W (hW : Below w.heap.size w W) => matchOf_any A L.length c L i W (HR.out.below steady_InsM hW) hv hil ho)
          have HMO := Lib.hid (fun (f : Nat) (h : IsMatch L i f) => h.one hM1)
          have KF := Lib.hid (fun W (hW : Below w.heap.size w W) (het : e ≤ tt) hbl => HIH.out (i + 1) e body A c W (by omega) (by omega) f1 hbl (HR.out.below steady_InsM hW))
          have HF2 := Lib.hid f2
          rw [List.length_append, flat_rep] at hpl
          have hbl : body.length ≤ L[i].arg.toNat * body.length := Nat.le_mul_of_pos_left _ (by omega)
          obtain ⟨y, hy⟩ : ∃ y, L[i] = y := ⟨_, rfl⟩
          rw [hy] at y1 y2 h8 o1 o2 o3 o4 o5 hpl hbl
          rw [h8] at y1
          have o6 := o5 h8
          obtain ⟨a, ha⟩ : ∃ a : Nat, y.arg = a := ⟨y.arg.toNat, by omega⟩
          rw [ha] at y2 o3 o4 o6 hpl hbl
          rw [Int.toNat_natCast] at hpl hbl
          obtain ⟨bl, hbl2⟩ : ∃ b, body.length = b := ⟨_, rfl⟩
          have KF := KF.out
          rw [hbl2] at KF hpl hbl
          have KF := Lib.hid (fun W hW het => KF W hW het (by omega))
          obtain ⟨pr, hpr⟩ : ∃ q, a * bl = q := ⟨_, rfl⟩
          have hpr2 : (a : Int) * (bl : Int) = (pr : Int) := by rw [← hpr]; exact (Int.natCast_mul a bl).symm
          rw [hpr] at hpl hbl
          have hwp1 : IntKind.i64.wrap ((a : Int) * (bl : Int)) = (pr : Int) := by rw [hpr2]; exact wrapI64 (by omega)
          have hwp2 : IntKind.i64.wrap ((p : Int) + (pr : Int)) = ((p + pr : Nat) : Int) := by rw [wrapI64 (by omega)]; omega
          have hi0 : (0 : Int) ≤ (i : Int) := by omega
          have hi1 : (i : Int) < (tt : Int) := by omega
          have hi2 : (i : Int) < (L.length : Int) := by omega
          have hw3 : IntKind.i64.wrap ((i : Int) + 1) = ((i + 1 : Nat) : Int) := by rw [wrapI64 (by omega)]; omega
          subst hA
          clear hy hok hb1 hb9 f1 f2 HF HIH o5 h8 hpr hpr2 hbl2 hm2 hM1
          go_upto_region 6 with fail
          refine Code.wp.kn (hK.al [.int .i64 8, .int .i64 a] 46) ?_; intro w2 K2
          obtain ⟨g9, hg9⟩ : ∃ g, wr.heap.size = g := ⟨_, rfl⟩
          rw [hg9] at K2 ⊢
          clear hg9 hK
          obtain ⟨a1, a2, a3, -⟩ := K2.cells
          go_wp2_with fail
          refine (KM.out _ K2.below).mono ?_; rintro e3 w3 ⟨f, rfl, hmf, hw⟩
          obtain rfl : f = e := HMO.out f hmf
          have K3 := K2.keep hw
          clear K2 hw a1 a2 a3 KM HMO hmf
          go_upto_region 10 with fail
          have K4 := K3.drew
          have HG := Lib.hid (show w3.drew.cell? ⟨g9, 1, none⟩ = some (.int .i64 (a : Int)) from (box2 K4).2)
          have HT := HG
          have hte : f ≤ tt := by omega
          have KF2 := Lib.hid (KF.out _ K4.below hte)
          go_region_held3 (fun W => W.cell? ⟨g9, 1, none⟩ = some (.int .i64 (a : Int))) (first | with_reducible exact HG.out | with_reducible exact HT.out | exact HG.out | exact HT.out) (first
            | (go_at_call 76; (refine KF2.out.mono ?_); rintro e4 w4 ⟨rfl, hw⟩; have K5 := K4.keep hw; clear HG; have HG := Lib.hid (show w4.cell? ⟨g9, 1, none⟩ = some (.int .i64 (a : Int)) from (box2 K5).2)))
          all_goals
            have K6 := K5.drop
            go_wp2_with fail
            go_roundw
            case rel => exact ⟨f + 1, p + pr, rest2, by omega, by go_num, by go_num, HF2, by omega, K6⟩
            case measure => simp [intOf]; omega
        · have hpo := ins_plain hok hb1 h8 hb9 h10
          have HF2 := Lib.hid f2
          rw [List.length_append, List.length_replicate] at hpl
          obtain ⟨y, hy⟩ : ∃ y, L[i] = y := ⟨_, rfl⟩
          rw [hy] at y1 y2 h8 hpo hpl
          have h8b : (y.op == 8) = false := beq_eq_false_iff_ne.2 h8
          have hi0 : (0 : Int) ≤ (i : Int) := by omega
          have hi1 : (i : Int) < (tt : Int) := by omega
          have hi2 : (i : Int) < (L.length : Int) := by omega
          subst hA
          clear hy hok hb1 hb9 h10 f2 HF HIH
          rcases hpo with ⟨q1, q2, q3, q4⟩ | ⟨q1, q2⟩
          · have e6 : (y.op == 6) = false := by simp; omega
            have e7 : (y.op == 7) = false := by simp; omega
            have hwp : IntKind.i64.wrap ((p : Int) + y.arg) = ((p + y.arg.toNat : Nat) : Int) := by rw [wrapI64 (by omega)]; omega
            go_upto_region 6 with fail
            refine Code.wp.kn (hK.al [.int .i64 y.op, .int .i64 y.arg] 46) ?_; intro w2 K2
            obtain ⟨a1, a2, a3, -⟩ := K2.cells
            have K3 := K2.drop
            clear K2 hK
            go_wp2_with fail
            go_roundw
            case rel => exact ⟨i + 1, p + y.arg.toNat, rest2, by omega, by go_num, by go_num, HF2, by omega, K3⟩
            case measure => simp [intOf]; omega
          · have hwp : IntKind.i64.wrap ((p : Int) + 1) = ((p + 1 : Nat) : Int) := by rw [wrapI64 (by omega)]; omega
            rcases q1 with q1 | q1
            · rw [q1] at y1
              rw [q2] at y2
              go_upto_region 6 with fail
              refine Code.wp.kn (hK.al [.int .i64 6, .int .i64 0] 46) ?_; intro w2 K2
              obtain ⟨a1, a2, a3, -⟩ := K2.cells
              have K3 := K2.drop
              clear K2 hK
              go_wp2_with fail
              go_roundw
              case rel => exact ⟨i + 1, p + 1, rest2, by omega, by go_num, by go_num, HF2, by omega, K3⟩
              case measure => simp [intOf]; omega
            · rw [q1] at y1
              rw [q2] at y2
              go_upto_region 6 with fail
              refine Code.wp.kn (hK.al [.int .i64 7, .int .i64 0] 46) ?_; intro w2 K2
              obtain ⟨a1, a2, a3, -⟩ := K2.cells
              have K3 := K2.drop
              clear K2 hK
              go_wp2_with fail
              go_roundw
              case rel => exact ⟨i + 1, p + 1, rest2, by omega, by go_num, by go_num, HF2, by omega, K3⟩
              case measure => simp [intOf]; omega
      · have hi1 : ¬ (i : Int) < (tt : Int) := by omega
        have h0 := HF.out.nil hi
        subst h0
        have hpo : p = out.length := by simpa using hpl
        subst hpo
        go_wp2_with fail
        go_ret
        exact ⟨rfl, hK.below⟩
end Go.Proofs.Ytkfbfainhmkkdaa

namespace Go.Proofs.Ytkfbfainhmkkdaa
open Go.RowKit Go.Sort
/-! the strokes of a flat program -/
theorem rep_more {α : Type} (k : Nat) (b : List α) : (List.replicate (k + 1) b).flatten = (List.replicate k b).flatten ++ b := by
  rw [List.replicate_succ', List.flatten_append]; simp
theorem rep_more1 {α : Type} (k : Nat) (x : α) : List.replicate (k + 1) x = List.replicate k x ++ [x] := by
  rw [List.replicate_succ']
theorem rep_one {α : Type} (k : Nat) (x : α) : (List.replicate k [x]).flatten = List.replicate k x := by
  induction k with
  | zero => rfl
  | succ k ih => rw [List.replicate_succ, List.flatten_cons, ih, List.replicate_succ]; rfl
theorem rep_le {α : Type} {k m : Nat} (b : List α) (h : k ≤ m) : ((List.replicate k b).flatten).length ≤ ((List.replicate m b).flatten).length := by
  rw [flat_rep, flat_rep]; exact Nat.mul_le_mul_right _ h
theorem ints_one (ds : List Int) : ∀ u ∈ ds.map (Value.int .i64), u.oneCell' = true := by
  intro u hu
  obtain ⟨z, -, rfl⟩ := List.mem_map.1 hu
  rfl
/-- a row of numbers that is not nil -/
abbrev rowJ (g c : Nat) (ds : List Int) : Ent := rowI (some ⟨g, 0, none⟩) c ds
def FlRet (out : List Int) (w : World) (e : Ending) (w' : World) : Prop := ∃ g c, e = .returned (.slice (some ⟨g, 0, none⟩) out.length c) ∧ Kn w [rowJ g c out] w'
set_option maxRecDepth 100000 in
set_option maxHeartbeats 6400000 in
theorem flat_any {L : List Ins} (hv : vprog L = true) (hp : plainI L = true) : ∀ (m i0 tt : Nat) (out : List Int) (A : Option Addr) (c : Nat) (w : World), tt - i0 ≤ m → tt ≤ L.length → Fl L i0 tt out → out.length ≤ 3000 → RL InsM 2 w A L.length L →
    Calls Try.prog 77 #[.slice A L.length c, .int .i64 i0, .int .i64 tt] w (FlRet out w) := by
  intro m
  unfold FlRet
  induction m with
  | zero =>
    intro i0 tt out A c w hm htt hF hol hr
    have h0 := hF.nil (by omega)
    have hi1 : ¬ (i0 : Int) < (tt : Int) := by omega
    subst h0
    go_enter Try.func77, Try.ntmps77
    go_wp2_with fail
    have hK1 : Kn w [rowJ w.heap.size 0 []] (w.alloc (.cells #[] 2)) := ((Kn.nil w).al [] 2).litRow (size := 1) (n := 0) rfl (by decide)
    go_loopw [7, 8] (fun vv ii wr => vv = .slice (some ⟨w.heap.size, 0, none⟩) 0 0 ∧ ii = .int .i64 i0 ∧ Kn w [rowJ w.heap.size 0 []] wr) (fun _ ii _ => 0)
    case atStart => exact ⟨rfl, rfl, hK1⟩
    case round =>
      obtain ⟨rfl, rfl, hK⟩ := hrel
      go_wp2_with fail
      go_ret
      exact ⟨_, 0, rfl, hK⟩
  | succ m ih =>
    intro i0 tt out A c w hm htt hF hol hr
    have h120 := vprog_len hv
    have HIH := Lib.hid ih
    have HR := Lib.hid hr
    clear ih hr
    go_enter Try.func77, Try.ntmps77
    go_wp2_with fail
    have hK1 : Kn w [rowJ w.heap.size 0 []] (w.alloc (.cells #[] 2)) := ((Kn.nil w).al [] 2).litRow (size := 1) (n := 0) rfl (by decide)
    go_loopw [7, 8] (fun vv ii wr => ∃ (i g c : Nat) (pre rest : List Int), i0 ≤ i ∧ ii = .int .i64 i ∧ vv = .slice (some ⟨g, 0, none⟩) pre.length c ∧ Hid (Fl L i tt rest) ∧ Hid (pre ++ rest = out) ∧ Kn w [rowJ g c pre] wr) (fun _ ii _ => tt - (intOf ii).toNat)
    case atStart => exact ⟨i0, _, 0, [], out, Nat.le_refl _, rfl, rfl, Lib.hid hF, Lib.hid rfl, hK1⟩
    case round =>
      clear hF hK1
      obtain ⟨i, g, gc, pre, rest, hii, rfl, rfl, HF, HO, hK⟩ := hrel
      have hpl : pre.length + rest.length = out.length := by rw [← HO.out, List.length_append]
      by_cases hi : i < tt
      · obtain ⟨hil, hcs⟩ := HF.out.inv hi
        obtain ⟨ad, hA, hlt, hkl, y1, y2⟩ := (HR.out.below steady_InsM hK.below).at_ hil
        obtain ⟨hb1, hb9⟩ := plainI_get hp hil
        have hok := ins_ok hv hil
        rcases hcs with ⟨h8, e, body, rest2, hm2, het0, f1, f2, hre⟩ | ⟨h8, h10, rest2, f2, hre⟩
        · obtain ⟨o1, o2, o3, o4, o5⟩ := ins_bd hok hb1
          have ho : opens L[i].op = true := by rw [h8]; rfl
          obtain ⟨hie, hel, -⟩ := match_end hv hil ho hm2
          have hM1 := hm2
          have KM := Lib.hid (fun W (hW : Below w.heap.size w W) => matchOf_any A L.length c L i W (HR.out.below steady_InsM hW) hv hil ho)
          have HMO := Lib.hid (fun (f : Nat) (h : IsMatch L i f) => h.one hM1)
          have KF := Lib.hid (fun W (hW : Below w.heap.size w W) (het : e ≤ tt) hbl => HIH.out (i + 1) e body A c W (by omega) (by omega) f1 hbl (HR.out.below steady_InsM hW))
          have HF2 := Lib.hid f2
          have hrl := congrArg List.length hre
          rw [List.length_append, flat_rep] at hrl
          have hbl : body.length ≤ L[i].arg.toNat * body.length := Nat.le_mul_of_pos_left _ (by omega)
          obtain ⟨y, hy⟩ : ∃ y, L[i] = y := ⟨_, rfl⟩
          rw [hy] at y1 y2 h8 o1 o2 o3 o4 o5 hre hrl hbl
          rw [h8] at y1
          have o6 := o5 h8
          obtain ⟨a, ha⟩ : ∃ a : Nat, y.arg = a := ⟨y.arg.toNat, by omega⟩
          rw [ha] at y2 o3 o4 o6 hre hrl hbl
          rw [Int.toNat_natCast] at hre hrl hbl
          have HRE := Lib.hid hre
          have hrep := fun k (hk : k ≤ a) => rep_le body hk
          rw [flat_rep] at hrep
          have HREP := Lib.hid hrep
          have hi0 : (0 : Int) ≤ (i : Int) := by omega
          have hi1 : (i : Int) < (tt : Int) := by omega
          have hi2 : (i : Int) < (L.length : Int) := by omega
          have hw3 : IntKind.i64.wrap ((i : Int) + 1) = ((i + 1 : Nat) : Int) := by rw [wrapI64 (by omega)]; omega
          subst hA
          clear hy hok hb1 hb9 f1 f2 HF HIH o5 h8 hm2 hM1 hre hrep
          go_upto_region 6 with fail
          refine Code.wp.kn (hK.al [.int .i64 8, .int .i64 a] 46) ?_; intro w2 K2
          obtain ⟨g9, hg9⟩ : ∃ g, wr.heap.size = g := ⟨_, rfl⟩
          rw [hg9] at K2 ⊢
          clear hg9 hK
          obtain ⟨a1, a2, a3, -⟩ := K2.cells
          go_wp2_with fail
          refine (KM.out _ K2.below).mono ?_; rintro e3 w3 ⟨f, rfl, hmf, hw⟩
          obtain rfl : f = e := HMO.out f hmf
          have K3 := K2.keep hw
          clear K2 hw a1 a2 a3 KM HMO hmf
          have hte : f ≤ tt := by omega
          have KF2 := Lib.hid (KF.out _ K3.below hte (by omega))
          go_wp2_with fail
          refine KF2.out.mono ?_; rintro e4 w4 ⟨g5, c5, rfl, hKn⟩
          have K5 := K3.join hKn
          clear K3 hKn KF KF2
          obtain ⟨a1, a2, a3, -⟩ := (K5.front 1 rfl).cells
          have K6 : Kn w [rowJ g5 c5 body, rowJ g gc (pre ++ (List.replicate 0 body).flatten)] w4 := by
            have := K5.sel [0, 2] 99 (by decide) (by decide)
            rw [List.replicate_zero, List.flatten_nil, List.append_nil]; exact this
          clear K5
          go_wp2_with fail
          clear a1 a2 a3
          go_loopw [7, 36] (fun vv kk wi => ∃ (k g c : Nat), k ≤ a ∧ kk = .int .i64 k ∧ vv = .slice (some ⟨g, 0, none⟩) (pre ++ (List.replicate k body).flatten).length c ∧ Kn w [rowJ g5 c5 body, rowJ g c (pre ++ (List.replicate k body).flatten)] wi) (fun _ kk _ => a - (intOf kk).toNat)
          case atStart => exact ⟨0, g, gc, Nat.zero_le _, rfl, by rw [List.replicate_zero, List.flatten_nil, List.append_nil], K6⟩
          case round =>
            clear K6
            obtain ⟨k, gp, cp, hk, rfl, rfl, hKi⟩ := hrel
            by_cases hka : k < a
            · have hr1 := HREP.out k (by omega)
              have hMORE := Lib.hid (rep_more k body)
              have hpl2 : (pre ++ (List.replicate k body).flatten).length + body.length ≤ 9000 := by rw [List.length_append]; rw [flat_rep] at hr1 ⊢; omega
              obtain ⟨PL, hPL⟩ : ∃ PL, pre ++ (List.replicate k body).flatten = PL := ⟨_, rfl⟩
              rw [hPL] at hKi hpl2 ⊢
              have HPL2 := Lib.hid (show pre ++ (List.replicate (k + 1) body).flatten = PL ++ body by rw [hMORE.out, ← List.append_assoc, hPL])
              have i1 : (k : Int) < (a : Int) := by omega
              clear hPL hr1
              go_wp2_with (at_builtin; refine kn_appZ tpI rfl _ _ rfl (.slice (some ⟨gp, 0, none⟩) (PL).length cp) (PL).length ((PL).map (Value.int .i64)) rfl (by simp [Value.ownBlock]) rfl (show Kn w (.row (.slice (some ⟨g5, 0, none⟩) (body).length c5) 2 1 (body).length ((body).map (Value.int .i64)) :: .row (.slice (some ⟨gp, 0, none⟩) (PL).length cp) 2 1 (PL).length ((PL).map (Value.int .i64)) :: []) _ from hKi) (ints_one _) (by omega) (by omega) ?_; intro v13 w13 hb13 hK13; obtain ⟨g7, c7, rfl⟩ := row_some hK13.at0 hb13)
              have hK14 : Kn w [rowJ g5 c5 (body), rowJ g7 c7 (PL ++ body)] w13 := by
                unfold rowJ rowI; rw [List.length_append, List.map_append]; exact hK13.sw1
              clear hK13 hb13
              go_roundw
              case rel => exact ⟨k + 1, g7, c7, by omega, by go_num, by rw [HPL2.out, List.length_append], by rw [HPL2.out]; exact hK14⟩
              case measure => simp [intOf]; omega
            · obtain rfl : k = a := by omega
              have i1 : ¬ (k : Int) < (k : Int) := by omega
              have hK9 := hKi.drop
              have HO2 := Lib.hid (show pre ++ (List.replicate k body).flatten ++ rest2 = out by rw [List.append_assoc, ← HRE.out]; exact HO.out)
              clear hKi
              go_wp2_with fail
              go_roundw
              case rel => exact ⟨f + 1, gp, cp, pre ++ (List.replicate k body).flatten, rest2, by omega, by go_num, rfl, HF2, HO2, hK9⟩
              case measure => simp [intOf]; omega
        · have hpo := ins_plain hok hb1 h8 hb9 h10
          have HF2 := Lib.hid f2
          have hrl := congrArg List.length hre
          rw [List.length_append, List.length_replicate] at hrl
          obtain ⟨y, hy⟩ : ∃ y, L[i] = y := ⟨_, rfl⟩
          rw [hy] at y1 y2 h8 hpo hre hrl
          obtain ⟨mm, hmm⟩ : ∃ k : Nat, (max 1 y.arg).toNat = k := ⟨_, rfl⟩
          rw [hmm] at hre hrl
          have hm1 : 1 ≤ mm ∧ mm ≤ 100 ∧ ((y.arg = mm) ∨ (y.arg = 0 ∧ mm = 1)) := by omega
          have HRE := Lib.hid hre
          have ho7 : 2 ≤ y.op ∧ y.op ≤ 7 := by omega
          obtain ⟨op, hop⟩ : ∃ o, y.op = o := ⟨_, rfl⟩
          rw [hop] at y1 h8 ho7 HRE
          have h8b : (op == 8) = false := beq_eq_false_iff_ne.2 h8
          have hwo1 : IntKind.i64.wrap (op - 2) = op - 2 := wrapI64 (by omega)
          have hwo2 : IntKind.i64.wrap (op - 2 + 1) = op - 1 := by rw [wrapI64 (by omega)]; omega
          have hi0 : (0 : Int) ≤ (i : Int) := by omega
          have hi1 : (i : Int) < (tt : Int) := by omega
          have hi2 : (i : Int) < (L.length : Int) := by omega
          obtain ⟨ar, har⟩ : ∃ o, y.arg = o := ⟨_, rfl⟩
          rw [har] at y2 hm1
          have hmax : (if ar < 1 then 1 else ar) = (mm : Int) := by split <;> omega
          subst hA
          clear hy hok hb1 hb9 h10 f2 HF HIH hre hmm hpo hop har
          go_upto_region 6 with fail
          refine Code.wp.kn (hK.al [.int .i64 op, .int .i64 ar] 46) ?_; intro w2 K2
          obtain ⟨g9, hg9⟩ : ∃ g, wr.heap.size = g := ⟨_, rfl⟩
          rw [hg9] at K2 ⊢
          clear hg9 hK
          obtain ⟨a1, a2, a3, -⟩ := K2.cells
          have K6 : Kn w [rowJ g gc (pre ++ List.replicate 0 (op - 1)), .blk g9 [.int .i64 op, .int .i64 ar] 46] w2 := by
            rw [List.replicate_zero, List.append_nil]; exact K2.sw1
          clear K2
          go_wp2_with fail
          clear a1 a2 a3
          go_loopw [7, 46] (fun vv kk wi => ∃ (k g c : Nat), k ≤ mm ∧ kk = .int .i64 k ∧ vv = .slice (some ⟨g, 0, none⟩) (pre ++ List.replicate k (op - 1)).length c ∧ Kn w [rowJ g c (pre ++ List.replicate k (op - 1)), .blk g9 [.int .i64 op, .int .i64 ar] 46] wi) (fun _ kk _ => mm - (intOf kk).toNat)
          case atStart => exact ⟨0, g, gc, Nat.zero_le _, rfl, by rw [List.replicate_zero, List.append_nil], K6⟩
          case round =>
            clear K6
            obtain ⟨k, gp, cp, hk, rfl, rfl, hKi⟩ := hrel
            by_cases hka : k < mm
            · have hMORE := Lib.hid (rep_more1 k (op - 1))
              have hpl2 : (pre ++ List.replicate k (op - 1)).length ≤ 9000 := by rw [List.length_append, List.length_replicate]; omega
              obtain ⟨PL, hPL⟩ : ∃ PL, pre ++ List.replicate k (op - 1) = PL := ⟨_, rfl⟩
              rw [hPL] at hKi hpl2 ⊢
              have HPL2 := Lib.hid (show pre ++ List.replicate (k + 1) (op - 1) = PL ++ [op - 1] by rw [hMORE.out, ← List.append_assoc, hPL])
              have i1 : (k : Int) < (mm : Int) := by omega
              clear hPL
              obtain ⟨a1, a2, a3, -⟩ := (hKi.front 1 rfl).cells
              go_wp2_with (at_builtin; refine kn_pushI rfl _ _ rfl _ PL rfl rfl (hKi.al [.int .i64 (op - 1)] 2) (by omega) ?_; intro v13 w13 hK13; obtain ⟨g7, c7, rfl⟩ := row_pos hK13.at0 (by simp))
              clear a1 a2 a3
              go_roundw
              case rel => exact ⟨k + 1, g7, c7, by omega, by go_num, by rw [HPL2.out, List.length_append]; rfl, by rw [HPL2.out]; exact hK13⟩
              case measure => simp [intOf]; omega
            · obtain rfl : k = mm := by omega
              have i1 : ¬ (k : Int) < (k : Int) := by omega
              have hK9 := hKi.drop1
              have HO2 := Lib.hid (show pre ++ List.replicate k (op - 1) ++ rest2 = out by rw [List.append_assoc, ← HRE.out]; exact HO.out)
              clear hKi
              go_wp2_with fail
              go_roundw
              case rel => exact ⟨i + 1, gp, cp, pre ++ List.replicate k (op - 1), rest2, by omega, by go_num, rfl, HF2, HO2, hK9⟩
              case measure => simp [intOf]; omega
      · have hi1 : ¬ (i : Int) < (tt : Int) := by omega
        have h0 := HF.out.nil hi
        subst h0
        have hpo : pre = out := by have := HO.out; rwa [List.append_nil] at this
        subst hpo
        go_wp2_with fail
        go_ret
        exact ⟨g, gc, rfl, hK⟩
end Go.Proofs.Ytkfbfainhmkkdaa

namespace Go.Proofs.Ytkfbfainhmkkdaa
open Go.RowKit Go.Sort
/-- what l11Flat returns -/
def SfRet (out : List Int) (w : World) (e : Ending) (w' : World) : Prop :=
  (out.length ≤ 3000 ∧ ∃ g c, e = .returned (.tuple #[.slice (some ⟨g, 0, none⟩) out.length c, .bool true]) ∧ Kn w [rowJ g c out] w') ∨
  (3000 < out.length ∧ e = .returned (.tuple #[.slice none 0 0, .bool false]) ∧ Below w.heap.size w w')
set_option maxRecDepth 100000 in
set_option maxHeartbeats 6400000 in
theorem l11Flat_any {L : List Ins} (hv : vprog L = true) (hp : plainI L = true) : ∀ (m i0 tt : Nat) (out : List Int) (A : Option Addr) (c : Nat) (w : World), tt - i0 ≤ m → tt ≤ L.length → Fl L i0 tt out → RL InsM 2 w A L.length L →
    Calls Try.prog 78 #[.slice A L.length c, .int .i64 i0, .int .i64 tt] w (SfRet out w) := by
  intro m
  unfold SfRet
  induction m with
  | zero =>
    intro i0 tt out A c w hm htt hF hr
    have h0 := hF.nil (by omega)
    have hi1 : ¬ (i0 : Int) < (tt : Int) := by omega
    subst h0
    go_enter Try.func78, Try.ntmps78
    go_wp2_with fail
    have hK1 : Kn w [rowJ w.heap.size 0 []] (w.alloc (.cells #[] 2)) := ((Kn.nil w).al [] 2).litRow (size := 1) (n := 0) rfl (by decide)
    go_loopw [8, 9] (fun vv ii wr => vv = .slice (some ⟨w.heap.size, 0, none⟩) 0 0 ∧ ii = .int .i64 i0 ∧ Kn w [rowJ w.heap.size 0 []] wr) (fun _ ii _ => 0)
    case atStart => exact ⟨rfl, rfl, hK1⟩
    case round =>
      obtain ⟨rfl, rfl, hK⟩ := hrel
      go_wp2_with fail
      go_ret2
      exact .inl ⟨by simp, _, 0, rfl, hK⟩
  | succ m ih =>
    intro i0 tt out A c w hm htt hF hr
    have h120 := vprog_len hv
    have HIH := Lib.hid ih
    have HR := Lib.hid hr
    clear ih hr
    go_enter Try.func78, Try.ntmps78
    go_wp2_with fail
    have hK1 : Kn w [rowJ w.heap.size 0 []] (w.alloc (.cells #[] 2)) := ((Kn.nil w).al [] 2).litRow (size := 1) (n := 0) rfl (by decide)
    go_loopw [8, 9] (fun vv ii wr => ∃ (i g c : Nat) (pre rest : List Int), i0 ≤ i ∧ ii = .int .i64 i ∧ vv = .slice (some ⟨g, 0, none⟩) pre.length c ∧ Hid (Fl L i tt rest) ∧ Hid (pre ++ rest = out) ∧ pre.length ≤ 3000 ∧ Kn w [rowJ g c pre] wr) (fun _ ii _ => tt - (intOf ii).toNat)
    case atStart => exact ⟨i0, _, 0, [], out, Nat.le_refl _, rfl, rfl, Lib.hid hF, Lib.hid rfl, by simp, hK1⟩
    case round =>
      clear hF hK1
      obtain ⟨i, g, gc, pre, rest, hii, rfl, rfl, HF, HO, hp3, hK⟩ := hrel
      by_cases hi : i < tt
      · obtain ⟨hil, hcs⟩ := HF.out.inv hi
        obtain ⟨hb1, hb9⟩ := plainI_get hp hil
        have hok := ins_ok hv hil
        have KI := Lib.hid (fun W (hW : Below w.heap.size w W) => (HR.out.below steady_InsM hW).at_ hil)
        have hi0 : (0 : Int) ≤ (i : Int) := by omega
        have hi1 : (i : Int) < (tt : Int) := by omega
        have hi2 : (i : Int) < (L.length : Int) := by omega
        have hw3 : IntKind.i64.wrap ((i : Int) + 1) = ((i + 1 : Nat) : Int) := by rw [wrapI64 (by omega)]; omega
        rcases hcs with ⟨h8, e, body, rest2, hm2, het0, f1, f2, hre⟩ | ⟨h8, h10, rest2, f2, hre⟩
        · obtain ⟨o1, o2, o3, o4, o5⟩ := ins_bd hok hb1
          have ho : opens L[i].op = true := by rw [h8]; rfl
          obtain ⟨hie, hel, -⟩ := match_end hv hil ho hm2
          have hM1 := hm2
          have KM := Lib.hid (fun W (hW : Below w.heap.size w W) => l11Match_any A L.length c L i W (HR.out.below steady_InsM hW) hv hil ho)
          have HMO := Lib.hid (fun (f : Nat) (h : IsMatch L i f) => h.one hM1)
          have KF := Lib.hid (fun W (hW : Below w.heap.size w W) (het : e ≤ tt) => HIH.out (i + 1) e body A c W (by omega) (by omega) f1 (HR.out.below steady_InsM hW))
          have HF2 := Lib.hid f2
          obtain ⟨y, hy⟩ : ∃ y, L[i] = y := ⟨_, rfl⟩
          rw [hy] at h8 o1 o2 o3 o4 o5 hre
          have o6 := o5 h8
          obtain ⟨a, ha⟩ : ∃ a : Nat, y.arg = a := ⟨y.arg.toNat, by omega⟩
          rw [ha, Int.toNat_natCast] at hre
          rw [ha] at o3 o4 o6
          have HRE := Lib.hid hre
          have HBL := Lib.hid (show body.length ≤ out.length by
            have h2 := congrArg List.length HO.out
            have h3 := congrArg List.length hre
            have h4 := rep_le body (show 1 ≤ a by omega)
            simp only [List.length_append] at h2 h3
            simp only [List.replicate_one, List.flatten_cons, List.flatten_nil, List.append_nil] at h4
            omega)
          obtain ⟨ad, hA, hlt, hkl, y1, y2⟩ := KI.out _ hK.below
          rw [hy] at y1 y2
          rw [h8] at y1
          rw [ha] at y2
          have hmax : max (1 : Int) (a : Int) = (a : Int) := by omega
          have KX := (fun W => l00Max_any 1 (a : Int) W)
          rw [hmax] at KX
          have KX := Lib.hid KX
          have HY := Lib.hid (show y.op = 8 ∧ y.arg = (a : Int) ∧ L[i] = y from ⟨h8, ha, hy⟩)
          subst hA
          clear hok hb1 hb9 f1 f2 HF HIH o5 h8 hm2 hM1 hre ha hy hmax
          go_wp2_with fail
          refine (KX.out _).mono ?_; rintro e2 w2 ⟨rfl, rfl⟩
          go_upto_region 7 with fail
          refine Code.wp.kn (hK.al [.int .i64 7] 2) ?_; intro w3 K3
          have K4 := K3.drop
          clear K3 hK y1 y2
          obtain ⟨ad2, hA2, hlt2, hkl2, y1, y2⟩ := KI.out _ K4.below
          rw [HY.out.2.2] at y1 y2
          rw [HY.out.1] at y1
          obtain rfl : ad = ad2 := by injection hA2
          go_wp2_with fail
          refine (KM.out _ K4.below).mono ?_; rintro e3 w5 ⟨f, rfl, hmf, rfl⟩
          obtain rfl : f = e := HMO.out f hmf
          have hte : f ≤ tt := by omega
          have KF2 := Lib.hid (KF.out _ K4.below hte)
          clear KM HMO hmf KF
          go_wp2_with fail
          refine KF2.out.mono ?_
          rintro e4 w4 (⟨hb3, g5, c5, rfl, hKn⟩ | ⟨hb3, rfl, hw⟩)
          · have K5 := K4.join hKn
            have K6 : Kn w [rowJ g5 c5 body, rowJ g gc (pre ++ (List.replicate 0 body).flatten)] w4 := by
              rw [List.replicate_zero, List.flatten_nil, List.append_nil]; exact K5
            clear K4 K5 hKn KF2 y1 y2
            go_wp2_with fail
            go_loopw [8, 15] (fun vv kk wi => ∃ (k g c : Nat), k ≤ a ∧ kk = .int .i64 k ∧ vv = .slice (some ⟨g, 0, none⟩) (pre ++ (List.replicate k body).flatten).length c ∧ (pre ++ (List.replicate k body).flatten).length ≤ 3000 ∧ Kn w [rowJ g5 c5 body, rowJ g c (pre ++ (List.replicate k body).flatten)] wi) (fun _ kk _ => a - (intOf kk).toNat)
            case atStart => exact ⟨0, g, gc, Nat.zero_le _, rfl, by rw [List.replicate_zero, List.flatten_nil, List.append_nil], by rw [List.replicate_zero, List.flatten_nil, List.append_nil]; exact hp3, K6⟩
            case round =>
              clear K6
              obtain ⟨k, gp, cp, hk, rfl, rfl, hl3, hKi⟩ := hrel
              by_cases hka : k < a
              · have hMORE := Lib.hid (rep_more k body)
                have hrl := Lib.hid (rep_le body (show k + 1 ≤ a by omega))
                obtain ⟨PL, hPL⟩ : ∃ PL, pre ++ (List.replicate k body).flatten = PL := ⟨_, rfl⟩
                rw [hPL] at hKi hl3 ⊢
                have HPL2 := Lib.hid (show pre ++ (List.replicate (k + 1) body).flatten = PL ++ body by rw [hMORE.out, ← List.append_assoc, hPL])
                have HLEN := Lib.hid (show PL.length + (body).length ≤ out.length by
                  have h1 := congrArg List.length HPL2.out
                  have h2 := congrArg List.length HO.out
                  have h3 := congrArg List.length HRE.out
                  have h4 := hrl.out
                  simp only [List.length_append] at h1 h2 h3
                  omega)
                have i1 : (k : Int) < (a : Int) := by omega
                clear hPL
                by_cases hbig : 3000 < PL.length + (body).length
                · have hbig2 : ((PL.length + (body).length : Nat) : Int) > 3000 := by omega
                  have hbig3 : (PL.length : Int) + ((body).length : Int) > 3000 := by omega
                  try (have hbig5 : (PL.length : Int) + 1 > 3000 := by simpa using hbig3)
                  try (have hbig6 : 3000 < PL.length + 1 := by simpa using hbig)
                  go_wp2_with (at_builtin; refine kn_appZ tpI rfl _ _ rfl (.slice (some ⟨gp, 0, none⟩) (PL).length cp) (PL).length ((PL).map (Value.int .i64)) rfl (by simp [Value.ownBlock]) rfl (show Kn w (.row (.slice (some ⟨g5, 0, none⟩) (body).length c5) 2 1 (body).length ((body).map (Value.int .i64)) :: .row (.slice (some ⟨gp, 0, none⟩) (PL).length cp) 2 1 (PL).length ((PL).map (Value.int .i64)) :: []) _ from hKi) (ints_one _) (by omega) (by omega) ?_; intro v13 w13 hb13 hK13; obtain ⟨g7, c7, rfl⟩ := row_some hK13.at0 hb13)
                  have hK14 : Kn w [rowJ g5 c5 (body), rowJ g7 c7 (PL ++ body)] w13 := by
                    unfold rowJ rowI; rw [List.length_append, List.map_append]; exact hK13.sw1
                  clear hK13 hb13
                  go_ret2
                  exact .inr ⟨by have := HLEN.out; omega, rfl, hK14.below⟩
                · have hbig2 : ¬ ((PL.length + (body).length : Nat) : Int) > 3000 := by omega
                  have hbig3 : ¬ (PL.length : Int) + ((body).length : Int) > 3000 := by omega
                  try (have hbig5 : ¬ (PL.length : Int) + 1 > 3000 := by simpa using hbig3)
                  try (have hbig6 : ¬ 3000 < PL.length + 1 := by simpa using hbig)
                  go_wp2_with (at_builtin; refine kn_appZ tpI rfl _ _ rfl (.slice (some ⟨gp, 0, none⟩) (PL).length cp) (PL).length ((PL).map (Value.int .i64)) rfl (by simp [Value.ownBlock]) rfl (show Kn w (.row (.slice (some ⟨g5, 0, none⟩) (body).length c5) 2 1 (body).length ((body).map (Value.int .i64)) :: .row (.slice (some ⟨gp, 0, none⟩) (PL).length cp) 2 1 (PL).length ((PL).map (Value.int .i64)) :: []) _ from hKi) (ints_one _) (by omega) (by omega) ?_; intro v13 w13 hb13 hK13; obtain ⟨g7, c7, rfl⟩ := row_some hK13.at0 hb13)
                  have hK14 : Kn w [rowJ g5 c5 (body), rowJ g7 c7 (PL ++ body)] w13 := by
                    unfold rowJ rowI; rw [List.length_append, List.map_append]; exact hK13.sw1
                  clear hK13 hb13
                  go_roundw
                  case rel => exact ⟨k + 1, g7, c7, by omega, by go_num, (by rw [HPL2.out, List.length_append]; try rfl), by rw [HPL2.out, List.length_append]; omega, by rw [HPL2.out]; exact hK14⟩
                  case measure => simp [intOf]; omega
              · obtain rfl : k = a := by omega
                have i1 : ¬ (k : Int) < (k : Int) := by omega
                have hK9 := hKi.drop
                have HO2 := Lib.hid (show pre ++ (List.replicate k body).flatten ++ rest2 = out by rw [List.append_assoc, ← HRE.out]; exact HO.out)
                clear hKi
                go_wp2_with fail
                go_roundw
                case rel => exact ⟨f + 1, gp, cp, pre ++ (List.replicate k body).flatten, rest2, by omega, by go_num, rfl, HF2, HO2, hl3, hK9⟩
                case measure => simp [intOf]; omega
          · have K5 := K4.keep hw
            clear K4 hw KF2 y1 y2
            go_wp2_with fail
            go_ret2
            exact .inr ⟨by have := HBL.out; omega, rfl, K5.below⟩
        · have hpo := ins_plain hok hb1 h8 hb9 h10
          have HF2 := Lib.hid f2
          obtain ⟨y, hy⟩ : ∃ y, L[i] = y := ⟨_, rfl⟩
          rw [hy] at h8 hpo hre
          obtain ⟨mm, hmm⟩ : ∃ k : Nat, (max 1 y.arg).toNat = k := ⟨_, rfl⟩
          rw [hmm] at hre
          have hmx : max 1 y.arg = (mm : Int) := by omega
          have hm1 : 1 ≤ mm ∧ mm ≤ 100 := by omega
          have ho7 : 2 ≤ y.op ∧ y.op ≤ 7 := by omega
          rw [← rep_one] at hre
          have HRE := Lib.hid hre
          have HRL := Lib.hid (show True from trivial)
          have KX := (fun W => l00Max_any 1 y.arg W)
          rw [hmx] at KX
          have KX := Lib.hid KX
          obtain ⟨ad, hA, hlt, hkl, y1, y2⟩ := KI.out _ hK.below
          rw [hy] at y1 y2
          have h8b : (y.op == 8) = false := beq_eq_false_iff_ne.2 h8
          have hwo : IntKind.i64.wrap (y.op - 1) = y.op - 1 := wrapI64 (by omega)
          have HY := Lib.hid hy
          subst hA
          clear hy hok hb1 hb9 h10 f2 HF HIH hre hmm hpo hmx
          go_wp2_with fail
          refine (KX.out _).mono ?_; rintro e2 w2 ⟨rfl, rfl⟩
          go_upto_region 7 with fail
          have hK3 := hK.al [.int .i64 (y.op - 1)] 2
          obtain ⟨g5, hg5⟩ : ∃ g, wr.heap.size = g := ⟨_, rfl⟩
          refine Code.wp.kn hK3 ?_; intro w3 K3
          rw [hg5] at K3 ⊢
          clear hg5 hK hK3 y1 y2
          have K4 : Kn w [rowJ g5 1 [y.op - 1], rowJ g gc pre] w3 := K3.litRow (size := 1) (n := 1) rfl (by decide)
          have K6 : Kn w [rowJ g5 1 [y.op - 1], rowJ g gc (pre ++ (List.replicate 0 [y.op - 1]).flatten)] w3 := by
            rw [List.replicate_zero, List.flatten_nil, List.append_nil]; exact K4
          obtain ⟨ad2, hA2, hlt2, hkl2, y1, y2⟩ := KI.out _ K4.below
          rw [HY.out] at y1 y2
          obtain rfl : ad = ad2 := by injection hA2
          clear K3 K4
          go_wp2_with fail
          clear y1 y2
          go_loopw [8, 15] (fun vv kk wi => ∃ (k g c : Nat), k ≤ mm ∧ kk = .int .i64 k ∧ vv = .slice (some ⟨g, 0, none⟩) (pre ++ (List.replicate k [y.op - 1]).flatten).length c ∧ (pre ++ (List.replicate k [y.op - 1]).flatten).length ≤ 3000 ∧ Kn w [rowJ g5 1 [y.op - 1], rowJ g c (pre ++ (List.replicate k [y.op - 1]).flatten)] wi) (fun _ kk _ => mm - (intOf kk).toNat)
          case atStart => exact ⟨0, g, gc, Nat.zero_le _, rfl, by rw [List.replicate_zero, List.flatten_nil, List.append_nil], by rw [List.replicate_zero, List.flatten_nil, List.append_nil]; exact hp3, K6⟩
          case round =>
            clear K6
            obtain ⟨k, gp, cp, hk, rfl, rfl, hl3, hKi⟩ := hrel
            by_cases hka : k < mm
            · have hMORE := Lib.hid (rep_more k [y.op - 1])
              have hrl := Lib.hid (rep_le [y.op - 1] (show k + 1 ≤ mm by omega))
              obtain ⟨PL, hPL⟩ : ∃ PL, pre ++ (List.replicate k [y.op - 1]).flatten = PL := ⟨_, rfl⟩
              rw [hPL] at hKi hl3 ⊢
              have HPL2 := Lib.hid (show pre ++ (List.replicate (k + 1) [y.op - 1]).flatten = PL ++ [y.op - 1] by rw [hMORE.out, ← List.append_assoc, hPL])
              have HLEN := Lib.hid (show PL.length + ([y.op - 1]).length ≤ out.length by
                have h1 := congrArg List.length HPL2.out
                have h2 := congrArg List.length HO.out
                have h3 := congrArg List.length HRE.out
                have h4 := hrl.out
                simp only [List.length_append] at h1 h2 h3
                omega)
              have i1 : (k : Int) < (mm : Int) := by omega
              clear hPL
              by_cases hbig : 3000 < PL.length + ([y.op - 1]).length
              · have hbig2 : ((PL.length + ([y.op - 1]).length : Nat) : Int) > 3000 := by omega
                have hbig3 : (PL.length : Int) + (([y.op - 1]).length : Int) > 3000 := by omega
                try (have hbig5 : (PL.length : Int) + 1 > 3000 := by simpa using hbig3)
                try (have hbig6 : 3000 < PL.length + 1 := by simpa using hbig)
                go_wp2_with (at_builtin; refine kn_appZ tpI rfl _ _ rfl (.slice (some ⟨gp, 0, none⟩) (PL).length cp) (PL).length ((PL).map (Value.int .i64)) rfl (by simp [Value.ownBlock]) rfl (show Kn w (.row (.slice (some ⟨g5, 0, none⟩) ([y.op - 1]).length 1) 2 1 ([y.op - 1]).length (([y.op - 1]).map (Value.int .i64)) :: .row (.slice (some ⟨gp, 0, none⟩) (PL).length cp) 2 1 (PL).length ((PL).map (Value.int .i64)) :: []) _ from hKi) (ints_one _) (by omega) (by omega) ?_; intro v13 w13 hb13 hK13; obtain ⟨g7, c7, rfl⟩ := row_some hK13.at0 hb13)
                have hK14 : Kn w [rowJ g5 1 ([y.op - 1]), rowJ g7 c7 (PL ++ [y.op - 1])] w13 := by
                  unfold rowJ rowI; rw [List.length_append, List.map_append]; exact hK13.sw1
                clear hK13 hb13
                go_ret2
                exact .inr ⟨by have := HLEN.out; omega, rfl, hK14.below⟩
              · have hbig2 : ¬ ((PL.length + ([y.op - 1]).length : Nat) : Int) > 3000 := by omega
                have hbig3 : ¬ (PL.length : Int) + (([y.op - 1]).length : Int) > 3000 := by omega
                try (have hbig5 : ¬ (PL.length : Int) + 1 > 3000 := by simpa using hbig3)
                try (have hbig6 : ¬ 3000 < PL.length + 1 := by simpa using hbig)
                go_wp2_with (at_builtin; refine kn_appZ tpI rfl _ _ rfl (.slice (some ⟨gp, 0, none⟩) (PL).length cp) (PL).length ((PL).map (Value.int .i64)) rfl (by simp [Value.ownBlock]) rfl (show Kn w (.row (.slice (some ⟨g5, 0, none⟩) ([y.op - 1]).length 1) 2 1 ([y.op - 1]).length (([y.op - 1]).map (Value.int .i64)) :: .row (.slice (some ⟨gp, 0, none⟩) (PL).length cp) 2 1 (PL).length ((PL).map (Value.int .i64)) :: []) _ from hKi) (ints_one _) (by omega) (by omega) ?_; intro v13 w13 hb13 hK13; obtain ⟨g7, c7, rfl⟩ := row_some hK13.at0 hb13)
                have hK14 : Kn w [rowJ g5 1 ([y.op - 1]), rowJ g7 c7 (PL ++ [y.op - 1])] w13 := by
                  unfold rowJ rowI; rw [List.length_append, List.map_append]; exact hK13.sw1
                clear hK13 hb13
                go_roundw
                case rel => exact ⟨k + 1, g7, c7, by omega, by go_num, (by rw [HPL2.out, List.length_append]; try rfl), by rw [HPL2.out, List.length_append]; omega, by rw [HPL2.out]; exact hK14⟩
                case measure => simp [intOf]; omega
            · obtain rfl : k = mm := by omega
              have i1 : ¬ (k : Int) < (k : Int) := by omega
              have hK9 := hKi.drop
              have HO2 := Lib.hid (show pre ++ (List.replicate k [y.op - 1]).flatten ++ rest2 = out by rw [List.append_assoc, ← HRE.out]; exact HO.out)
              clear hKi
              go_wp2_with fail
              go_roundw
              case rel => exact ⟨i + 1, gp, cp, pre ++ (List.replicate k [y.op - 1]).flatten, rest2, by omega, by go_num, rfl, HF2, HO2, hl3, hK9⟩
              case measure => simp [intOf]; omega
      · have hi1 : ¬ (i : Int) < (tt : Int) := by omega
        have h0 := HF.out.nil hi
        subst h0
        have hpo : pre = out := by have := HO.out; rwa [List.append_nil] at this
        subst hpo
        go_wp2_with fail
        go_ret2
        first | exact .inl ⟨hp3, g, gc, rfl, hK⟩ | exact .inl ⟨g, gc, rfl, hK⟩
end Go.Proofs.Ytkfbfainhmkkdaa

namespace Go.Proofs.Ytkfbfainhmkkdaa
open Go.RowKit Go.Sort
set_option maxRecDepth 100000 in
theorem specVM_any (t : Tri) (A1 A2 A3 : Option Addr) (c1 c2 c3 : Nat) (w : World) (r1 : RI w A1 t.a.digits.length t.a.digits) (r2 : RI w A2 t.b.digits.length t.b.digits) (r3 : RI w A3 t.s.digits.length t.s.digits) (hs : SmallTri t) :
    Calls Try.prog 24 #[.agg #[.int .i64 t.a.base, .slice A1 t.a.digits.length c1, .int .i64 t.b.base, .slice A2 t.b.digits.length c2, .int .i64 t.s.base, .slice A3 t.s.digits.length c3, .int .i64 t.carry]] w fun e w' => e = .returned (.bool (vmach t)) ∧ Below w.heap.size w w' := by
  have KO := Lib.hid (fun W (hK : Kn w [.blk w.heap.size [.int .i64 t.a.base, .slice A1 t.a.digits.length c1, .int .i64 t.b.base, .slice A2 t.b.digits.length c2, .int .i64 t.s.base, .slice A3 t.s.digits.length c3, .int .i64 t.carry] 28] W) => l10Ok_any ⟨w.heap.size, 0, none⟩ t W (TriC.tri (A1 := A1) (c1 := c1) (A2 := A2) (c2 := c2) (A3 := A3) (c3 := c3) ⟨box7' hK, r1.below hK.below, r2.below hK.below, r3.below hK.below⟩) hs)
  clear r1 r2 r3
  go_enter Try.func24, Try.ntmps24
  go_wp2_with fail
  refine Calls.kn ((Kn.nil w).al [.int .i64 t.a.base, .slice A1 t.a.digits.length c1, .int .i64 t.b.base, .slice A2 t.b.digits.length c2, .int .i64 t.s.base, .slice A3 t.s.digits.length c3, .int .i64 t.carry] 28) ?_; intro w1 K1
  refine (KO.out _ K1).mono ?_; rintro e w2 ⟨rfl, q, rfl⟩
  have K2 := K1.drewN q
  go_wp2_with fail
  go_ret
  exact ⟨rfl, K2.below⟩
instance : Inhabited (List Int) := ⟨[]⟩
/-- the strokes of a flat program -/
noncomputable def fsO (L : List Ins) : List Int := Classical.epsilon (fun out => Fl L 0 L.length out)
theorem fsO_fl {L : List Ins} (hv : vprog L = true) (hp : plainI L = true) : Fl L 0 L.length (fsO L) ∧ (fsO L).length ≤ 1000000000000000 := by
  obtain ⟨out, h1, h2⟩ := Fl.some hv hp L.length 0 L.length (by omega) (Seg.all hv)
  have h3 : Fl L 0 L.length (fsO L) := Classical.epsilon_spec (p := fun out => Fl L 0 L.length out) ⟨out, h1⟩
  refine ⟨h3, ?_⟩
  rw [h3.det h1]
  have h4 := vprog_len hv
  rw [depA_zero, show (5 - (0 : Int).toNat) = 5 from rfl] at h2
  omega
noncomputable def fsC (L : List Ins) : Int := if vprog L = false then 1 else if plainI L = false then 6 else if 3000 < (fsO L).length then 5 else 0
noncomputable def fsV (L : List Ins) : List Int := if fsC L = 0 then fsO L else []
theorem fs_cases (L : List Ins) : (vprog L = false ∧ fsC L = 1 ∧ fsV L = []) ∨ (vprog L = true ∧ plainI L = false ∧ fsC L = 6 ∧ fsV L = []) ∨ (vprog L = true ∧ plainI L = true ∧ 3000 < (fsO L).length ∧ fsC L = 5 ∧ fsV L = []) ∨ (vprog L = true ∧ plainI L = true ∧ (fsO L).length ≤ 3000 ∧ fsC L = 0 ∧ fsV L = fsO L) := by
  cases hv : vprog L with
  | false =>
    have hc : fsC L = 1 := by unfold fsC; rw [if_pos hv]
    exact .inl ⟨rfl, hc, by unfold fsV; rw [hc, if_neg (by decide)]⟩
  | true =>
    cases hp : plainI L with
    | false =>
      have hc : fsC L = 6 := by unfold fsC; rw [if_neg (by rw [hv]; decide), if_pos hp]
      exact .inr (.inl ⟨rfl, rfl, hc, by unfold fsV; rw [hc, if_neg (by decide)]⟩)
    | true =>
      by_cases hl : 3000 < (fsO L).length
      · have hc : fsC L = 5 := by unfold fsC; rw [if_neg (by rw [hv]; decide), if_neg (by rw [hp]; decide), if_pos hl]
        exact .inr (.inr (.inl ⟨rfl, rfl, hl, hc, by unfold fsV; rw [hc, if_neg (by decide)]⟩))
      · have hc : fsC L = 0 := by unfold fsC; rw [if_neg (by rw [hv]; decide), if_neg (by rw [hp]; decide), if_neg hl]
        exact .inr (.inr (.inr ⟨rfl, rfl, by omega, hc, by unfold fsV; rw [hc, if_pos rfl]⟩))
def FsRet (L : List Ins) (w : World) (e : Ending) (w' : World) : Prop := ∃ A c, e = .returned (.tuple #[.slice A (fsV L).length c, .int .i64 (fsC L)]) ∧ Kn w [rowI A c (fsV L)] w'
/-- a program's beginning that is plain -/
def headP (L : List Ins) (k : Nat) : Bool := plainI (L.take k)
theorem headP_succ {L : List Ins} {k : Nat} (h : k < L.length) : headP L (k + 1) = (headP L k && (!(L[k].op == 1) && !(L[k].op == 9))) := by
  unfold headP plainI
  rw [List.take_succ_eq_append_getElem h, List.all_append]
  simp
theorem headP_all {L : List Ins} {k : Nat} (h : L.length ≤ k) : headP L k = plainI L := by unfold headP; rw [List.take_of_length_le h]
theorem headP_mono {L : List Ins} (h : plainI L = true) (k : Nat) : headP L k = true := by
  unfold headP plainI at *
  rw [List.all_eq_true] at *
  intro x hx
  exact h x (List.mem_of_mem_take hx)
set_option maxRecDepth 100000 in
set_option maxHeartbeats 3200000 in
theorem FlatStrokes_any (L : List Ins) (A : Option Addr) (n c : Nat) (w : World) (hr : RL InsM 2 w A n L) (hn : n ≤ 1000000) : Calls Try.prog 14 #[.slice A n c] w (FsRet L w) := by
  unfold FsRet
  have hln := hr.1
  subst hln
  have KV := (fun W (hW : Below w.heap.size w W) => ValidProgram_any A L.length c L W (hr.below steady_InsM hW) (by omega))
  have HCS := Lib.hid (fs_cases L)
  cases hv : vprog L with
  | false =>
    rw [hv] at KV
    have KV := Lib.hid KV
    have HE := Lib.hid (show fsC L = 1 ∧ fsV L = [] by
      rcases HCS.out with h | h | h | h
      · exact h.2
      all_goals (have := h.1; rw [hv] at this; cases this))
    rw [HE.out.1, HE.out.2]
    clear hv hr
    go_enter Try.func14, Try.ntmps14
    go_wp2_with fail
    refine (KV.out _ (Below.refl _ _)).mono ?_; rintro e w1 ⟨rfl, hw⟩
    have K1 := (Kn.nil w).keep hw
    go_wp2_with fail
    go_ret2
    exact ⟨none, 0, rfl, K1.nilRow _ _⟩
  | true =>
    rw [hv] at KV
    have KV := Lib.hid KV
    have h120 := vprog_len hv
    cases hp : plainI L with
    | false =>
      have HE := Lib.hid (show fsC L = 6 ∧ fsV L = [] by
        rcases HCS.out with h | h | h | h
        · have := h.1; rw [hv] at this; cases this
        · exact h.2.2
        all_goals (have := h.2.1; rw [hp] at this; cases this))
      rw [HE.out.1, HE.out.2]
      go_enter Try.func14, Try.ntmps14
      go_wp2_with fail
      refine (KV.out _ (Below.refl _ _)).mono ?_; rintro e w1 ⟨rfl, hw⟩
      have K1 := (Kn.nil w).keep hw
      clear hw
      go_wp2_with fail
      go_loopw [11] (fun ii wr => ∃ k : Nat, k ≤ L.length ∧ ii = .int .i64 k ∧ headP L k = true ∧ Kn w [] wr) (fun ii _ => L.length - (intOf ii).toNat)
      case atStart => exact ⟨0, Nat.zero_le _, rfl, rfl, K1⟩
      case round =>
        clear K1
        obtain ⟨k, hk, rfl, hh, hK⟩ := hrel
        by_cases hkn : k < L.length
        · obtain ⟨ad, hA, hlt, hkl, y1, y2⟩ := (hr.below steady_InsM hK.below).at_ hkn
          have hs := headP_succ hkn
          rw [hh] at hs
          obtain ⟨y, hy⟩ : ∃ y, L[k] = y := ⟨_, rfl⟩
          rw [hy] at y1 y2 hs
          have hi0 : (0 : Int) ≤ (k : Int) := by omega
          have hi1 : (k : Int) < (L.length : Int) := by omega
          subst hA
          clear hh hy
          by_cases h1 : y.op = 1
          · rw [h1] at y1
            go_upto_region 6 with fail
            refine Code.wp.kn (hK.al [.int .i64 1, .int .i64 y.arg] 46) ?_; intro w2 K2
            obtain ⟨a1, a2, a3, -⟩ := K2.cells
            go_wp2_with fail
            go_ret2
            exact ⟨none, 0, rfl, K2.bare.nilRow _ _⟩
          · by_cases h9 : y.op = 9
            · rw [h9] at y1
              go_upto_region 6 with fail
              refine Code.wp.kn (hK.al [.int .i64 9, .int .i64 y.arg] 46) ?_; intro w2 K2
              obtain ⟨a1, a2, a3, -⟩ := K2.cells
              go_wp2_with fail
              go_ret2
              exact ⟨none, 0, rfl, K2.bare.nilRow _ _⟩
            · have e1 : (y.op == 1) = false := beq_eq_false_iff_ne.2 h1
              have e9 : (y.op == 9) = false := beq_eq_false_iff_ne.2 h9
              rw [e1, e9] at hs
              have HS := Lib.hid hs
              clear hs
              go_upto_region 6 with fail
              refine Code.wp.kn (hK.al [.int .i64 y.op, .int .i64 y.arg] 46) ?_; intro w2 K2
              obtain ⟨a1, a2, a3, -⟩ := K2.cells
              have K3 := K2.bare
              go_wp2_with fail
              go_roundw
              case rel => exact ⟨k + 1, by omega, by go_num, HS.out, K3⟩
              case measure => simp [intOf]; omega
        · exfalso
          rw [headP_all (by omega), hp] at hh
          cases hh
    | true =>
      obtain ⟨hF, hol⟩ := fsO_fl hv hp
      have hcs : (3000 < (fsO L).length ∧ fsC L = 5 ∧ fsV L = []) ∨ ((fsO L).length ≤ 3000 ∧ fsC L = 0 ∧ fsV L = fsO L) := by
        rcases HCS.out with h | h | h | h
        · have := h.1; rw [hv] at this; cases this
        · have := h.2.1; rw [hp] at this; cases this
        · exact .inl h.2.2
        · exact .inr h.2.2
      obtain ⟨out, hout⟩ : ∃ out, fsO L = out := ⟨_, rfl⟩
      rw [hout] at hF hol hcs
      have KC := Lib.hid (fun W (hW : Below w.heap.size w W) => flatCount_any hv hp L.length 0 L.length out A c W (by omega) (Nat.le_refl _) hF hol (hr.below steady_InsM hW))
      have KF := Lib.hid (fun W (hW : Below w.heap.size w W) hl => flat_any hv hp L.length 0 L.length out A c W (by omega) (Nat.le_refl _) hF hl (hr.below steady_InsM hW))
      unfold FlRet at KF
      have HCS2 := Lib.hid hcs
      clear hF hcs HCS hout
      go_enter Try.func14, Try.ntmps14
      go_wp2_with fail
      refine (KV.out _ (Below.refl _ _)).mono ?_; rintro e w1 ⟨rfl, hw⟩
      have K1 := (Kn.nil w).keep hw
      clear hw KV
      go_wp2_with fail
      go_loopw [11] (fun ii wr => ∃ k : Nat, k ≤ L.length ∧ ii = .int .i64 k ∧ Kn w [] wr) (fun ii _ => L.length - (intOf ii).toNat)
      case atStart => exact ⟨0, Nat.zero_le _, rfl, K1⟩
      case round =>
        clear K1
        obtain ⟨k, hk, rfl, hK⟩ := hrel
        by_cases hkn : k < L.length
        · obtain ⟨ad, hA, hlt, hkl, y1, y2⟩ := (hr.below steady_InsM hK.below).at_ hkn
          obtain ⟨h1, h9⟩ := plainI_get hp hkl
          obtain ⟨y, hy⟩ : ∃ y, L[k] = y := ⟨_, rfl⟩
          rw [hy] at y1 y2 h1 h9
          have e1 : (y.op == 1) = false := beq_eq_false_iff_ne.2 h1
          have e9 : (y.op == 9) = false := beq_eq_false_iff_ne.2 h9
          have hi0 : (0 : Int) ≤ (k : Int) := by omega
          have hi1 : (k : Int) < (L.length : Int) := by omega
          subst hA
          clear hy h1 h9
          go_upto_region 6 with fail
          refine Code.wp.kn (hK.al [.int .i64 y.op, .int .i64 y.arg] 46) ?_; intro w2 K2
          obtain ⟨a1, a2, a3, -⟩ := K2.cells
          have K3 := K2.bare
          go_wp2_with fail
          go_roundw
          case rel => exact ⟨k + 1, by omega, by go_num, K3⟩
          case measure => simp [intOf]; omega
        · have hi1 : ¬ (k : Int) < (L.length : Int) := by omega
          go_wp2_with fail
          refine (KC.out _ hK.below).mono ?_; rintro e w2 ⟨rfl, hw⟩
          have K2 := hK.keep hw
          clear hw hK KC
          rcases HCS2.out with ⟨hl, e1, e2⟩ | ⟨hl, e1, e2⟩
          · have hl1 : (out.length : Int) > 3000 := by omega
            have HE := Lib.hid (show fsC L = 5 ∧ fsV L = [] from ⟨e1, e2⟩)
            clear e1 e2 HCS2
            go_wp2_with fail
            go_ret2
            rw [HE.out.1, HE.out.2]
            exact ⟨none, 0, rfl, K2.nilRow _ _⟩
          · have hl1 : ¬ (out.length : Int) > 3000 := by omega
            have hl2 : ¬ 3000 < out.length := by omega
            have KF2 := Lib.hid (KF.out _ K2.below hl)
            have HE := Lib.hid (show fsC L = 0 ∧ fsV L = out from ⟨e1, e2⟩)
            clear e1 e2 HCS2 KF
            go_wp2_with fail
            refine KF2.out.mono ?_; rintro e w3 ⟨g5, c5, rfl, hKn⟩
            have K3 := K2.join hKn
            clear hKn K2
            go_wp2_with fail
            go_ret2
            rw [HE.out.1, HE.out.2]
            exact ⟨_, c5, rfl, K3⟩
set_option maxRecDepth 100000 in
set_option maxHeartbeats 3200000 in
theorem specFlatStrokes_any (L : List Ins) (A : Option Addr) (n c : Nat) (w : World) (hr : RL InsM 2 w A n L) (hn : n ≤ 1000000) : Calls Try.prog 15 #[.slice A n c] w (FsRet L w) := by
  unfold FsRet
  have hln := hr.1
  subst hln
  have KV := (fun W (hW : Below w.heap.size w W) => (l11Ok_any A L.length c L W (hr.below steady_InsM hW) (by omega)).mono (fun e w' h => show e = _ ∧ Below W.heap.size W w' from ⟨h.1, by obtain ⟨q, rfl⟩ := h.2; exact ((Kn.nil W).drewN q).below⟩))
  have HCS := Lib.hid (fs_cases L)
  cases hv : vprog L with
  | false =>
    rw [hv] at KV
    have KV := Lib.hid KV
    have HE := Lib.hid (show fsC L = 1 ∧ fsV L = [] by
      rcases HCS.out with h | h | h | h
      · exact h.2
      all_goals (have := h.1; rw [hv] at this; cases this))
    rw [HE.out.1, HE.out.2]
    clear hv hr
    go_enter Try.func15, Try.ntmps15
    go_wp2_with fail
    refine (KV.out _ (Below.refl _ _)).mono ?_; rintro e w1 ⟨rfl, hw⟩
    have K1 := (Kn.nil w).keep hw
    go_wp2_with fail
    go_ret2
    exact ⟨none, 0, rfl, K1.nilRow _ _⟩
  | true =>
    rw [hv] at KV
    have KV := Lib.hid KV
    have h120 := vprog_len hv
    cases hp : plainI L with
    | false =>
      have HE := Lib.hid (show fsC L = 6 ∧ fsV L = [] by
        rcases HCS.out with h | h | h | h
        · have := h.1; rw [hv] at this; cases this
        · exact h.2.2
        all_goals (have := h.2.1; rw [hp] at this; cases this))
      rw [HE.out.1, HE.out.2]
      go_enter Try.func15, Try.ntmps15
      go_wp2_with fail
      refine (KV.out _ (Below.refl _ _)).mono ?_; rintro e w1 ⟨rfl, hw⟩
      have K1 := (Kn.nil w).keep hw
      clear hw
      go_wp2_with fail
      go_loopw [4] (fun ii wr => ∃ k : Nat, k ≤ L.length ∧ ii = .int .i64 k ∧ headP L k = true ∧ Kn w [] wr) (fun ii _ => L.length - (intOf ii).toNat)
      case atStart => exact ⟨0, Nat.zero_le _, rfl, rfl, K1⟩
      case round =>
        clear K1
        obtain ⟨k, hk, rfl, hh, hK⟩ := hrel
        by_cases hkn : k < L.length
        · obtain ⟨ad, hA, hlt, hkl, y1, y2⟩ := (hr.below steady_InsM hK.below).at_ hkn
          have hs := headP_succ hkn
          rw [hh] at hs
          obtain ⟨y, hy⟩ : ∃ y, L[k] = y := ⟨_, rfl⟩
          rw [hy] at y1 y2 hs
          have hi0 : (0 : Int) ≤ (k : Int) := by omega
          have hi1 : (k : Int) < (L.length : Int) := by omega
          subst hA
          clear hh hy
          by_cases h1 : y.op = 1
          · rw [h1] at y1
            go_wp2_with fail
            go_ret2
            exact ⟨none, 0, rfl, hK.nilRow _ _⟩
          · by_cases h9 : y.op = 9
            · rw [h9] at y1
              go_wp2_with fail
              go_ret2
              exact ⟨none, 0, rfl, hK.nilRow _ _⟩
            · have e1 : (y.op == 1) = false := beq_eq_false_iff_ne.2 h1
              have e9 : (y.op == 9) = false := beq_eq_false_iff_ne.2 h9
              rw [e1, e9] at hs
              have HS := Lib.hid hs
              clear hs
              go_wp2_with fail
              go_roundw
              case rel => exact ⟨k + 1, by omega, by go_num, HS.out, hK⟩
              case measure => simp [intOf]; omega
        · exfalso
          rw [headP_all (by omega), hp] at hh
          cases hh
    | true =>
      obtain ⟨hF, hol⟩ := fsO_fl hv hp
      have hcs : (3000 < (fsO L).length ∧ fsC L = 5 ∧ fsV L = []) ∨ ((fsO L).length ≤ 3000 ∧ fsC L = 0 ∧ fsV L = fsO L) := by
        rcases HCS.out with h | h | h | h
        · have := h.1; rw [hv] at this; cases this
        · have := h.2.1; rw [hp] at this; cases this
        · exact .inl h.2.2
        · exact .inr h.2.2
      obtain ⟨out, hout⟩ : ∃ out, fsO L = out := ⟨_, rfl⟩
      rw [hout] at hF hol hcs
      have KF := Lib.hid (fun W (hW : Below w.heap.size w W) => l11Flat_any hv hp L.length 0 L.length out A c W (by omega) (Nat.le_refl _) hF (hr.below steady_InsM hW))
      unfold SfRet at KF
      have HCS2 := Lib.hid hcs
      clear hF hcs HCS hout
      go_enter Try.func15, Try.ntmps15
      go_wp2_with fail
      refine (KV.out _ (Below.refl _ _)).mono ?_; rintro e w1 ⟨rfl, hw⟩
      have K1 := (Kn.nil w).keep hw
      clear hw KV
      go_wp2_with fail
      go_loopw [4] (fun ii wr => ∃ k : Nat, k ≤ L.length ∧ ii = .int .i64 k ∧ Kn w [] wr) (fun ii _ => L.length - (intOf ii).toNat)
      case atStart => exact ⟨0, Nat.zero_le _, rfl, K1⟩
      case round =>
        clear K1
        obtain ⟨k, hk, rfl, hK⟩ := hrel
        by_cases hkn : k < L.length
        · obtain ⟨ad, hA, hlt, hkl, y1, y2⟩ := (hr.below steady_InsM hK.below).at_ hkn
          obtain ⟨h1, h9⟩ := plainI_get hp hkl
          obtain ⟨y, hy⟩ : ∃ y, L[k] = y := ⟨_, rfl⟩
          rw [hy] at y1 y2 h1 h9
          have e1 : (y.op == 1) = false := beq_eq_false_iff_ne.2 h1
          have e9 : (y.op == 9) = false := beq_eq_false_iff_ne.2 h9
          have hi0 : (0 : Int) ≤ (k : Int) := by omega
          have hi1 : (k : Int) < (L.length : Int) := by omega
          subst hA
          clear hy h1 h9
          go_wp2_with fail
          go_roundw
          case rel => exact ⟨k + 1, by omega, by go_num, hK⟩
          case measure => simp [intOf]; omega
        · have hi1 : ¬ (k : Int) < (L.length : Int) := by omega
          have KF2 := Lib.hid (KF.out _ hK.below)
          clear KF
          go_wp2_with fail
          refine KF2.out.mono ?_
          rintro e w2 (⟨hl, g5, c5, rfl, hKn⟩ | ⟨hl, rfl, hw⟩)
          · have HE := Lib.hid (show fsC L = 0 ∧ fsV L = out from by
              rcases HCS2.out with h | h
              · exact absurd h.1 (by omega)
              · exact h.2)
            have K3 := hK.join hKn
            clear hKn hK KF2 HCS2
            go_wp2_with fail
            go_ret2
            rw [HE.out.1, HE.out.2]
            exact ⟨_, c5, rfl, K3⟩
          · have HE := Lib.hid (show fsC L = 5 ∧ fsV L = [] from by
              rcases HCS2.out with h | h
              · exact h.2
              · exact absurd h.1 (by omega))
            have K3 := hK.keep hw
            clear hw hK KF2 HCS2
            go_wp2_with fail
            go_ret2
            rw [HE.out.1, HE.out.2]
            exact ⟨none, 0, rfl, K3.nilRow _ _⟩
end Go.Proofs.Ytkfbfainhmkkdaa

namespace Go.Proofs.Ytkfbfainhmkkdaa
open Go.RowKit Go.Sort
theorem MT.zero {L : List Ins} {x v : Int} (h : MT L x v 0) : ∃ i e : Nat, x = i ∧ v = e ∧ i < e ∧ ∃ he : e < L.length, L[e].op = 10 := by
  rcases h with ⟨-, -, h⟩ | ⟨-, -, -, h⟩ | ⟨_, _, _, _, _, _, h⟩ | ⟨i, e, hi, hv, rfl, ho, hm, rfl, -⟩
  · cases h
  · cases h
  · cases h
  · exact ⟨i, e, rfl, rfl, match_end hv hi ho hm⟩
/-- what the law asks of a flat program -/
theorem flat_law {F : List Ins} {t : Tri} (h : fsC F = 0) (hm : vmach t = true) : (rpC F t = 0 ∧ rpT F t = fsV F) ∨ rpC F t = 5 := by
  rcases fs_cases F with ⟨-, h1, -⟩ | ⟨-, -, h1, -⟩ | ⟨-, -, -, h1, -⟩ | ⟨hv, hp, -, h1, h2⟩
  · rw [h1] at h; cases h
  · rw [h1] at h; cases h
  · rw [h1] at h; cases h
  · rw [h2]
    exact flat_trace hm hv hp (fsO_fl hv hp).1
theorem fsV_len (F : List Ins) : (fsV F).length ≤ 3000 := by
  rcases fs_cases F with ⟨-, -, h⟩ | ⟨-, -, -, h⟩ | ⟨-, -, -, -, h⟩ | ⟨-, -, hl, -, h⟩
  · rw [h]; simp
  · rw [h]; simp
  · rw [h]; simp
  · rw [h]; exact hl
set_option maxRecDepth 100000 in
set_option maxHeartbeats 12800000 in
theorem law_Runs (A : Option Addr) (n c : Nat) (bs : List UInt8) (w : World) (hb : RB w A n bs) (hn : n ≤ 9223372036854775807) :
    Calls Try.prog 3 #[.slice A n c] w fun e w' => e = .returned (.bool true) ∧ Below w.heap.size w w' := by
  have KD := Lib.hid (DrawRunProgram_any A n c bs w hb hn)
  have KF := Lib.hid (fun W (hW : Below w.heap.size w W) => DrawFlatStrokes_any A n c bs W (hb.below hW) hn)
  have KE := Lib.hid (fun W (hW : Below w.heap.size w W) => DrawDepthOfProgram_any A n c bs W (hb.below hW) hn)
  have KN := Lib.hid (fun W (hW : Below w.heap.size w W) => DrawMatchOf_any A n c bs W (hb.below hW) hn)
  unfold DrawsRun at KD
  unfold DrawsIns at KF KE
  clear hb
  have KG := (fun W => f6bigP_any A n c W)
  obtain ⟨bg, hbg⟩ : ∃ b, decide ((n : Int) > 4096) = b := ⟨_, rfl⟩
  rw [hbg] at KG
  replace KG := Lib.hid KG
  clear hbg
  rcases bg with _ | _
  rotate_left
  · go_enter Try.func3, Try.ntmps3
    go_wp2_with (go_at_call 7; refine (KG.out _).mono ?_; rintro e w' ⟨rfl, hww⟩; obtain rfl := hww.symm)
    go_ret
    exact ⟨rfl, Below.refl _ _⟩
  go_enter Try.func3, Try.ntmps3
  go_wp2_with (go_at_call 7; refine (KG.out _).mono ?_; rintro e w' ⟨rfl, hww⟩; obtain rfl := hww.symm)
  refine KD.out.mono ?_; rintro e w1 ⟨t, A1, c1, A2, c2, A3, c3, B, d, L, rfl, ⟨hl, hLl⟩, K1⟩
  clear KD
  have hs : SmallTri t := ⟨by unfold SmallReg; omega, by unfold SmallReg; omega, by unfold SmallReg; omega⟩
  have HS := Lib.hid hs
  clear hl
  have KA := (fun W r1 r2 r3 hr => RunProgram_any (L := L) (n := L.length) (lc := d) (LA := B) t A1 A2 A3 c1 c2 c3 W r1 r2 r3 hs hr (by omega))
  have KB := (fun W r1 r2 r3 hr => specRunProgram_any (L := L) (n := L.length) (lc := d) (LA := B) t A1 A2 A3 c1 c2 c3 W r1 r2 r3 hs hr (by omega))
  have KT1 := (fun W r1 r2 r3 hr => TraceProgram_any (L := L) (n := L.length) (lc := d) (LA := B) t A1 A2 A3 c1 c2 c3 W r1 r2 r3 hs hr (by omega))
  have KT2 := (fun W r1 r2 r3 hr => specTraceProgram_any (L := L) (n := L.length) (lc := d) (LA := B) t A1 A2 A3 c1 c2 c3 W r1 r2 r3 hs hr (by omega))
  have hTl := rpT_len L t
  unfold RPRet at KA KB
  unfold TPRet at KT1 KT2
  obtain ⟨M, hM⟩ : ∃ v, rpM L t = v := ⟨_, rfl⟩
  obtain ⟨T, hT⟩ : ∃ v, rpT L t = v := ⟨_, rfl⟩
  obtain ⟨C, hC⟩ : ∃ v, rpC L t = v := ⟨_, rfl⟩
  simp only [hM, hT, hC] at KA KB KT1 KT2 hTl
  have KA := Lib.hid KA
  have KB := Lib.hid KB
  have KT1 := Lib.hid KT1
  have KT2 := Lib.hid KT2
  clear hM hT hC hs
  obtain ⟨g, hg⟩ : ∃ g, w1.heap.size = g := ⟨_, rfl⟩
  go_wp2_with fail
  refine Calls.kn (K1.al [.int .i64 t.a.base, .slice A1 t.a.digits.length c1, .int .i64 t.b.base, .slice A2 t.b.digits.length c2, .int .i64 t.s.base, .slice A3 t.s.digits.length c3, .int .i64 t.carry] 28) ?_; intro w2 K2
  rw [hg] at K2
  try rw [hg]
  clear K1 hg
  refine (KA.out _ (K2.front 3 rfl).riv (K2.front 2 rfl).riv (K2.front 1 rfl).riv (Kn.rlIns (K2.front 4 rfl)).2).mono ?_; rintro e w3 ⟨E1, f1, E2, f2, E3, f3, rfl, hK⟩
  have K3 := K2.join hK
  clear KA hK K2
  obtain ⟨g2, hg2⟩ : ∃ g, w3.heap.size = g := ⟨_, rfl⟩
  go_upto_region 5 with fail
  refine Code.wp.kn (K3.al [.int .i64 M.a.base, .slice E1 M.a.digits.length f1, .int .i64 M.b.base, .slice E2 M.b.digits.length f2, .int .i64 M.s.base, .slice E3 M.s.digits.length f3, .int .i64 M.carry] 28) ?_; intro w4 K4
  rw [hg2] at K4
  try rw [hg2]
  clear K3 hg2
  obtain ⟨a1, a2, a3, -⟩ := (K4.front 4 rfl).cells
  go_wp2_with fail
  refine (KB.out _ (K4.front 7 rfl).riv (K4.front 6 rfl).riv (K4.front 5 rfl).riv (Kn.rlIns (K4.front 8 rfl)).2).mono ?_; rintro e w5 ⟨G1, h1, G2, h2, G3, h3, rfl, hK⟩
  have K5 := K4.join hK
  clear KB hK K4 a1 a2 a3
  obtain ⟨g3, hg3⟩ : ∃ g, w5.heap.size = g := ⟨_, rfl⟩
  go_upto_region 6 with fail
  refine Code.wp.kn (K5.al [.int .i64 M.a.base, .slice G1 M.a.digits.length h1, .int .i64 M.b.base, .slice G2 M.b.digits.length h2, .int .i64 M.s.base, .slice G3 M.s.digits.length h3, .int .i64 M.carry] 28) ?_; intro w6 K6
  rw [hg3] at K6
  try rw [hg3]
  clear K5 hg3
  obtain ⟨a1, a2, a3, -⟩ := (K6.front 8 rfl).cells
  go_wp2_with fail
  refine (KT1.out _ (K6.front 11 rfl).riv (K6.front 10 rfl).riv (K6.front 9 rfl).riv (Kn.rlIns (K6.front 12 rfl)).2).mono ?_; rintro e w7 ⟨TA, tac, rfl, hK⟩
  have K7 := K6.join hK
  clear KT1 hK K6 a1 a2 a3
  obtain ⟨a1, a2, a3, -⟩ := (K7.front 9 rfl).cells
  go_wp2_with fail
  refine (KT2.out _ (K7.front 12 rfl).riv (K7.front 11 rfl).riv (K7.front 10 rfl).riv (Kn.rlIns (K7.front 13 rfl)).2).mono ?_; rintro e w8 ⟨TB, tbc, rfl, hK⟩
  have K8 := K7.join hK
  clear KT2 hK K7 a1 a2 a3
  go_wp2_with fail
  refine (KF.out _ K8.below).mono ?_; rintro e w9 ⟨FB0, fd, F, rfl, hFl, hK⟩
  have K9 := K8.join hK
  clear KF hK K8
  have KA := (fun W hr => FlatStrokes_any F FB0 F.length fd W hr (by omega))
  have KB := (fun W hr => specFlatStrokes_any F FB0 F.length fd W hr (by omega))
  have HT := (fun (h : fsC F = 0) (hm : vmach t = true) => flat_law h hm)
  have hfvl := fsV_len F
  unfold FsRet at KA KB
  obtain ⟨fv, hfv⟩ : ∃ v, fsV F = v := ⟨_, rfl⟩
  obtain ⟨fc, hfc⟩ : ∃ v, fsC F = v := ⟨_, rfl⟩
  simp only [hfv, hfc] at KA KB HT hfvl
  have KA := Lib.hid KA
  have KB := Lib.hid KB
  have HT := Lib.hid HT
  clear hfv hfc
  go_wp2_with fail
  refine (KA.out _ (Kn.rlIns K9).2).mono ?_; rintro e w10 ⟨FA, fac, rfl, hK⟩
  have K10 := K9.join hK
  clear KA hK K9
  go_wp2_with fail
  refine (KB.out _ (Kn.rlIns (K10.front 1 rfl)).2).mono ?_; rintro e w11 ⟨FB, fbc, rfl, hK⟩
  have K11 := (K10.join hK).sel [9, 10, 11, 12, 5, 6, 7, 8, 4, 3, 1, 0, 2, 13, 14, 15, 16] 99 (by decide) (by decide)
  clear KB hK K10
  go_wp2_with fail
  refine (KE.out _ K11.below).mono ?_; rintro e w12 ⟨DB, dd, D, rfl, hDl, hK⟩
  have K12 := K11.join hK
  clear KE hK K11
  have KA := (fun W hr => DepthOfProgram_any D DB D.length dd W hr (by omega))
  have KB := (fun W hr => specDepthOfProgram_any D DB D.length dd W hr (by omega))
  unfold DepRet at KA KB
  obtain ⟨dv, hdv⟩ : ∃ v, dpV D = v := ⟨_, rfl⟩
  obtain ⟨dc, hdc⟩ : ∃ v, dpCode D = v := ⟨_, rfl⟩
  simp only [hdv, hdc] at KA KB
  have KA := Lib.hid KA
  have KB := Lib.hid KB
  clear hdv hdc
  go_wp2_with fail
  refine (KA.out _ (Kn.rlIns K12).2).mono ?_; rintro e w13 ⟨rfl, hw⟩
  have K13 := K12.keep hw
  clear KA hw K12
  go_wp2_with fail
  refine (KB.out _ (Kn.rlIns K13).2).mono ?_; rintro e w14 ⟨rfl, hw⟩
  have K14 := (K13.keep hw).drop
  clear KB hw K13
  go_wp2_with fail
  refine (KN.out _ K14.below).mono ?_; rintro e w15 ⟨NB, nd, NL, x, rfl, hNl, hK⟩
  have K15 := K14.join hK
  clear KN hK K14
  have KA := Lib.hid (fun W hr => MatchOf_any NL NB NL.length nd x W hr (by omega))
  have KB := Lib.hid (fun W hr => specMatchOf_any NL NB NL.length nd x W hr (by omega))
  unfold MTRet at KA KB
  go_wp2_with fail
  refine (KA.out _ (Kn.rlIns K15).2).mono ?_; rintro e w16 ⟨mv, mc, rfl, hmt, hw⟩
  have K16 := K15.keep hw
  clear KA hw K15
  go_wp2_with fail
  refine (KB.out _ (Kn.rlIns K16).2).mono ?_; rintro e w17 ⟨mv2, mc2, rfl, hmt2, hw⟩
  have K17 := K16.keep hw
  clear KB hw K16
  obtain ⟨rfl, rfl⟩ := hmt.one hmt2
  clear hmt2
  have HMT := Lib.hid hmt
  clear hmt
  obtain ⟨a1, a2, a3, -⟩ := (K17.front 1 rfl).cells
  obtain ⟨b1, b2, b3, -⟩ := (K17.front 5 rfl).cells
  go_wp2_with fail
  have hsm : SmallTri M := ⟨Kn.rowSmall (K17.front 4 rfl), Kn.rowSmall (K17.front 3 rfl), Kn.rowSmall (K17.front 2 rfl)⟩
  have hsame := specSameMachine_any M M E1 E2 E3 G1 G2 G3 f1 f2 f3 h1 h2 h3 w17 (K17.front 4 rfl).riv (K17.front 3 rfl).riv (K17.front 2 rfl).riv (K17.front 8 rfl).riv (K17.front 7 rfl).riv (K17.front 6 rfl).riv hsm hsm
  rw [sameM_refl] at hsame
  refine hsame.mono ?_; rintro e w18 ⟨rfl, hw⟩
  have K18 := K17.keep hw
  clear K17 hw hsame hsm a1 a2 a3 b1 b2 b3
  go_wp2_with fail
  have hfi := f6ints_any TA TB T.length tac T.length tbc T T w18 (K18.front 9 rfl).riv (K18.front 10 rfl).riv (by omega) (by omega)
  rw [show decide (T = T) = true from decide_eq_true rfl] at hfi
  refine hfi.mono ?_; rintro e w19 ⟨rfl, q, rfl⟩
  have K19 := K18.drewN q
  generalize w18.drewN q = w19 at K19 ⊢
  clear hfi K18
  go_wp2_with fail
  have hfi := f6ints_any FA FB fv.length fac fv.length fbc fv fv w19 (K19.front 11 rfl).riv (K19.front 12 rfl).riv (by omega) (by omega)
  rw [show decide (fv = fv) = true from decide_eq_true rfl] at hfi
  refine hfi.mono ?_; rintro e w20 ⟨rfl, q, rfl⟩
  have K20 := K19.drewN q
  generalize w19.drewN q = w20 at K20 ⊢
  clear hfi K19
  go_upto_region 19 with fail
  by_cases hmc : mc = 0
  · subst hmc
    obtain ⟨i, e, rfl, rfl, hie, hel, hop⟩ := HMT.out.zero
    obtain ⟨ad, hA, hlt, hkl, y1, y2⟩ := (Kn.rlIns (K20.front 0 rfl)).2.at_ hel
    rw [hop] at y1
    have hi1 : ¬ (e : Int) ≤ (i : Int) := by omega
    have hi2 : (0 : Int) ≤ (e : Int) := by omega
    have hi3 : (e : Int) < (NL.length : Int) := by omega
    subst hA
    clear HMT hop
    go_upto_region 21 with fail
    by_cases hf : fc = 0
    · have HT2 := Lib.hid (HT.out hf)
      clear HT
      subst hf
      obtain ⟨a1, a2, a3, -⟩ := ((K20).front 14 rfl).cells
      have KV := specVM_any t A1 A2 A3 c1 c2 c3 _ ((K20).front 17 rfl).riv ((K20).front 16 rfl).riv ((K20).front 15 rfl).riv HS.out
      cases hvm : vmach t with
      | false =>
        rw [hvm] at KV
        have KV := Lib.hid KV
        clear hvm HT2
        go_wp2_with fail
        refine KV.out.mono ?_; rintro e w41 ⟨rfl, hw⟩
        have K41 := (K20).keep hw
        clear KV hw a1 a2 a3
        go_upto_region 25 with fail
        by_cases hC : C = 0
        · subst hC
          go_wp2_with fail
          go_ret
          exact ⟨by simp, (K41).below⟩
        · have hC1 : (C == 0) = false := by simpa using hC
          have hC2 : (C != 0) = true := by simpa using hC
          go_wp2_with fail
          go_ret
          exact ⟨rfl, (K41).below⟩
      | true =>
        rw [hvm] at KV
        have KV := Lib.hid KV
        have hT3 := HT2.out hvm
        clear hvm HT2
        go_wp2_with fail
        refine KV.out.mono ?_; rintro e w41 ⟨rfl, hw⟩
        have K41 := (K20).keep hw
        clear KV hw a1 a2 a3
        obtain ⟨a1, a2, a3, -⟩ := (K41.front 14 rfl).cells
        have KT := TraceProgram_any (L := F) (n := F.length) (lc := fd) (LA := FB0) t A1 A2 A3 c1 c2 c3 w41 (K41.front 17 rfl).riv (K41.front 16 rfl).riv (K41.front 15 rfl).riv HS.out (Kn.rlIns (K41.front 13 rfl)).2 (by omega)
        unfold TPRet at KT
        rcases hT3 with ⟨e1, e2⟩ | e1
        · rw [e1, e2] at KT
          have KT := Lib.hid KT
          clear e1 e2
          go_wp2_with fail
          refine KT.out.mono ?_; rintro e w42 ⟨OA, oc, rfl, hK⟩
          have K42 := K41.join hK
          clear KT hK K41 a1 a2 a3
          go_wp2_with fail
          have hfi := f6ints_any OA FA fv.length oc fv.length fac fv fv w42 (K42.front 0 rfl).riv (K42.front 12 rfl).riv (by omega) (by omega)
          rw [show decide (fv = fv) = true from decide_eq_true rfl] at hfi
          refine hfi.mono ?_; rintro e w43 ⟨rfl, q, rfl⟩
          have K43 := K42.drewN q
          generalize w42.drewN q = w43 at K43 ⊢
          clear hfi K42
          go_upto_region 25 with fail
          by_cases hC : C = 0
          · subst hC
            go_wp2_with fail
            go_ret
            exact ⟨by simp, (K43).below⟩
          · have hC1 : (C == 0) = false := by simpa using hC
            have hC2 : (C != 0) = true := by simpa using hC
            go_wp2_with fail
            go_ret
            exact ⟨rfl, (K43).below⟩
        · rw [e1] at KT
          obtain ⟨ot, hot⟩ : ∃ o, rpT F t = o := ⟨_, rfl⟩
          rw [hot] at KT
          have KT := Lib.hid KT
          clear e1 hot
          go_wp2_with fail
          refine KT.out.mono ?_; rintro e w42 ⟨OA, oc, rfl, hK⟩
          have K42 := K41.join hK
          clear KT hK K41 a1 a2 a3
          go_upto_region 25 with fail
          by_cases hC : C = 0
          · subst hC
            go_wp2_with fail
            go_ret
            exact ⟨by simp, (K42).below⟩
          · have hC1 : (C == 0) = false := by simpa using hC
            have hC2 : (C != 0) = true := by simpa using hC
            go_wp2_with fail
            go_ret
            exact ⟨rfl, (K42).below⟩
    · have hf1 : (fc == 0) = false := by simpa using hf
      clear HT
      go_upto_region 25 with fail
      by_cases hC : C = 0
      · subst hC
        go_wp2_with fail
        go_ret
        exact ⟨by simp, (K20).below⟩
      · have hC1 : (C == 0) = false := by simpa using hC
        have hC2 : (C != 0) = true := by simpa using hC
        go_wp2_with fail
        go_ret
        exact ⟨rfl, (K20).below⟩
  · have hmc1 : (mc == 0) = false := by simpa using hmc
    clear HMT
    go_upto_region 21 with fail
    by_cases hf : fc = 0
    · have HT2 := Lib.hid (HT.out hf)
      clear HT
      subst hf
      obtain ⟨a1, a2, a3, -⟩ := ((K20).front 14 rfl).cells
      have KV := specVM_any t A1 A2 A3 c1 c2 c3 _ ((K20).front 17 rfl).riv ((K20).front 16 rfl).riv ((K20).front 15 rfl).riv HS.out
      cases hvm : vmach t with
      | false =>
        rw [hvm] at KV
        have KV := Lib.hid KV
        clear hvm HT2
        go_wp2_with fail
        refine KV.out.mono ?_; rintro e w41 ⟨rfl, hw⟩
        have K41 := (K20).keep hw
        clear KV hw a1 a2 a3
        go_upto_region 25 with fail
        by_cases hC : C = 0
        · subst hC
          go_wp2_with fail
          go_ret
          exact ⟨by simp, (K41).below⟩
        · have hC1 : (C == 0) = false := by simpa using hC
          have hC2 : (C != 0) = true := by simpa using hC
          go_wp2_with fail
          go_ret
          exact ⟨rfl, (K41).below⟩
      | true =>
        rw [hvm] at KV
        have KV := Lib.hid KV
        have hT3 := HT2.out hvm
        clear hvm HT2
        go_wp2_with fail
        refine KV.out.mono ?_; rintro e w41 ⟨rfl, hw⟩
        have K41 := (K20).keep hw
        clear KV hw a1 a2 a3
        obtain ⟨a1, a2, a3, -⟩ := (K41.front 14 rfl).cells
        have KT := TraceProgram_any (L := F) (n := F.length) (lc := fd) (LA := FB0) t A1 A2 A3 c1 c2 c3 w41 (K41.front 17 rfl).riv (K41.front 16 rfl).riv (K41.front 15 rfl).riv HS.out (Kn.rlIns (K41.front 13 rfl)).2 (by omega)
        unfold TPRet at KT
        rcases hT3 with ⟨e1, e2⟩ | e1
        · rw [e1, e2] at KT
          have KT := Lib.hid KT
          clear e1 e2
          go_wp2_with fail
          refine KT.out.mono ?_; rintro e w42 ⟨OA, oc, rfl, hK⟩
          have K42 := K41.join hK
          clear KT hK K41 a1 a2 a3
          go_wp2_with fail
          have hfi := f6ints_any OA FA fv.length oc fv.length fac fv fv w42 (K42.front 0 rfl).riv (K42.front 12 rfl).riv (by omega) (by omega)
          rw [show decide (fv = fv) = true from decide_eq_true rfl] at hfi
          refine hfi.mono ?_; rintro e w43 ⟨rfl, q, rfl⟩
          have K43 := K42.drewN q
          generalize w42.drewN q = w43 at K43 ⊢
          clear hfi K42
          go_upto_region 25 with fail
          by_cases hC : C = 0
          · subst hC
            go_wp2_with fail
            go_ret
            exact ⟨by simp, (K43).below⟩
          · have hC1 : (C == 0) = false := by simpa using hC
            have hC2 : (C != 0) = true := by simpa using hC
            go_wp2_with fail
            go_ret
            exact ⟨rfl, (K43).below⟩
        · rw [e1] at KT
          obtain ⟨ot, hot⟩ : ∃ o, rpT F t = o := ⟨_, rfl⟩
          rw [hot] at KT
          have KT := Lib.hid KT
          clear e1 hot
          go_wp2_with fail
          refine KT.out.mono ?_; rintro e w42 ⟨OA, oc, rfl, hK⟩
          have K42 := K41.join hK
          clear KT hK K41 a1 a2 a3
          go_upto_region 25 with fail
          by_cases hC : C = 0
          · subst hC
            go_wp2_with fail
            go_ret
            exact ⟨by simp, (K42).below⟩
          · have hC1 : (C == 0) = false := by simpa using hC
            have hC2 : (C != 0) = true := by simpa using hC
            go_wp2_with fail
            go_ret
            exact ⟨rfl, (K42).below⟩
    · have hf1 : (fc == 0) = false := by simpa using hf
      clear HT
      go_upto_region 25 with fail
      by_cases hC : C = 0
      · subst hC
        go_wp2_with fail
        go_ret
        exact ⟨by simp, (K20).below⟩
      · have hC1 : (C == 0) = false := by simpa using hC
        have hC2 : (C != 0) = true := by simpa using hC
        go_wp2_with fail
        go_ret
        exact ⟨rfl, (K20).below⟩
end Go.Proofs.Ytkfbfainhmkkdaa

namespace Go.Proofs.Ytkfbfainhmkkdaa
open Go.RowKit Go.ChangeShapes Go.WideShapes Go.ChangeAt
section
variable {H : Type} {enc : TypeId × Value → H} {w : World} {base : Nat} {spare : Nat → Bool} {held : Bool} {fuel : Nat} {cs : List Value} {x : DataW H × List MemPlace}
theorem cellsU8 : Try.prog.cellsOf 5 = 1 := by kernel_rfl
theorem byteV_of (z : Int) (h0 : 0 ≤ z) (h1 : z ≤ 255) : Value.int .u8 z = byteV (UInt8.ofNat z.toNat) := by
  unfold byteV
  congr 1
  rw [UInt8.toNat_ofNat']
  omega
theorem rd_bytes (h : DataW.trod enc Try.prog w base spare held fuel 22 cs = some x) : ∃ A n c bs, cs = [.slice A n c] ∧ RB w A n bs ∧ n ≤ 9223372036854775807 := by
  rcases open_ints Try.underlying22 Try.underlying5 cellsU8 h with ⟨rfl, _⟩ | ⟨a, len, cap, zs, rfl, _, hl, hm, hz, _, hcell, hwf⟩
  · exact ⟨none, 0, 0, [], rfl, ⟨rfl, fun h => absurd h (by omega)⟩, by omega⟩
  · have hlen : len ≤ zs.length := by rw [hz]; split <;> omega
    have hw : ∀ z ∈ zs, 0 ≤ z ∧ z ≤ 255 := fun z hz => by
      have h := hwf z hz
      have h1 : IntKind.u8.min = 0 := by decide
      have h2 : IntKind.u8.max = 255 := by decide
      simp [Lit.wf] at h
      omega
    refine ⟨some a, len, cap, (zs.take len).map (fun z => UInt8.ofNat z.toNat), rfl, ⟨by simp; omega, fun h0 => ⟨a, rfl, ?_, fun j u hu => ?_⟩⟩, by simp only [maxLen] at hm; omega⟩
    · have := World.block_lt_of_cell? w _ (hcell 0 (by omega)); rwa [block_of_add] at this
    · rw [List.getElem?_map, List.getElem?_take] at hu
      split at hu
      · have hj : j < zs.length := by omega
        rw [List.getElem?_eq_getElem hj] at hu
        have hu' : UInt8.ofNat zs[j].toNat = u := by simpa using hu
        obtain ⟨z0, z1⟩ := hw zs[j] (List.getElem_mem _)
        rw [hcell j hj, ← hu', ← byteV_of _ z0 z1]
        simp [List.getD, List.getElem?_eq_getElem hj]
      · simp at hu
end
end Go.Proofs.Ytkfbfainhmkkdaa

namespace Go.Proofs.Ytkfbfainhmkkdaa.fnRuns
open Go.ChangeShapes Go.WideShapes Go.ChangeAt Go.RowKit
theorem own : ownKnob Try.prog.godebug = none := by kernel_rfl
theorem laidOut : laidOutB Try.prog = true := by kernel_rfl
set_option maxRecDepth 100000 in
theorem contract (H : Type) (enc : TypeId × Value → H) (W : World) (base : Nat) (args : Array Value) (ds gs : List (DataW H)) (before : List MemPlace)
    (hval : ∀ (j : Nat) t v, Try.f3.params[j]? = some t → args[j]? = some v → Value.okWide Try.prog W .any base t v)
    (hW : DataW.Whole enc Try.prog Try.f3.params.toList Rows.fnRunsSpec.vars false W args.toList ds gs before) :
    Calls Try.prog 3 args W fun e W' => ∃ v, e = .returned v ∧ Rows.fnRunsSpec.post enc Try.prog Try.f3 false true false false W args v W' := by
  have hW' := hW
  obtain ⟨p, q, hA0, hV, rfl, hfz, hnd⟩ := hW
  have hA : DataW.TrodAll enc Try.prog W 0 (fun _ => true) true Try.f3.params.toList args.toList ds p := hA0
  rw [Try.params3] at hA hval
  obtain ⟨v0, vs0, d0, ds0, p0, q0, hargs, rfl, rfl, h0, r0⟩ := trodAll_cons hA
  obtain ⟨rfl, rfl, rfl⟩ := trodAll_nil r0
  obtain rfl : args = #[v0] := by cases args; simp_all
  obtain ⟨rfl, rfl⟩ := trodVars_none hV
  clear hA0
  simp only [List.append_nil] at hW'
  have hlt : ∀ x ∈ p0, x.block < W.heap.size := fun x hx => by
    have := hW'.lt x (by simpa using hx)
    simpa using this
  obtain ⟨Y0A, Y0n, Y0c, rfl⟩ := okWide_slice Try.underlying22 (hval 0 _ _ rfl rfl)
  have t0 := h0
  obtain ⟨fuel0, hf0⟩ := h0
  obtain ⟨QA0, Qn0, Qc0, Y0xs, hcs0, hr0, hn0⟩ := rd_bytes hf0
  obtain ⟨rfl, rfl, rfl⟩ : QA0 = Y0A ∧ Qn0 = Y0n ∧ Qc0 = Y0c := by
    have : [Value.slice Y0A Y0n Y0c] = [.slice QA0 Qn0 Qc0] := hcs0
    injection this with this
    injection this with e1 e2 e3
    exact ⟨e1.symm, e2.symm, e3.symm⟩
  have walk : Calls Try.prog 3 #[.slice QA0 Qn0 Qc0] W fun e w' => e = .returned (.bool true) ∧ Below W.heap.size W w' :=
    law_Runs QA0 Qn0 Qc0 Y0xs W hr0 hn0 
  refine walk.mono fun e W' ⟨he, hb⟩ => ?_
  subst he
  have u0 := Below.trod laidOut (by kernel_rfl) (of_decide_eq_true (by kernel_rfl)) t0 hb hlt
  exact ⟨_, rfl, [d0], [], p0 ++ [], [], p0 ++ [], [], by simpa using hW', trodAll_cons_mk (shut_bool Try.underlying4 _) trodAll_mk0, (trodAll_cons_mk u0 trodAll_mk0), rfl, hb.frame _, fun h => by cases h⟩
theorem reads (os : Os) {H : Type} (enc : TypeId × Value → H) : ∃ places, DataW.whole enc Try.prog ((World.holding Try.prog os ⟨#[], #[], []⟩).forCall (fun _ _ => 0) ⟨#[], #[.slice none 0 0], []⟩).memory Try.f3.params.toList Rows.fnRunsSpec.vars false (#[.slice none 0 0] : Array Value).toList 8 = some ([.nil], [], places) :=
  ⟨[], by kernel_rfl⟩
set_option maxRecDepth 100000 in
theorem lifted (os : Os) (started : os.Started) (H : Type) (enc : TypeId × Value → H) (F : Stop.Interp) :
    ReturnsInHanded {} Try.checked os 3 .any ((OpenSpec.ofChange Rows.fnRunsSpec).preRow enc Try.prog Try.f3 Rows.fnRunsRow.domain false Rows.fnRunsRow.laid) (((OpenSpec.ofChange Rows.fnRunsSpec).at F).post enc Try.prog Try.f3 false true false false) := by
  obtain ⟨places, hx⟩ := reads os enc
  refine returnsInHanded_of_row (C := Try.checked) (s := OpenSpec.ofChange Rows.fnRunsSpec) own started (by kernel_rfl) Try.func3
    (witness_row_at (enc := enc) (C := Try.checked) false (World.holding Try.prog os ⟨#[], #[], []⟩) #[.slice none 0 0] rfl (by kernel_rfl) (by kernel_rfl) (by kernel_rfl)
      (OpenSpec.preRow_of_cond 8 hx (by kernel_rfl) (fun k hk => by cases hk) (by kernel_rfl) (laidMet_of_run' 8 (by kernel_rfl) (by kernel_rfl)))) ?_
  intro W base args ds gs before hval hW _ _ _ _ _ _
  exact contract H enc W base args ds gs before hval hW
theorem said : Rows.FnRunsSaid :=
  OpenClaim.holds_of_cond 3 Try.f3 rfl rfl rfl rfl rfl rfl rfl ⟨rfl, rfl, rfl, rfl, rfl⟩ rfl rfl rfl rfl rfl (by kernel_rfl) Try.func3 (by kernel_rfl)
    (of_decide_eq_true (by kernel_rfl)) (by unfold Func.isWrapper; first | (rw [if_pos (by decide +kernel)]; kernel_rfl) | (rw [if_neg (by decide +kernel)]; exact ⟨rfl, rfl⟩))
    (fun os started H enc _ F => by rw [OpenClaim.pre_eq_preRow]; exact lifted os started H enc F)
end Go.Proofs.Ytkfbfainhmkkdaa.fnRuns
