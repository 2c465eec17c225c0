/- Part 6: lemmas and contracts of the claim's functions. -/
import Derived.Test.YtgljafiegpjlkaaGreatDoorZC1
import Derived.Test.YtgljafiegpjlkaaGreatDoorZC2
import Derived.Test.YtgljafiegpjlkaaGreatDoorZC3
import Derived.Test.YtgljafiegpjlkaaGreatDoorZC4
import Derived.Test.YtgljafiegpjlkaaGreatDoorZC5
import Derived.Deep.CutBlock
import Derived.Deep.RegionHeld3
import Derived.Deep.DeepCutAuto
namespace Go.Proofs.YtgljafiegpjlkaaGreatDoor
open Go.RowKit Go.Sort
/-- an entry whose words can be read -/
def EE.reads (e : EE) (w : World) : Prop := (e.X = none → e.x = 0) ∧ RL StrM 1 w e.X e.t.words.length e.t.words
theorem EE.reads.below {e : EE} {w w' : World} (h : e.reads w) (hb : Below w.heap.size w w') : e.reads w' := ⟨h.1, h.2.below steady_StrM hb⟩
theorem addr_aa (a : Addr) (m n : Nat) : (a.add m).add n = a.add (m + n) := by
  unfold Addr.add
  by_cases hm : m = 0 <;> by_cases hn : n = 0 <;> simp [hm, hn, Nat.add_assoc]
/-- a row of entries that is read, as cells -/
theorem rawE {w : World} {ad : Addr} {n : Nat} {L : List Etr} (hr : RL EtrM 5 w (some ad) n L) : ∃ E : List EE, E.map EE.t = L ∧ (∀ j u, (cellsE E)[j]? = some u → w.cell? (ad.add j) = some u) ∧ ∀ e ∈ E, e.reads w := by
  have H : ∀ k, k ≤ L.length → ∃ E : List EE, E.map EE.t = L.take k ∧ (∀ j u, (cellsE E)[j]? = some u → w.cell? (ad.add j) = some u) ∧ ∀ e ∈ E, e.reads w := by
    intro k
    induction k with
    | zero => intro _; exact ⟨[], rfl, fun j u h => by simp [cellsE] at h, fun e h => by cases h⟩
    | succ k ih =>
      intro hk
      obtain ⟨E, h1, h2, h3⟩ := ih (by omega)
      obtain ⟨ad', e, hlt, hkl, A, c, hn, ⟨c0, c1, c2, c3, c4⟩, hw⟩ := hr.at_ (k := k) (by have := hr.1; omega)
      injection e with e
      subst e
      have hEl : E.length = k := by have := congrArg List.length h1; rw [List.length_map, List.length_take] at this; omega
      refine ⟨E ++ [⟨L[k], A, c⟩], by rw [List.map_append, h1, List.take_succ_eq_append_getElem (by omega)]; rfl, fun j u hu => ?_, fun e he => ?_⟩
      · rw [cellsE_app] at hu
        by_cases hj : j < (cellsE E).length
        · rw [List.getElem?_append_left hj] at hu
          exact h2 j u hu
        · rw [List.getElem?_append_right (by omega)] at hu
          have hl := cellsE_len E
          rw [hEl] at hl
          rw [hl] at hu hj
          obtain ⟨i, rfl⟩ : ∃ i, j = k * 5 + i := ⟨j - k * 5, by omega⟩
          rw [Nat.add_sub_cancel_left] at hu
          have hu : (EE.cells ⟨L[k], A, c⟩)[i]? = some u := by simpa [cellsE] using hu
          unfold EE.cells at hu
          rw [← addr_aa]
          generalize ad.add (k * 5) = p at c0 c1 c2 c3 c4 ⊢
          match i, hu with
          | 0, hu => simp only [List.getElem?_cons_zero, Option.some.injEq] at hu; rw [← hu, addr_add_zero]; exact c0
          | 1, hu => simp only [List.getElem?_cons_succ, List.getElem?_cons_zero, Option.some.injEq] at hu; rw [← hu]; exact c1
          | 2, hu => simp only [List.getElem?_cons_succ, List.getElem?_cons_zero, Option.some.injEq] at hu; rw [← hu]; exact c2
          | 3, hu => simp only [List.getElem?_cons_succ, List.getElem?_cons_zero, Option.some.injEq] at hu; rw [← hu]; exact c3
          | 4, hu => simp only [List.getElem?_cons_succ, List.getElem?_cons_zero, Option.some.injEq] at hu; rw [← hu]; exact c4
          | i + 5, hu => simp at hu
      · rcases List.mem_append.1 he with he | he
        · exact h3 e he
        · rw [List.mem_singleton.1 he]
          exact ⟨hn, hw⟩
  obtain ⟨E, h1, h2, h3⟩ := H L.length (Nat.le_refl _)
  exact ⟨E, by rw [h1, List.take_length], h2, h3⟩
theorem cellsE_one (M : List EE) : ∀ u ∈ cellsE M, u.oneCell' = true := fun u hu => by
  unfold cellsE at hu
  obtain ⟨e, -, hu⟩ := List.mem_flatMap.1 hu
  unfold EE.cells at hu
  simp only [List.mem_cons, List.not_mem_nil, or_false] at hu
  rcases hu with rfl | rfl | rfl | rfl | rfl <;> rfl
/-- entries that lie in a row of the call's own, their words elsewhere -/
theorem Kn.rlRaw {w0 w : World} {m : List Ent} {A : Option Addr} {n c : Nat} {M : List EE} (h : Kn w0 (.row (.slice A n c) 27 5 n (cellsE M) :: m) w) (hl : M.length = n) (hm : ∀ e ∈ M, e.reads w) : RL EtrM 5 w A n (M.map EE.t) := by
  have hr : w.ownsRow 0 27 5 (.slice A n c) n (cellsE M) := h.at0
  refine ⟨by rw [List.length_map]; exact hl, fun h0 => ?_⟩
  rcases hr.2 with ⟨hv, hn⟩ | ⟨g, cap, cur, hv, -, hg, -⟩
  · omega
  · injection hv with h1 h2 h3
    refine ⟨_, h1, (Array.getElem?_eq_some_iff.1 hg).1, fun k hk => ?_⟩
    have hk' : k < M.length := by rw [List.length_map] at hk; exact hk
    rw [List.getElem_map]
    have hx : M[k]? = some M[k] := List.getElem?_eq_getElem hk'
    obtain ⟨r0, r1⟩ := hm _ (List.getElem_mem hk')
    rw [h1] at hr
    have hc : ∀ j u, (M[k].cells)[j]? = some u → w.cell? ⟨g, k * 5 + j, none⟩ = some u := fun j u hu => by
      have hq := hr.cells (g := g) rfl _ _ (cellsE_get M k _ hx j u hu)
      rw [add_zero_block] at hq
      exact hq
    rw [add_zero_block]
    exact ⟨_, _, r0, ⟨hc 0 _ rfl, hc 1 _ rfl, hc 2 _ rfl, hc 3 _ rfl, hc 4 _ rfl⟩, r1⟩
section
variable {ops : Array Oper} {rest : List Oper} {o : Oper} {a : Act} {Q : Exit → Act → World → Prop} {w0 w : World} {m : List Ent}
/-- append(s, x..) of entries, x a row that is only read -/
theorem kn_appRE (hgd : o.guard = none) (s x : Operand) (ho : o.op = .call { callee := .builtin .append, args := #[s, x], argTypes := #[24, 24] })
    (v : Value) (q : Nat) (M : List EE) (hs : a.eval s = v) {ad : Addr} {n c : Nat} {E : List EE} (hx : a.eval x = .slice (some ad) n c) (hE : E.length = n) (hc : ∀ j u, (cellsE E)[j]? = some u → w.cell? (ad.add j) = some u)
    (hK : Kn w0 (.row v 27 5 q (cellsE M) :: m) w) (hl : q + n ≤ 1000000)
    (h : ∀ v' w', Kn w0 (.row v' 27 5 (q + n) (cellsE (M ++ E)) :: m) w' → wpList Tryz.prog ops Q rest (a.put o.dst v') w') : wpList Tryz.prog ops Q (o :: rest) a w := by
  refine kn_appC tpE hgd s x ho v q (cellsE M) hs (ad := ad) (c := c) (k := n) (l := cellsE E) hx hc hK (by rw [cellsE_len, hE]) (cellsE_one E) (by omega) (by omega) (fun v' w' K => h v' w' ?_)
  rw [cellsE_app]
  exact K
theorem kn_appRE0 (hgd : o.guard = none) (s x : Operand) (ho : o.op = .call { callee := .builtin .append, args := #[s, x], argTypes := #[24, 24] })
    (v : Value) (q : Nat) (M : List EE) (hs : a.eval s = v) (hx : a.eval x = .slice none 0 0)
    (hK : Kn w0 (.row v 27 5 q (cellsE M) :: m) w)
    (h : wpList Tryz.prog ops Q rest (a.put o.dst v) w) : wpList Tryz.prog ops Q (o :: rest) a w := by
  obtain ⟨i0, hi, hz0, hz1, hz2⟩ := info_parts tpE.info
  exact wpList_append_own_none hgd s x 24 ho 0 27 i0 5 tpE.under hi v q (cellsE M) hs hK.at0 hx h
end
theorem ins_perm {L : List Etr} (x : Etr) (k : Nat) : (L.take k ++ [x] ++ L.drop k).Perm (L ++ [x]) := by
  have h1 : (L.take k ++ [x] ++ L.drop k).Perm (L.take k ++ (L.drop k ++ [x])) := by
    rw [List.append_assoc]
    exact List.Perm.append_left _ List.perm_append_comm
  rw [← List.append_assoc, List.take_append_drop] at h1
  exact h1
theorem ins_sorted {L : List Etr} {x : Etr} {k : Nat} (hL : entsP L L.length = true) (hk : k ≤ L.length) (h1 : ∀ i (h : i < L.length), k ≤ i → x.num < L[i].num) (h2 : ∀ j (h : j < L.length), j + 1 = k → L[j].num ≤ x.num) : (L.take k ++ [x] ++ L.drop k).Pairwise (fun a b => a.num ≤ b.num) := by
  have hasc := ents_asc hL
  have hle : L.Pairwise (fun a b => a.num ≤ b.num) := hasc.imp (fun h => Int.le_of_lt h)
  have hp := List.pairwise_iff_getElem.1 hasc
  have hlow : ∀ y ∈ L.take k, y.num ≤ x.num := fun y hy => by
    obtain ⟨i, hi, rfl⟩ := List.getElem_of_mem hy
    rw [List.length_take] at hi
    rw [List.getElem_take]
    have h3 := h2 (k - 1) (by omega) (by omega)
    rcases Nat.lt_or_ge i (k - 1) with h4 | h4
    · have := hp i (k - 1) (by omega) (by omega) h4; omega
    · obtain rfl : i = k - 1 := by omega
      exact h3
  have hhigh : ∀ y ∈ L.drop k, x.num ≤ y.num := fun y hy => by
    obtain ⟨i, hi, rfl⟩ := List.getElem_of_mem hy
    rw [List.length_drop] at hi
    rw [List.getElem_drop]
    exact Int.le_of_lt (h1 (k + i) (by omega) (by omega))
  rw [List.append_assoc, List.pairwise_append]
  refine ⟨hle.sublist (List.take_sublist _ _), ?_, fun a ha b hb => ?_⟩
  · rw [List.singleton_append, List.pairwise_cons]
    exact ⟨hhigh, hle.sublist (List.drop_sublist _ _)⟩
  · rcases List.mem_append.1 hb with hb | hb
    · rw [List.mem_singleton.1 hb]; exact hlow a ha
    · exact Int.le_trans (hlow a ha) (hhigh b hb)
end Go.Proofs.YtgljafiegpjlkaaGreatDoor

namespace Go.Proofs.YtgljafiegpjlkaaGreatDoor
open Go.RowKit Go.Sort
set_option maxRecDepth 100000 in
set_option maxHeartbeats 6400000 in
theorem specAddEntry_any (B : Option Addr) (n bc : Nat) (L : List Etr) (x : Etr) (A : Option Addr) (c : Nat) (w : World) (hr : RL EtrM 5 w B n L) (hn : n ≤ 1048576) (hnc : n ≤ bc) (hB : B = none → bc = 0) (hbc : bc ≤ 9223372036854775807) (hz : ∀ x ∈ L, SmE x) (hxr : RL StrM 1 w A x.words.length x.words) (hxn : A = none → c = 0) (hxz : SmE x) :
    Calls Tryz.prog 11 #[.slice B n bc, .agg #[.int .i64 x.num, .string x.name, .string x.maker, .int .i64 x.year, .slice A x.words.length c]] w (AERet (adL L x) (adC L x) w) := by
  have hLn := hr.1
  have KV := (fun W (hW : Below w.heap.size w W) => l25Ok_any B n bc L W (hr.below steady_EtrM hW) (by omega) hz)
  have KX := (fun g W (h0 : Kn w [.blk g [.int .i64 x.num, .string x.name, .string x.maker, .int .i64 x.year, .slice A x.words.length c] 27] W) => (l25One_any ⟨g, 0, none⟩ x W ⟨A, c, hxn, by
    obtain ⟨a1, -, -⟩ := h0.blkAt
    exact ⟨a1 0, a1 1, a1 2, a1 3, a1 4⟩, hxr.below steady_StrM h0.below⟩ hxz).mono fun e w' h => (⟨h.1, drewN_Bw h.2⟩ : _ ∧ Below W.heap.size W w'))
  have KF := (fun W (hW : Below w.heap.size w W) => l25Find_any B n bc L x.num W (hr.below steady_EtrM hW) (by omega))
  have HR := Lib.hid (fun W (hW : Below w.heap.size w W) => hr.below steady_EtrM hW)
  have HXR := Lib.hid (fun W (hW : Below w.heap.size w W) => hxr.below steady_StrM hW)
  have HXN := Lib.hid hxn
  have hbd := idxE_bd L x.num
  have F1 := ad_bad (L := L) (x := x)
  have F2 := ad_range (L := L) (x := x)
  have F3 := ad_there (L := L) (x := x)
  have F4 := ad_full (L := L) (x := x)
  have F5 := ad_fine (L := L) (x := x)
  have HM1 := (fun h => ents_words (L := L) h)
  have HM2 := (fun h => etr_words (x := x) h)
  have HM3 := (fun (h : entsOk L = true) => show entsP L L.length = true by unfold entsOk at h; rw [Bool.and_eq_true] at h; exact h.1)
  unfold AERet
  obtain ⟨RL_, hRL⟩ : ∃ v, adL L x = v := ⟨_, rfl⟩
  obtain ⟨RC_, hRC⟩ : ∃ v, adC L x = v := ⟨_, rfl⟩
  obtain ⟨b1, hb1⟩ : ∃ v, entsOk L = v := ⟨_, rfl⟩
  obtain ⟨b2, hb2⟩ : ∃ v, etrOk x = v := ⟨_, rfl⟩
  obtain ⟨ix, hix⟩ : ∃ v, idxE L x.num = v := ⟨_, rfl⟩
  simp only [hRL, hRC, hb1, hb2, hix] at KV KX KF hbd F1 F2 F3 F4 F5 HM1 HM2 HM3 ⊢
  rw [hLn] at F4 F5
  clear hRL hRC hb1 hb2 hix hr hz hxr hxn hxz
  replace KV := Lib.hid KV
  replace KX := Lib.hid KX
  replace KF := Lib.hid KF
  replace HM1 := Lib.hid HM1
  replace HM2 := Lib.hid HM2
  replace HM3 := Lib.hid HM3
  replace F1 := Lib.hid F1
  replace F2 := Lib.hid F2
  replace F3 := Lib.hid F3
  replace F4 := Lib.hid F4
  replace F5 := Lib.hid F5
  have HLN := Lib.hid hLn
  have HBN := Lib.hid hB
  clear hLn hB
  obtain ⟨g, hg⟩ : ∃ g, w.heap.size = g := ⟨_, rfl⟩
  have K0 := (Kn.nil w).al [.int .i64 x.num, .string x.name, .string x.maker, .int .i64 x.year, .slice A x.words.length c] 27
  rw [hg] at K0
  go_enter Tryz.func11, Tryz.ntmps11
  go_upto_region 1 with fail
  try rw [hg]
  refine Code.wp.kn K0 ?_; clear K0 hg; intro w1 K1
  go_wp2_with fail
  refine (KV.out _ K1.below).mono ?_; rintro e w2 ⟨rfl, hw⟩
  have K2 := K1.keep hw
  clear K1 hw
  rcases b1 with _ | _
  · go_wp2_with fail
    go_ret2
    obtain ⟨e1, e2⟩ := F1.out trivial
    rw [e1, e2]
    exact AERet.none K2.below
  obtain ⟨a1, a2, a3⟩ := K2.blkAt
  go_wp2_with fail
  refine (KX.out _ _ K2).mono ?_; rintro e w3 ⟨rfl, hw⟩
  have K3 := K2.keep hw
  clear K2 hw a1 a2 a3
  rcases b2 with _ | _
  · go_wp2_with fail
    go_ret2
    obtain ⟨e1, e2⟩ := F2.out trivial trivial
    rw [e1, e2]
    exact AERet.none K3.below
  obtain ⟨a1, a2, a3⟩ := K3.blkAt
  go_wp2_with fail
  refine (KF.out _ K3.below).mono ?_; rintro e w4 ⟨rfl, hw⟩
  have K4 := K3.keep hw
  clear K3 hw a1 a2 a3
  by_cases h4 : 0 ≤ ix
  · go_wp2_with fail
    go_ret2
    obtain ⟨e1, e2⟩ := F3.out trivial trivial h4
    rw [e1, e2]
    exact AERet.none K4.below
  by_cases h5 : n = 50
  · have i5 : (50 : Int) ≤ (n : Int) := by omega
    go_wp2_with fail
    go_ret2
    obtain ⟨e1, e2⟩ := F4.out trivial trivial (by omega) h5
    rw [e1, e2]
    exact AERet.none K4.below
  obtain ⟨e1, hn50, HP⟩ := F5.out trivial trivial (by omega) h5
  have i5 : ¬ (50 : Int) ≤ (n : Int) := by omega
  have HP := Lib.hid HP
  subst e1
  have hasc := HM3.out trivial
  have HAS := Lib.hid hasc
  clear hasc
  rcases B with _ | ad
  · obtain rfl : bc = 0 := HBN.out rfl
    obtain rfl : n = 0 := by omega
    have hL0 := List.eq_nil_of_length_eq_zero HLN.out
    subst hL0
    have HRR := HP.out [x] (by simp) (by simp)
    have HXX := HM2.out trivial
    clear HBN F1 F2 F3 F4 F5 KV KX KF hbd
    have HK14 := Lib.hid (fun v (w' : World) (K : Kn w (.row v 27 5 1 (cellsE [⟨x, A, c⟩]) :: [.blk g [.int .i64 x.num, .string x.name, .string x.maker, .int .i64 x.year, .slice A x.words.length c] 27]) w') => show ∃ Z z, v = .slice Z 1 z ∧ Calls Tryz.prog 71 #[.slice Z 1 z] w' (OwnES RL_ w') by
      obtain ⟨Z, z, rfl⟩ := row_form K.at0
      refine ⟨Z, z, rfl, ?_⟩
      have hr := K.rlRaw rfl (fun e he => by rw [List.mem_singleton.1 he]; exact ⟨HXN.out, HXR.out _ K.below⟩)
      rw [HRR]
      exact l25Copy_any Z _ z _ w' hr (by omega) (fun y hy => by rw [List.mem_singleton.1 hy]; exact HXX))
    clear HRR HXX
    go_wp2_with fail
    go_loopw [6] (fun kk wr => kk = .int .i64 0 ∧ Kn w [.blk g [.int .i64 x.num, .string x.name, .string x.maker, .int .i64 x.year, .slice A x.words.length c] 27] wr) (fun _ _ => 0)
    case atStart => exact ⟨rfl, K4⟩
    case round =>
      clear K4
      obtain ⟨rfl, hK⟩ := hrel
      go_wp2_with fail
      go_quiet (fail)
      go_upto_region 12 with fail
      refine Code.wp.kn (hK.drewN nq) ?_; clear hK; intro w5 K5
      have K6 := (K5.al [] 27).litRow (size := 5) (n := 0) rfl (by decide)
      clear K5
      go_upto_region 13 with (at_builtin; refine kn_appRE0 rfl _ _ rfl _ 0 [] rfl rfl K6 ?_)
      refine Code.wp.kn K6 ?_; clear K6; intro w7 K7
      obtain ⟨a1, a2, a3, a4, a5⟩ := box5 (K7.sel [1] 99 (by decide) (by decide))
      have K8 := (K7.al [.int .i64 x.num, .string x.name, .string x.maker, .int .i64 x.year, .slice A x.words.length c] 27)
      clear K7
      go_upto_region 14 with (at_builtin; refine kn_app tpE rfl _ _ rfl _ 0 [] rfl rfl K8 rfl (by simp [Value.oneCell']) (by omega) (by omega) ?_; clear K8; intro v9 w9 K9)
      clear a1 a2 a3 a4 a5
      have K9 : Kn w [.row v9 27 5 1 (cellsE [⟨x, A, c⟩]), .blk g [.int .i64 x.num, .string x.name, .string x.maker, .int .i64 x.year, .slice A x.words.length c] 27] w9 := K9.sel [0, 1] 99 (by decide) (by decide)
      obtain ⟨Z10, z10, rfl, KC⟩ := HK14.out v9 w9 K9
      unfold OwnES at KC
      go_wp2_with (at_builtin; refine kn_appRE0 rfl _ _ rfl _ 1 (M := [⟨x, A, c⟩]) rfl rfl K9 ?_)
      refine KC.mono ?_; rintro e w11 ⟨X, xx, M, rfl, hM, hKn⟩
      have K11 := (K9.join hKn).sel [0, 1] 99 (by decide) (by decide)
      clear K9 KC hKn
      go_wp2_with fail
      go_ret2
      exact ⟨X, xx, M, rfl, hM, K11⟩
  clear HBN F1 F2 F3 F4 F5 KV KX KF hbd
  obtain ⟨E, hE1, hE2, hE3⟩ := rawE (HR.out w (Below.refl _ _))
  have hEl : E.length = n := by have := congrArg List.length hE1; rw [List.length_map] at this; rw [this]; exact HLN.out
  have hlt5 : ad.block < w.heap.size ∨ n = 0 := by
    rcases Nat.eq_zero_or_pos n with h | h
    · exact .inr h
    · obtain ⟨ad', e, h1, -⟩ := (HR.out w (Below.refl _ _)).2 h
      injection e with e
      subst e
      exact .inl h1
  have HC := Lib.hid (fun W (hW : Below w.heap.size w W) i j u (hu : (cellsE E)[i + j]? = some u) => show W.cell? ((ad.add i).add j) = some u by
    rw [addr_aa, hW.cell (by
      rw [block_of_add]
      rcases hlt5 with h | h
      · exact h
      · have h2 := (List.getElem?_eq_some_iff.1 hu).1
        rw [cellsE_len, hEl, h] at h2
        omega)]
    exact hE2 _ u hu)
  have HRD := Lib.hid (fun W (hW : Below w.heap.size w W) e (he : e ∈ E) => (hE3 e he).below hW)
  have HE1 := Lib.hid hE1
  have HEL := Lib.hid hEl
  clear hE1 hE2 hE3 hEl hlt5
  go_upto_block 0 with (fail)
  go_cut [6] (fun kk wx => ∃ (k : Nat), k ≤ n ∧ kk = .int .i64 (k : Int) ∧ Hid ((L.take k ++ [x] ++ L.drop k).Pairwise (fun a b => a.num ≤ b.num)) ∧ Kn w [.blk g [.int .i64 x.num, .string x.name, .string x.maker, .int .i64 x.year, .slice A x.words.length c] 27] wx)
  case rest =>
    clear K4
    obtain ⟨k, hk, rfl, HS, hK⟩ := hcut
    go_upto_region 12 with fail
    refine Code.wp.kn hK ?_; clear hK; intro w5 K5
    have ht1 : (E.take k).length = k := by rw [List.length_take, HEL.out]; omega
    have ht2 : (E.drop k).length = n - k := by rw [List.length_drop, HEL.out]
    have hcat : cellsE (E.take k) ++ cellsE (E.drop k) = cellsE E := by rw [← cellsE_app, List.take_append_drop]
    have hl1 : (cellsE (E.take k)).length = k * 5 := by rw [cellsE_len, ht1]
    have HC1 := Lib.hid (fun W (hW : Below w.heap.size w W) j u (hu : (cellsE (E.take k))[j]? = some u) => show W.cell? (ad.add j) = some u by
      have h1 := HC.out W hW 0 j u (by
        rw [Nat.zero_add, ← hcat, List.getElem?_append_left]
        · exact hu
        · exact (List.getElem?_eq_some_iff.1 hu).1)
      rw [addr_add_zero] at h1
      exact h1)
    have HC2 := Lib.hid (fun W (hW : Below w.heap.size w W) j u (hu : (cellsE (E.drop k))[j]? = some u) => show W.cell? ((ad.add (k * 5)).add j) = some u from HC.out W hW (k * 5) j u (by
        rw [← hcat, List.getElem?_append_right (by omega), hl1, Nat.add_sub_cancel_left]
        exact hu))
    have HT1 := Lib.hid ht1
    have HT2 := Lib.hid ht2
    clear hcat hl1 ht1 ht2
    have hkn5 : (k : Int) ≤ (bc : Int) := by omega
    have hkn6 : k ≤ bc := by omega
    have hkn7 : (0 : Int) ≤ (k : Int) := by omega
    have hkn8 : (k : Int) ≤ (n : Int) := by omega
    have K6 := (K5.al [] 27).litRow (size := 5) (n := 0) rfl (by decide)
    clear K5
    go_upto_region 13 with (at_builtin; refine kn_appRE rfl _ _ rfl _ 0 [] rfl rfl HT1.out (HC1.out _ K6.below) K6 (by omega) ?_; clear K6; intro v7 w7 K7)
    rw [Nat.zero_add, List.nil_append] at K7
    obtain ⟨Z7, z7, rfl⟩ := row_form K7.at0
    obtain ⟨a1, a2, a3, a4, a5⟩ := box5 (K7.sel [1] 99 (by decide) (by decide))
    have K8 := (K7.al [.int .i64 x.num, .string x.name, .string x.maker, .int .i64 x.year, .slice A x.words.length c] 27)
    clear K7
    go_upto_region 14 with (at_builtin; refine kn_app tpE rfl _ _ rfl _ k (cellsE (E.take k)) rfl rfl K8 rfl (by simp [Value.oneCell']) (by omega) (by omega) ?_; clear K8; intro v9 w9 K9)
    clear a1 a2 a3 a4 a5
    have K9 : Kn w [.row v9 27 5 (k + 1) (cellsE (E.take k ++ [⟨x, A, c⟩])), .blk g [.int .i64 x.num, .string x.name, .string x.maker, .int .i64 x.year, .slice A x.words.length c] 27] w9 := by
      rw [cellsE_app]; exact K9.sel [0, 1] 99 (by decide) (by decide)
    obtain ⟨Z9, z9, rfl⟩ := row_form K9.at0
    have HXR9 := Lib.hid (fun W (hW : Below w.heap.size w W) e (he : e ∈ E.take k ++ [⟨x, A, c⟩] ++ E.drop k) => show e.reads W by
      rcases List.mem_append.1 he with he | he
      · rcases List.mem_append.1 he with he | he
        · exact HRD.out W hW e (List.mem_of_mem_take he)
        · rw [List.mem_singleton.1 he]; exact ⟨HXN.out, HXR.out W hW⟩
      · exact HRD.out W hW e (List.mem_of_mem_drop he))
    have HMM := Lib.hid (show (E.take k ++ [⟨x, A, c⟩] ++ E.drop k : List EE).map EE.t = L.take k ++ [x] ++ L.drop k by
      rw [List.map_append, List.map_append, List.map_take, List.map_drop, HE1.out]; rfl)
    have HML := Lib.hid (show (E.take k ++ [⟨x, A, c⟩] ++ E.drop k : List EE).length = k + 1 + (n - k) by
      rw [List.length_append, List.length_append, HT1.out, HT2.out]; rfl)
    have HRR := HP.out _ (ins_perm x k) HS.out
    have HWW := Lib.hid (show ∀ y ∈ L.take k ++ [x] ++ L.drop k, y.words.length ≤ 1000000 from fun y hy => by
      rcases List.mem_append.1 hy with hy | hy
      · rcases List.mem_append.1 hy with hy | hy
        · exact HM1.out trivial y (List.mem_of_mem_take hy)
        · rw [List.mem_singleton.1 hy]; exact HM2.out trivial
      · exact HM1.out trivial y (List.mem_of_mem_drop hy))
    have HK14 := Lib.hid (fun v (w' : World) (K : Kn w (.row v 27 5 (k + 1 + (n - k)) (cellsE (E.take k ++ [⟨x, A, c⟩] ++ E.drop k)) :: [.blk g [.int .i64 x.num, .string x.name, .string x.maker, .int .i64 x.year, .slice A x.words.length c] 27]) w') => show ∃ Z z, v = .slice Z (k + 1 + (n - k)) z ∧ Calls Tryz.prog 71 #[.slice Z (k + 1 + (n - k)) z] w' (OwnES RL_ w') by
      obtain ⟨Z, z, rfl⟩ := row_form K.at0
      refine ⟨Z, z, rfl, ?_⟩
      have hr := K.rlRaw HML.out (HXR9.out _ K.below)
      rw [HMM.out] at hr
      rw [HRR]
      exact l25Copy_any Z _ z _ w' hr (by omega) HWW.out)
    clear HXR9 HML HMM HRR HWW HP HS
    by_cases hkb : k = bc
    · have hdr := List.eq_nil_of_length_eq_zero (show (E.drop k).length = 0 by rw [HT2.out]; omega)
      have hnk : n - k = 0 := by omega
      have HK15 := Lib.hid (fun v (w' : World) (K : Kn w (.row v 27 5 (k + 1 + 0) (cellsE (E.take k ++ [⟨x, A, c⟩] ++ [])) :: [.blk g [.int .i64 x.num, .string x.name, .string x.maker, .int .i64 x.year, .slice A x.words.length c] 27]) w') => show ∃ Z z, v = .slice Z (k + 1) z ∧ Calls Tryz.prog 71 #[.slice Z (k + 1) z] w' (OwnES RL_ w') by
        have h := HK14.out v w' (by rw [hdr, hnk]; exact K)
        rw [hnk, Nat.add_zero] at h
        exact h)
      have e1 : k = n := by omega
      clear hdr hnk HC1 HC2 HT1 HT2 HK14 HC HRD HE1 HEL
      subst hkb
      subst e1
      go_wp2_with (at_builtin; refine kn_appRE (n := 0) (E := []) rfl _ _ rfl _ (k + 1) _ rfl rfl rfl (fun j u hu => by simp [cellsE] at hu) K9 (by omega) ?_; intro v10 w10 K10; obtain ⟨Z10, z10, rfl, KC⟩ := HK15.out v10 w10 K10)
      unfold OwnES at KC
      refine KC.mono ?_; rintro e w11 ⟨X, xx, M, rfl, hM, hKn⟩
      have K11 := (K10.join hKn).sel [0, 1] 99 (by decide) (by decide)
      clear K10 KC hKn
      go_wp2_with fail
      go_ret2
      exact ⟨X, xx, M, rfl, hM, K11⟩
    · have hkb2 : ¬ (k : Int) = (bc : Int) := by omega
      go_wp2_with (at_builtin; refine kn_appRE rfl _ _ rfl _ (k + 1) _ rfl rfl HT2.out (HC2.out _ K9.below) K9 (by omega) ?_; clear K9; intro v10 w10 K10; obtain ⟨Z10, z10, rfl, KC⟩ := HK14.out v10 w10 K10)
      unfold OwnES at KC
      refine KC.mono ?_; rintro e w11 ⟨X, xx, M, rfl, hM, hKn⟩
      have K11 := (K10.join hKn).sel [0, 1] 99 (by decide) (by decide)
      clear K10 KC hKn
      go_wp2_with fail
      go_ret2
      exact ⟨X, xx, M, rfl, hM, K11⟩
  go_wp2_with fail
  go_loopw [6] (fun kk wr => ∃ (k : Nat), k ≤ n ∧ kk = .int .i64 (k : Int) ∧ Hid (∀ i (h : i < L.length), k ≤ i → x.num < L[i].num) ∧ Kn w [.blk g [.int .i64 x.num, .string x.name, .string x.maker, .int .i64 x.year, .slice A x.words.length c] 27] wr) (fun kk _ => (intOf kk).toNat)
  case atStart => exact ⟨n, Nat.le_refl _, rfl, Lib.hid (fun i h hi => by have := HLN.out; omega), K4⟩
  case round =>
    clear K4
    obtain ⟨k, hk, rfl, HGT, hK⟩ := hrel
    obtain ⟨a1, a2, a3⟩ := hK.blkAt
    rcases Nat.eq_zero_or_pos k with hk0 | hk0
    · have HS := Lib.hid (ins_sorted (k := k) HAS.out (by have := HLN.out; omega) HGT.out (fun j _ hj => by omega))
      have i1 : ¬ (0 : Int) < (k : Int) := by omega
      have i2 : decide ((0 : Int) < (k : Int)) = false := decide_eq_false i1
      have i3 : ¬ 0 < k := by omega
      have i4 : decide (0 < k) = false := decide_eq_false i3
      clear hk0
      go_wp2_with fail
      go_quiet (fail)
      go_wp2_with fail
      go_meet
      exact ⟨k, hk, rfl, HS, hK.drewN _⟩
    · obtain ⟨j, hj⟩ : ∃ j, k - 1 = j := ⟨_, rfl⟩
      obtain ⟨ad', hA, hlt, hkl, hx⟩ := (HR.out _ hK.below).at_ (show j < n by omega)
      injection hA with hA
      subst hA
      obtain ⟨y, hy⟩ : ∃ y, L[j] = y := ⟨_, rfl⟩
      rw [hy] at hx
      obtain ⟨YA, yc, -, ⟨c0, -⟩, -⟩ := hx
      obtain ⟨yn, hyn⟩ : ∃ v, y.num = v := ⟨_, rfl⟩
      obtain ⟨xn, hxn⟩ : ∃ v, x.num = v := ⟨_, rfl⟩
      have hwj : IntKind.i64.wrap ((k : Int) - 1) = (j : Int) := by rw [wrapI64 (by omega)]; omega
      have j0 : (0 : Int) ≤ (j : Int) := by omega
      have j1 : (j : Int) < (n : Int) := by omega
      have j2 : (0 : Int) < (k : Int) := by omega
      have j3 : decide ((0 : Int) < (k : Int)) = true := decide_eq_true j2
      by_cases hcmp : x.num < y.num
      · have HNX := Lib.hid (show ∀ i (h : i < L.length), j ≤ i → x.num < L[i].num from fun i h hi => by
          rcases Nat.lt_or_ge i k with h1 | h1
          · obtain rfl : i = j := by omega
            rw [hy]; exact hcmp
          · exact HGT.out i h h1)
        have hc2 : decide (x.num < y.num) = true := decide_eq_true hcmp
        have HJ := Lib.hid hj
        clear hj hyn hxn hy
        go_wp2_with fail
        go_quiet (fail)
        go_wp2_with fail
        go_roundw
        case rel => exact ⟨j, by omega, by go_num, HNX, hK.drewN _⟩
        case measure => have := HJ.out; simp [intOf] <;> omega
      · have HS := Lib.hid (ins_sorted (k := k) HAS.out (by have := HLN.out; omega) HGT.out (fun i _ hi => by
          obtain rfl : i = j := by omega
          rw [hy]; omega))
        have hc2 : decide (x.num < y.num) = false := decide_eq_false hcmp
        clear hj hyn hxn hy
        go_wp2_with fail
        go_quiet (fail)
        go_wp2_with fail
        go_meet
        exact ⟨k, hk, rfl, HS, hK.drewN _⟩
end Go.Proofs.YtgljafiegpjlkaaGreatDoor

namespace Go.Proofs.YtgljafiegpjlkaaGreatDoor
open Go.RowKit Go.Sort
/-! an entry that is sought by its number -/
theorem idxF_lt : ∀ (l : List Etr) (num i : Int), idxF l num i = -1 ∨ idxF l num i < i + l.length
  | [], _, _ => .inl rfl
  | x :: l, num, i => by
    unfold idxF
    split
    · right; rw [List.length_cons]; omega
    · rcases idxF_lt l num (i + 1) with h | h
      · exact .inl h
      · right; rw [List.length_cons]; omega
def rmC (L : List Etr) (num : Int) : Int := if entsOk L = false then 1 else if idxE L num < 0 then 3 else 0
def rmI (L : List Etr) (num : Int) : Nat := if rmC L num = 0 then (idxE L num).toNat else 0
theorem rm_bad {L : List Etr} {num : Int} (h : entsOk L = false) : rmC L num = 1 ∧ rmI L num = 0 := by
  have h1 : rmC L num = 1 := by unfold rmC; rw [if_pos h]
  exact ⟨h1, by unfold rmI; rw [h1, if_neg (by decide)]⟩
theorem rm_no {L : List Etr} {num : Int} (h : entsOk L = true) (h2 : idxE L num < 0) : rmC L num = 3 ∧ rmI L num = 0 := by
  have h1 : rmC L num = 3 := by unfold rmC; rw [if_neg (by rw [h]; decide), if_pos h2]
  exact ⟨h1, by unfold rmI; rw [h1, if_neg (by decide)]⟩
theorem rm_fine {L : List Etr} {num : Int} (h : entsOk L = true) (h2 : ¬ idxE L num < 0) : rmC L num = 0 ∧ (rmI L num : Int) = idxE L num ∧ rmI L num < L.length ∧ L.length ≤ 50 := by
  have h1 : rmC L num = 0 := by unfold rmC; rw [if_neg (by rw [h]; decide), if_neg h2]
  have h3 : rmI L num = (idxE L num).toNat := by unfold rmI; rw [h1, if_pos rfl]
  have h4 := idxF_lt L num 0
  have he : idxE L num = idxF L num 0 := rfl
  unfold entsOk at h
  rw [Bool.and_eq_true, decide_eq_true_eq] at h
  exact ⟨h1, by omega, by omega, h.2⟩
set_option maxRecDepth 100000 in
set_option maxHeartbeats 1600000 in
theorem l25Ask_any (A : Option Addr) (n c : Nat) (L : List Etr) (num : Int) (w : World) (hr : RL EtrM 5 w A n L) (hn : n ≤ 1048576) (hz : ∀ x ∈ L, SmE x) :
    Calls Tryz.prog 73 #[.slice A n c, .int .i64 num] w fun e w' => e = .returned (.tuple #[.int .i64 (rmI L num), .int .i64 (rmC L num)]) ∧ Below w.heap.size w w' := by
  have KV := l25Ok_any A n c L w hr (by omega) hz
  have KF := (fun W (hW : Below w.heap.size w W) => l25Find_any A n c L num W (hr.below steady_EtrM hW) (by omega))
  have F1 := rm_bad (L := L) (num := num)
  have F2 := rm_no (L := L) (num := num)
  have F3 := rm_fine (L := L) (num := num)
  obtain ⟨RC, hRC⟩ : ∃ v, rmC L num = v := ⟨_, rfl⟩
  obtain ⟨RI, hRI⟩ : ∃ v, rmI L num = v := ⟨_, rfl⟩
  obtain ⟨b1, hb1⟩ : ∃ v, entsOk L = v := ⟨_, rfl⟩
  obtain ⟨ix, hix⟩ : ∃ v, idxE L num = v := ⟨_, rfl⟩
  simp only [hRC, hRI, hb1, hix] at KV KF F1 F2 F3 ⊢
  clear hRC hRI hb1 hix hr hz
  replace KV := Lib.hid KV
  replace KF := Lib.hid KF
  replace F1 := Lib.hid F1
  replace F2 := Lib.hid F2
  replace F3 := Lib.hid F3
  go_enter Tryz.func73, Tryz.ntmps73
  go_wp2_with fail
  refine KV.out.mono ?_; rintro e w2 ⟨rfl, hw⟩
  rcases b1 with _ | _
  · go_wp2_with fail
    go_ret2
    obtain ⟨e1, e2⟩ := F1.out trivial
    exact ⟨by rw [e1, e2]; rfl, hw⟩
  go_wp2_with fail
  refine (KF.out _ hw).mono ?_; rintro e w3 ⟨rfl, hw3⟩
  have hb := hw.trans (hw3.mono hw.size)
  clear hw hw3
  by_cases h : ix < 0
  · go_wp2_with fail
    go_ret2
    obtain ⟨e1, e2⟩ := F2.out trivial h
    exact ⟨by rw [e1, e2]; rfl, hb⟩
  · go_wp2_with fail
    go_ret2
    obtain ⟨e1, e2, -⟩ := F3.out trivial h
    exact ⟨by rw [e1, e2]; rfl, hb⟩
/-- an entry that is found, and a code -/
def enE (L : List Etr) (num : Int) : Etr := if rmC L num = 0 then L.getD (rmI L num) default else default
def ENRet (y : Etr) (C : Int) (w : World) (e : Ending) (w' : World) : Prop := ∃ X c', e = .returned (.tuple #[.agg #[.int .i64 y.num, .string y.name, .string y.maker, .int .i64 y.year, .slice X y.words.length c'], .int .i64 C]) ∧ Kn w [rowSN X y.words.length c' y.words] w'
theorem ENRet.none {C : Int} {w w' : World} {g : Nat} (h : Kn w [.blk g [.int .i64 0, .string ⟨#[]⟩, .string ⟨#[]⟩, .int .i64 0, .slice none 0 0] 27] w') : ENRet default C w (.returned (.tuple #[.agg #[.int .i64 0, .string ⟨#[]⟩, .string ⟨#[]⟩, .int .i64 0, .slice none 0 0], .int .i64 C])) w' :=
  ⟨Option.none, 0, rfl, (h.sel [] 1 (by decide) (by decide)).nilRow 9 1⟩
set_option maxRecDepth 100000 in
set_option maxHeartbeats 1600000 in
theorem specEntryNumbered_any (A : Option Addr) (n c : Nat) (L : List Etr) (num : Int) (w : World) (hr : RL EtrM 5 w A n L) (hn : n ≤ 1048576) (hz : ∀ x ∈ L, SmE x) :
    Calls Tryz.prog 16 #[.slice A n c, .int .i64 num] w (ENRet (enE L num) (rmC L num) w) := by
  have hLn := hr.1
  have KA := (fun W (hW : Below w.heap.size w W) => l25Ask_any A n c L num W (hr.below steady_EtrM hW) hn hz)
  have F1 := rm_bad (L := L) (num := num)
  have F2 := rm_no (L := L) (num := num)
  have F3 := rm_fine (L := L) (num := num)
  have HM := Lib.hid (fun h => ents_words (L := L) h)
  have HR := Lib.hid (fun W (hW : Below w.heap.size w W) => hr.below steady_EtrM hW)
  have HE := Lib.hid (show enE L num = if rmC L num = 0 then L.getD (rmI L num) default else default from rfl)
  obtain ⟨Y, hY⟩ : ∃ v, enE L num = v := ⟨_, rfl⟩
  obtain ⟨RC, hRC⟩ : ∃ v, rmC L num = v := ⟨_, rfl⟩
  obtain ⟨RI, hRI⟩ : ∃ v, rmI L num = v := ⟨_, rfl⟩
  simp only [hRC, hRI, hY] at KA F1 F2 F3 HE ⊢
  obtain ⟨b1, hb1⟩ : ∃ v, entsOk L = v := ⟨_, rfl⟩
  obtain ⟨ix, hix⟩ : ∃ v, idxE L num = v := ⟨_, rfl⟩
  simp only [hb1, hix] at F1 F2 F3 HM
  have hcase : (RC ≠ 0 ∧ Y = default) ∨ (RC = 0 ∧ ∃ h : RI < L.length, Y = L[RI] ∧ L[RI].words.length ≤ 1000000) := by
    rcases b1 with _ | _
    · obtain ⟨e1, e2⟩ := F1 rfl
      exact .inl ⟨by omega, by rw [HE.out, if_neg (by omega)]⟩
    · by_cases h : ix < 0
      · obtain ⟨e1, e2⟩ := F2 rfl h
        exact .inl ⟨by omega, by rw [HE.out, if_neg (by omega)]⟩
      · obtain ⟨e1, e2, e3, e4⟩ := F3 rfl h
        exact .inr ⟨e1, e3, by rw [HE.out, if_pos e1, List.getD_eq_getElem?_getD, List.getElem?_eq_getElem e3]; rfl, HM.out rfl _ (List.getElem_mem e3)⟩
  clear hRC hRI hb1 hix hr hz hY F1 F2 F3 HE HM
  replace KA := Lib.hid KA
  obtain ⟨g, hg⟩ : ∃ g, w.heap.size = g := ⟨_, rfl⟩
  have K0 := (Kn.nil w).al [.int .i64 0, .string ⟨#[]⟩, .string ⟨#[]⟩, .int .i64 0, .slice none 0 0] 27
  rw [hg] at K0
  go_enter Tryz.func16, Tryz.ntmps16
  go_upto_region 1 with fail
  try rw [hg]
  refine Code.wp.kn K0 ?_; clear K0 hg; intro w1 K1
  go_wp2_with fail
  refine (KA.out _ K1.below).mono ?_; rintro e w2 ⟨rfl, hw⟩
  have K2 := K1.keep hw
  clear K1 hw
  obtain ⟨a1, a2, a3, -⟩ := K2.cells
  rcases hcase with ⟨h1, rfl⟩ | ⟨rfl, h2, hY, h3⟩
  · have hb : (RC == 0) = false := by simpa using h1
    go_wp2_with fail
    refine bodyPost.kn (((((K2.st 0 (.int .i64 0)).st 1 (.string ⟨#[]⟩)).st 2 (.string ⟨#[]⟩)).st 3 (.int .i64 0)).st 4 (.slice none 0 0)) ?_; intro w5 K5
    clear a1 a2 a3 K2
    obtain ⟨a1, a2, a3, -⟩ := K5.cells
    exact bodyPost_ret (v := .tuple #[.agg #[.int .i64 0, .string ⟨#[]⟩, .string ⟨#[]⟩, .int .i64 0, .slice none 0 0], .int .i64 RC]) (by simp [results, Tryz.results16, go_sem, a1]) rfl (ENRet.none K5)
  · obtain ⟨ad, hA, hlt, hkl, hx⟩ := (HR.out _ K2.below).at_ (show RI < n by omega)
    rw [← hY] at hx h3
    clear hY
    obtain ⟨y, rfl⟩ : ∃ y, y = Y := ⟨_, rfl⟩
    have KO := Lib.hid (l25Own_any (ad.add (RI * 5)) y w2 hx (by rw [block_of_add]; exact hlt) h3)
    have i0 : (0 : Int) ≤ (RI : Int) := by omega
    have i1 : (RI : Int) < (n : Int) := by omega
    subst hA
    clear hx hlt
    go_wp2_with fail
    refine KO.out.mono ?_; rintro e w3 ⟨X, c', rfl, hKn⟩
    have K3 := (K2.join hKn).sel [1, 0] 2 (by decide) (by decide)
    clear K2 hKn KO a1 a2 a3
    obtain ⟨a1, a2, a3, -⟩ := K3.cells
    go_wp2_with fail
    refine bodyPost.kn (((((K3.st 0 (.int .i64 y.num)).st 1 (.string y.name)).st 2 (.string y.maker)).st 3 (.int .i64 y.year)).st 4 (.slice X y.words.length c')) ?_; intro w5 K5
    clear a1 a2 a3 K3
    obtain ⟨a1, a2, a3, -⟩ := K5.cells
    exact bodyPost_ret (v := .tuple #[.agg #[.int .i64 y.num, .string y.name, .string y.maker, .int .i64 y.year, .slice X y.words.length c'], .int .i64 0]) (by simp [results, Tryz.results16, go_sem, a1]) rfl ⟨X, c', rfl, K5.sel [1] 2 (by decide) (by decide)⟩
end Go.Proofs.YtgljafiegpjlkaaGreatDoor

namespace Go.Proofs.YtgljafiegpjlkaaGreatDoor
open Go.RowKit Go.Sort
set_option maxRecDepth 100000 in
set_option maxHeartbeats 1600000 in
theorem EntryNumbered_any (A : Option Addr) (n c : Nat) (L : List Etr) (num : Int) (w : World) (hr : RL EtrM 5 w A n L) (hn : n ≤ 1048576) (hz : ∀ x ∈ L, SmE x) :
    Calls Tryz.prog 15 #[.slice A n c, .int .i64 num] w (ENRet (enE L num) (rmC L num) w) := by
  have hLn := hr.1
  have KV := (fun W (hW : Below w.heap.size w W) => ValidEntries_any A n c L W (hr.below steady_EtrM hW) (by omega) hz)
  have KF := (fun W (hW : Below w.heap.size w W) => entryAt_any A n c L num W (hr.below steady_EtrM hW) (by omega))
  have F1 := rm_bad (L := L) (num := num)
  have F2 := rm_no (L := L) (num := num)
  have F3 := rm_fine (L := L) (num := num)
  have HM := Lib.hid (fun h => ents_words (L := L) h)
  have HR := Lib.hid (fun W (hW : Below w.heap.size w W) => hr.below steady_EtrM hW)
  have HE := Lib.hid (show enE L num = if rmC L num = 0 then L.getD (rmI L num) default else default from rfl)
  obtain ⟨Y, hY⟩ : ∃ v, enE L num = v := ⟨_, rfl⟩
  obtain ⟨RC, hRC⟩ : ∃ v, rmC L num = v := ⟨_, rfl⟩
  obtain ⟨RI, hRI⟩ : ∃ v, rmI L num = v := ⟨_, rfl⟩
  simp only [hRC, hRI, hY] at F1 F2 F3 HE ⊢
  obtain ⟨b1, hb1⟩ : ∃ v, entsOk L = v := ⟨_, rfl⟩
  obtain ⟨ix, hix⟩ : ∃ v, idxE L num = v := ⟨_, rfl⟩
  simp only [hb1, hix] at KV KF F1 F2 F3 HM
  clear hRC hRI hb1 hix hr hz hY
  replace KV := Lib.hid KV
  replace KF := Lib.hid KF
  replace F1 := Lib.hid F1
  replace F2 := Lib.hid F2
  replace F3 := Lib.hid F3
  obtain ⟨g, hg⟩ : ∃ g, w.heap.size = g := ⟨_, rfl⟩
  have K0 := (Kn.nil w).al [.int .i64 0, .string ⟨#[]⟩, .string ⟨#[]⟩, .int .i64 0, .slice none 0 0] 27
  rw [hg] at K0
  go_enter Tryz.func15, Tryz.ntmps15
  go_upto_region 1 with fail
  try rw [hg]
  refine Code.wp.kn K0 ?_; clear K0 hg; intro w1 K1
  go_wp2_with fail
  refine (KV.out _ K1.below).mono ?_; rintro e w2 ⟨rfl, hw⟩
  have K2 := K1.keep hw
  clear K1 hw
  rcases b1 with _ | _
  · obtain ⟨a1, a2, a3, -⟩ := K2.cells
    obtain ⟨e1, e2⟩ := F1.out rfl
    obtain rfl : Y = default := by rw [HE.out, if_neg (by omega)]
    subst e1
    go_wp2_with fail
    refine bodyPost.kn (((((K2.st 0 (.int .i64 0)).st 1 (.string ⟨#[]⟩)).st 2 (.string ⟨#[]⟩)).st 3 (.int .i64 0)).st 4 (.slice none 0 0)) ?_; intro w5 K5
    clear a1 a2 a3 K2
    obtain ⟨a1, a2, a3, -⟩ := K5.cells
    exact bodyPost_ret (v := .tuple #[.agg #[.int .i64 0, .string ⟨#[]⟩, .string ⟨#[]⟩, .int .i64 0, .slice none 0 0], .int .i64 1]) (by simp [results, Tryz.results15, go_sem, a1]) rfl (ENRet.none K5)
  go_wp2_with fail
  refine (KF.out _ K2.below).mono ?_; rintro e w3 ⟨rfl, hw⟩
  have K3 := K2.keep hw
  clear K2 hw
  have K2 := K3
  clear K3
  obtain ⟨a1, a2, a3, -⟩ := K2.cells
  by_cases h : ix < 0
  · obtain ⟨e1, e2⟩ := F2.out trivial h
    obtain rfl : Y = default := by rw [HE.out, if_neg (by omega)]
    subst e1
    go_wp2_with fail
    refine bodyPost.kn (((((K2.st 0 (.int .i64 0)).st 1 (.string ⟨#[]⟩)).st 2 (.string ⟨#[]⟩)).st 3 (.int .i64 0)).st 4 (.slice none 0 0)) ?_; intro w5 K5
    clear a1 a2 a3 K2
    obtain ⟨a1, a2, a3, -⟩ := K5.cells
    exact bodyPost_ret (v := .tuple #[.agg #[.int .i64 0, .string ⟨#[]⟩, .string ⟨#[]⟩, .int .i64 0, .slice none 0 0], .int .i64 3]) (by simp [results, Tryz.results15, go_sem, a1]) rfl (ENRet.none K5)
  · obtain ⟨rfl, e2, e3, e4⟩ := F3.out trivial (by omega)
    obtain rfl : ix = (RI : Int) := e2.symm
    obtain ⟨ad, hA, hlt, hkl, hx⟩ := (HR.out _ K2.below).at_ (show RI < n by omega)
    have hY : Y = L[RI] := by rw [HE.out, if_pos rfl, List.getD_eq_getElem?_getD, List.getElem?_eq_getElem e3]; rfl
    have h3 := HM.out trivial _ (List.getElem_mem e3)
    rw [← hY] at hx h3
    clear hY
    obtain ⟨y, rfl⟩ : ∃ y, y = Y := ⟨_, rfl⟩
    obtain ⟨XA, xc, hxn, ⟨c0, c1, c2, c3, c4⟩, hxr⟩ := hx
    have KO := Lib.hid (copied_any y XA xc w3 hxr hxn h3)
    have i0 : (0 : Int) ≤ (RI : Int) := by omega
    have i1 : (RI : Int) < (n : Int) := by omega
    subst hA
    clear hxr hxn hlt h3 F1 F2 F3
    go_wp2_with fail
    refine KO.out.mono ?_; rintro e w4 ⟨X, c', rfl, hKn⟩
    have K4 := (K2.join hKn).sel [1, 0] 2 (by decide) (by decide)
    clear K2 hKn KO a1 a2 a3 c0 c1 c2 c3 c4
    obtain ⟨a1, a2, a3, -⟩ := K4.cells
    go_wp2_with fail
    refine bodyPost.kn (((((K4.st 0 (.int .i64 y.num)).st 1 (.string y.name)).st 2 (.string y.maker)).st 3 (.int .i64 y.year)).st 4 (.slice X y.words.length c')) ?_; intro w5 K5
    clear a1 a2 a3 K4
    obtain ⟨a1, a2, a3, -⟩ := K5.cells
    exact bodyPost_ret (v := .tuple #[.agg #[.int .i64 y.num, .string y.name, .string y.maker, .int .i64 y.year, .slice X y.words.length c'], .int .i64 0]) (by simp [results, Tryz.results15, go_sem, a1]) rfl ⟨X, c', rfl, K5.sel [1] 2 (by decide) (by decide)⟩
end Go.Proofs.YtgljafiegpjlkaaGreatDoor

namespace Go.Proofs.YtgljafiegpjlkaaGreatDoor
open Go.RowKit Go.Sort
/-! entries without one of them -/
def rmL (L : List Etr) (num : Int) : List Etr := if rmC L num = 0 then L.take (rmI L num) ++ L.drop (rmI L num + 1) else []
theorem rmL_no {L : List Etr} {num : Int} (h : rmC L num ≠ 0) : rmL L num = [] := by unfold rmL; rw [if_neg h]
theorem rmL_yes {L : List Etr} {num : Int} (h : rmC L num = 0) : rmL L num = L.take (rmI L num) ++ L.drop (rmI L num + 1) := by unfold rmL; rw [if_pos h]
set_option maxRecDepth 100000 in
set_option maxHeartbeats 6400000 in
theorem specRemoveEntry_any (B : Option Addr) (n bc : Nat) (L : List Etr) (num : Int) (w : World) (hr : RL EtrM 5 w B n L) (hn : n ≤ 1048576) (hnc : n ≤ bc) (hbc : bc ≤ 9223372036854775807) (hz : ∀ x ∈ L, SmE x) :
    Calls Tryz.prog 14 #[.slice B n bc, .int .i64 num] w (AERet (rmL L num) (rmC L num) w) := by
  have hLn := hr.1
  have KA := l25Ask_any B n bc L num w hr hn hz
  have HR := Lib.hid (fun W (hW : Below w.heap.size w W) => hr.below steady_EtrM hW)
  have HM := Lib.hid (fun h => ents_words (L := L) h)
  have F1 := rm_bad (L := L) (num := num)
  have F2 := rm_no (L := L) (num := num)
  have F3 := rm_fine (L := L) (num := num)
  have hcase : (rmC L num ≠ 0 ∧ rmL L num = []) ∨ (rmC L num = 0 ∧ rmI L num < L.length ∧ L.length ≤ 50 ∧ rmL L num = L.take (rmI L num) ++ L.drop (rmI L num + 1) ∧ Hid (∀ y ∈ L, y.words.length ≤ 1000000)) := by
    by_cases hb : entsOk L = false
    · obtain ⟨e1, -⟩ := F1 hb
      exact .inl ⟨by omega, rmL_no (by omega)⟩
    · have hb : entsOk L = true := by simpa using hb
      by_cases h : idxE L num < 0
      · obtain ⟨e1, -⟩ := F2 hb h
        exact .inl ⟨by omega, rmL_no (by omega)⟩
      · obtain ⟨e1, e2, e3, e4⟩ := F3 hb h
        exact .inr ⟨e1, e3, e4, rmL_yes e1, Lib.hid (HM.out hb)⟩
  clear F1 F2 F3 HM
  obtain ⟨k, hk⟩ : ∃ v, rmI L num = v := ⟨_, rfl⟩
  obtain ⟨RC, hRC⟩ : ∃ v, rmC L num = v := ⟨_, rfl⟩
  obtain ⟨RL_, hRL⟩ : ∃ v, rmL L num = v := ⟨_, rfl⟩
  simp only [hk, hRC, hRL] at KA hcase ⊢
  clear hk hRC hRL
  have KA := Lib.hid KA
  have HLN := Lib.hid hLn
  unfold AERet
  rcases hcase with ⟨h1, rfl⟩ | ⟨rfl, h2, h50, hRL, HWD⟩
  · have hb : (RC == 0) = false := by simpa using h1
    clear hLn hr
    go_enter Tryz.func14, Tryz.ntmps14
    go_wp2_with fail
    refine KA.out.mono ?_; rintro e w2 ⟨rfl, hw⟩
    go_wp2_with fail
    go_ret2
    exact AERet.none hw
  obtain ⟨ad, rfl, -⟩ := hr.2 (by omega)
  rw [hLn] at h2 h50
  clear hLn hr
  have HRL := Lib.hid hRL
  clear hRL
  obtain ⟨E, hE1, hE2, hE3⟩ := rawE (HR.out w (Below.refl _ _))
  have hEl : E.length = n := by have := congrArg List.length hE1; rw [List.length_map] at this; rw [this]; exact HLN.out
  have hlt5 : ad.block < w.heap.size := by
    obtain ⟨ad', e, h1, -⟩ := (HR.out w (Below.refl _ _)).2 (by omega)
    injection e with e
    subst e
    exact h1
  have HC := Lib.hid (fun W (hW : Below w.heap.size w W) i j u (hu : (cellsE E)[i + j]? = some u) => show W.cell? ((ad.add i).add j) = some u by
    rw [addr_aa, hW.cell (by rw [block_of_add]; exact hlt5)]
    exact hE2 _ u hu)
  have HRD := Lib.hid (fun W (hW : Below w.heap.size w W) e (he : e ∈ E) => (hE3 e he).below hW)
  have HE1 := Lib.hid hE1
  have HEL := Lib.hid hEl
  clear hE1 hE2 hE3 hEl hlt5
  have ht1 : (E.take k).length = k := by rw [List.length_take, HEL.out]; omega
  have ht2 : (E.drop (k + 1)).length = n - (k + 1) := by rw [List.length_drop, HEL.out]
  have hcat : cellsE (E.take k) ++ cellsE (E.drop k) = cellsE E := by rw [← cellsE_app, List.take_append_drop]
  have hl1 : (cellsE (E.take k)).length = k * 5 := by rw [cellsE_len, ht1]
  have hcat2 : cellsE (E.take (k + 1)) ++ cellsE (E.drop (k + 1)) = cellsE E := by rw [← cellsE_app, List.take_append_drop]
  have hl2 : (cellsE (E.take (k + 1))).length = (k + 1) * 5 := by rw [cellsE_len, List.length_take, HEL.out]; omega
  have HC1 := Lib.hid (fun W (hW : Below w.heap.size w W) j u (hu : (cellsE (E.take k))[j]? = some u) => show W.cell? (ad.add j) = some u by
    have h1 := HC.out W hW 0 j u (by
      rw [Nat.zero_add, ← hcat, List.getElem?_append_left]
      · exact hu
      · exact (List.getElem?_eq_some_iff.1 hu).1)
    rw [addr_add_zero] at h1
    exact h1)
  have HC2 := Lib.hid (fun W (hW : Below w.heap.size w W) j u (hu : (cellsE (E.drop (k + 1)))[j]? = some u) => show W.cell? ((ad.add ((k + 1) * 5)).add j) = some u from HC.out W hW ((k + 1) * 5) j u (by
      rw [← hcat2, List.getElem?_append_right (by omega), hl2, Nat.add_sub_cancel_left]
      exact hu))
  have HT1 := Lib.hid ht1
  have HT2 := Lib.hid ht2
  clear hcat hl1 ht1 ht2 hcat2 hl2
  have hkn5 : (k : Int) ≤ (bc : Int) := by omega
  have hkn6 : k ≤ bc := by omega
  have hkn7 : (0 : Int) ≤ (k : Int) := by omega
  have hkn8 : (k : Int) ≤ (n : Int) := by omega
  have hkn9 : (k : Int) + 1 ≤ (n : Int) := by omega
  have hww : IntKind.i64.wrap ((k : Int) + 1) = ((k + 1 : Nat) : Int) := by rw [wrapI64 (by omega)]; omega
  have HMM := Lib.hid (show (E.take k ++ E.drop (k + 1) : List EE).map EE.t = RL_ by
    rw [HRL.out, List.map_append, List.map_take, List.map_drop, HE1.out])
  have HML := Lib.hid (show (E.take k ++ E.drop (k + 1) : List EE).length = k + (n - (k + 1)) by
    rw [List.length_append, HT1.out, HT2.out])
  have HWW := Lib.hid (show ∀ y ∈ RL_, y.words.length ≤ 1000000 from fun y hy => by
    rw [HRL.out] at hy
    rcases List.mem_append.1 hy with hy | hy
    · exact HWD.out y (List.mem_of_mem_take hy)
    · exact HWD.out y (List.mem_of_mem_drop hy))
  have HK := Lib.hid (fun v (w' : World) (K : Kn w (.row v 27 5 (k + (n - (k + 1))) (cellsE (E.take k ++ E.drop (k + 1))) :: []) w') => show ∃ Z z, v = .slice Z (k + (n - (k + 1))) z ∧ Calls Tryz.prog 71 #[.slice Z (k + (n - (k + 1))) z] w' (OwnES RL_ w') by
    obtain ⟨Z, z, rfl⟩ := row_form K.at0
    refine ⟨Z, z, rfl, ?_⟩
    have hr := K.rlRaw HML.out (fun e he => by
      rcases List.mem_append.1 he with he | he
      · exact HRD.out _ K.below e (List.mem_of_mem_take he)
      · exact HRD.out _ K.below e (List.mem_of_mem_drop he))
    rw [HMM.out] at hr
    exact l25Copy_any Z _ z _ w' hr (by omega) HWW.out)
  clear HMM HML HWW HRL HWD
  go_enter Tryz.func14, Tryz.ntmps14
  go_wp2_with fail
  refine KA.out.mono ?_; rintro e w2 ⟨rfl, hw⟩
  have K2 := (Kn.nil w).keep hw
  have K3 := (K2.al [] 27).litRow (size := 5) (n := 0) rfl (by decide)
  clear hw K2 KA
  go_upto_region 5 with (at_builtin; refine kn_appRE rfl _ _ rfl _ 0 [] rfl rfl HT1.out (HC1.out _ K3.below) K3 (by omega) ?_; clear K3; intro v7 w7 K7)
  rw [Nat.zero_add, List.nil_append] at K7
  obtain ⟨Z7, z7, rfl⟩ := row_form K7.at0
  have hj0 : (0 : Int) ≤ ((k + 1 : Nat) : Int) := by omega
  have hj1 : ((k + 1 : Nat) : Int) ≤ (n : Int) := by omega
  by_cases hkb : k + 1 = bc
  · have hdr := List.eq_nil_of_length_eq_zero (show (E.drop (k + 1)).length = 0 by rw [HT2.out]; omega)
    have hnk : n - (k + 1) = 0 := by omega
    have HK15 := Lib.hid (fun v (w' : World) (K : Kn w (.row v 27 5 (k + 0) (cellsE (E.take k ++ [])) :: []) w') => show ∃ Z z, v = .slice Z k z ∧ Calls Tryz.prog 71 #[.slice Z k z] w' (OwnES RL_ w') by
      have h := HK.out v w' (by rw [hdr, hnk]; exact K)
      rw [hnk, Nat.add_zero] at h
      exact h)
    have e1 : k + 1 = n := by omega
    clear hdr hnk HC1 HC2 HT1 HT2 HK HC HRD HE1 HEL hww
    subst hkb
    subst e1
    have hww : IntKind.i64.wrap ((k : Int) + 1) = (k : Int) + 1 := by rw [wrapI64 (by omega)]
    go_wp2_with (at_builtin; refine kn_appRE (n := 0) (E := []) rfl _ _ rfl _ k _ rfl rfl rfl (fun j u hu => by simp [cellsE] at hu) K7 (by omega) ?_; intro v10 w10 K10; obtain ⟨Z10, z10, rfl, KC⟩ := HK15.out v10 w10 K10)
    unfold OwnES at KC
    refine KC.mono ?_; rintro e w11 ⟨X, xx, M, rfl, hM, hKn⟩
    have K11 := (K10.join hKn).sel [0, 1] 99 (by decide) (by decide)
    clear K10 KC hKn
    go_wp2_with fail
    go_ret2
    exact ⟨X, xx, M, rfl, hM, K11⟩
  · have hkb2 : ¬ ((k + 1 : Nat) : Int) = (bc : Int) := by omega
    go_wp2_with (at_builtin; refine kn_appRE rfl _ _ rfl _ k _ rfl rfl HT2.out (HC2.out _ K7.below) K7 (by omega) ?_; clear K7; intro v10 w10 K10; obtain ⟨Z10, z10, rfl, KC⟩ := HK.out v10 w10 K10)
    unfold OwnES at KC
    refine KC.mono ?_; rintro e w11 ⟨X, xx, M, rfl, hM, hKn⟩
    have K11 := (K10.join hKn).sel [0, 1] 99 (by decide) (by decide)
    clear K10 KC hKn
    go_wp2_with fail
    go_ret2
    exact ⟨X, xx, M, rfl, hM, K11⟩
end Go.Proofs.YtgljafiegpjlkaaGreatDoor

namespace Go.Proofs.YtgljafiegpjlkaaGreatDoor
open Go.RowKit Go.Sort
/-! adding and taking away, plainly -/
theorem asc_ents {L : List Etr} (h : ∀ x ∈ L, etrOk x = true) (hp : L.Pairwise (fun a b => a.num < b.num)) : entsP L L.length = true := by
  unfold entsP
  rw [List.all_eq_true]
  intro k hk
  have hk := List.mem_range.1 hk
  unfold entAt
  rw [List.getD_eq_getElem?_getD, List.getElem?_eq_getElem hk, Option.getD_some, h _ (List.getElem_mem hk), Bool.true_and]
  by_cases h0 : k = 0
  · rw [decide_eq_true h0, Bool.true_or]
  · have h1 := List.pairwise_iff_getElem.1 hp (k - 1) k (by omega) hk (by omega)
    rw [List.getD_eq_getElem?_getD, List.getElem?_eq_getElem (show k - 1 < L.length by omega), Option.getD_some, decide_eq_true h1, Bool.or_true]
theorem ad_zero {L : List Etr} {x : Etr} (h : adC L x = 0) : entsOk L = true ∧ etrOk x = true ∧ ¬ 0 ≤ idxE L x.num ∧ L.length < 50 ∧ adL L x = insE L x := by
  have hl : adL L x = insE L x := by unfold adL; rw [if_pos h]
  unfold adC at h
  split at h
  · omega
  · rename_i h1
    split at h
    · omega
    · rename_i h2
      split at h
      · omega
      · rename_i h3
        split at h
        · omega
        · rename_i h4
          have h1 : entsOk L = true := by simpa using h1
          exact ⟨h1, by simpa using h2, h3, by have := (ents_parts h1).1; omega, hl⟩
theorem ne_all {L : List Etr} {num : Int} (h : ¬ 0 ≤ idxE L num) : ∀ y ∈ L, y.num ≠ num := idxF_not L num 0 (Int.le_refl _) (by unfold idxE at h; omega)
theorem asc_ne {L : List Etr} (h : L.Pairwise (fun a b => a.num < b.num)) : L.Pairwise (fun a b => a.num ≠ b.num) := h.imp (fun h => by omega)
theorem ins_asc {L : List Etr} {x : Etr} (hL : L.Pairwise (fun a b => a.num < b.num)) (hx : ∀ y ∈ L, y.num ≠ x.num) : (insE L x).Pairwise (fun a b => a.num < b.num) := by
  have h := List.pairwise_mergeSort (le := fun (a b : Etr) => decide (a.num ≤ b.num)) (fun a b c h1 h2 => by simp at *; omega) (fun a b => by simp; omega) (L ++ [x])
  have h1 : (insE L x).Pairwise (fun a b => a.num ≤ b.num) := h.imp (fun h => by simpa using h)
  have h2 : (L ++ [x]).Pairwise (fun a b => a.num ≠ b.num) := by
    rw [List.pairwise_append]
    exact ⟨asc_ne hL, List.pairwise_singleton _ _, fun a ha b hb => by rw [List.mem_singleton.1 hb]; exact hx a ha⟩
  have h3 : (insE L x).Pairwise (fun a b => a.num ≠ b.num) := ((List.mergeSort_perm (L ++ [x]) (fun a b => decide (a.num ≤ b.num))).pairwise_iff (fun h => Ne.symm h)).2 h2
  exact (h1.and h3).imp (fun ⟨a, b⟩ => by omega)
theorem insE_perm (L : List Etr) (x : Etr) : (insE L x).Perm (L ++ [x]) := List.mergeSort_perm _ _
theorem ad_ok {L : List Etr} {x : Etr} (h : adC L x = 0) : entsOk (adL L x) = true := by
  obtain ⟨h1, h2, h3, h4, h5⟩ := ad_zero h
  rw [h5]
  have hL : entsP L L.length = true := by unfold entsOk at h1; rw [Bool.and_eq_true] at h1; exact h1.1
  have ha := ins_asc (ents_asc hL) (ne_all h3)
  have hm : ∀ y ∈ insE L x, etrOk y = true := fun y hy => by
    rcases List.mem_append.1 ((insE_perm L x).mem_iff.1 hy) with hy | hy
    · exact (ents_parts h1).2 y hy
    · rw [List.mem_singleton.1 hy]; exact h2
  have hlen : (insE L x).length = L.length + 1 := by rw [(insE_perm L x).length_eq]; simp
  unfold entsOk
  rw [asc_ents hm ha, hlen, decide_eq_true (by omega)]; rfl
theorem ad_mem {L : List Etr} {x y : Etr} (h : y ∈ adL L x) : y ∈ L ∨ y = x := by
  unfold adL at h
  split at h
  · rcases List.mem_append.1 ((insE_perm L x).mem_iff.1 h) with hy | hy
    · exact Or.inl hy
    · exact Or.inr (List.mem_singleton.1 hy)
  · cases h
theorem ad_len (L : List Etr) (x : Etr) : (adL L x).length ≤ L.length + 1 := by
  unfold adL
  split
  · rw [(insE_perm L x).length_eq]; simp
  · simp
theorem idxF_hit : ∀ (l : List Etr) (num i : Int), 0 ≤ i → 0 ≤ idxF l num i → ∃ k : Nat, idxF l num i = i + k ∧ ∃ h : k < l.length, l[k].num = num
  | [], _, i, _, h => by simp [idxF] at h
  | y :: l, num, i, hi, h => by
    unfold idxF at h ⊢
    by_cases hy : y.num = num
    · rw [if_pos hy]
      exact ⟨0, by omega, by simp, hy⟩
    · rw [if_neg hy] at h ⊢
      obtain ⟨k, h1, h2, h3⟩ := idxF_hit l num (i + 1) (by omega) h
      exact ⟨k + 1, by rw [h1]; omega, by simp; omega, h3⟩
/-- an entry that was added is found, and when it is taken away the list is as it was -/
theorem ad_undo {L : List Etr} {x : Etr} (h : adC L x = 0) : rmC (adL L x) x.num = 0 ∧ enE (adL L x) x.num = x ∧ rmL (adL L x) x.num = L := by
  have hok := ad_ok h
  obtain ⟨h1, h2, h3, h4, h5⟩ := ad_zero h
  have hL : entsP L L.length = true := by unfold entsOk at h1; rw [Bool.and_eq_true] at h1; exact h1.1
  have hasc := ents_asc hL
  have hne := ne_all h3
  have ha := ins_asc hasc hne
  rw [h5] at hok ⊢
  have hp := insE_perm L x
  obtain ⟨A, hA⟩ : ∃ A, insE L x = A := ⟨_, rfl⟩
  rw [hA] at hok ha hp ⊢
  have hxA : x ∈ A := hp.mem_iff.2 (by simp)
  have hi : 0 ≤ idxE A x.num := by
    rcases Int.lt_or_le (idxE A x.num) 0 with h | h
    · exact absurd rfl (idxF_not A x.num 0 (Int.le_refl _) h x hxA)
    · exact h
  obtain ⟨k, hk, hkl, hkn⟩ := idxF_hit A x.num 0 (Int.le_refl _) hi
  have hke : idxE A x.num = k := by unfold idxE; omega
  have hAk : A[k] = x := by
    rcases List.mem_append.1 (hp.mem_iff.1 (List.getElem_mem hkl)) with hy | hy
    · exact absurd hkn (hne _ hy)
    · exact List.mem_singleton.1 hy
  have hC : rmC A x.num = 0 := by unfold rmC; rw [hok, if_neg (by decide), if_neg (by omega)]
  have hI : rmI A x.num = k := by unfold rmI; rw [if_pos hC, hke]; rfl
  refine ⟨hC, ?_, ?_⟩
  · unfold enE
    rw [if_pos hC, hI, List.getD_eq_getElem?_getD, List.getElem?_eq_getElem hkl, hAk]; rfl
  · rw [rmL_yes hC, hI]
    have hsplit : A = A.take k ++ x :: A.drop (k + 1) := by
      conv => lhs; rw [← List.take_append_drop k A, List.drop_eq_getElem_cons hkl, hAk]
    have hp2 : (x :: (A.take k ++ A.drop (k + 1))).Perm (x :: L) := by
      refine (List.perm_middle.symm).trans ?_
      rw [← hsplit]
      exact hp.trans List.perm_append_comm
    have hp3 := hp2.cons_inv
    have hsub : (A.take k ++ A.drop (k + 1)).Pairwise (fun a b => a.num < b.num) := by
      refine ha.sublist ?_
      conv => rhs; rw [hsplit]
      exact List.Sublist.append_left (List.sublist_cons_self _ _) _
    exact List.Perm.eq_of_pairwise (le := fun a b => a.num < b.num) (fun a b _ _ h1 h2 => absurd h1 (by omega)) hsub hasc hp3
end Go.Proofs.YtgljafiegpjlkaaGreatDoor

namespace Go.Proofs.YtgljafiegpjlkaaGreatDoor
open Go.RowKit Go.Sort
theorem NewOk.sm {t : Etr} (h : NewOk t) : SmE t := ⟨by have := h.nm; omega, by have := h.mkr; omega, fun s hs => by have := h.ws s hs; omega, by have := h.wl; omega⟩
theorem Kn.capB {w0 w : World} {m : List Ent} {A : Option Addr} {c n k : Nat} {xs : List Value} {e : TypeId} {s : Nat} (h : Kn w0 (.row (.slice A n c) e s k xs :: m) w) : n ≤ c ∧ c ≤ 9223372036854775807 ∧ (A = none → c = 0) := by
  have h0 : w.ownsRow 0 e s (.slice A n c) k xs := h.at0
  rcases h0.2 with ⟨hv, _⟩ | ⟨g', cap, cur, hv, -, -, h1, h2, -⟩
  · injection hv with e1 e2 e3
    subst e2 e3
    exact ⟨Nat.le_refl _, Nat.zero_le _, fun _ => rfl⟩
  · injection hv with e1 e2 e3
    subst e1 e2 e3
    refine ⟨h1, ?_, fun h => by cases h⟩
    simp only [maxLen] at h2
    omega
/-- what the drawing of a catalogue returns -/
def DEnts (P : List EE → Prop) (b M : Nat) (w : World) (e : Ending) (w' : World) : Prop := ∃ X x, ∃ ML : List EE, e = .returned (.slice X ML.length x) ∧ ML.length ≤ 60 ∧ (∀ m ∈ ML, NewOk m.t) ∧ P ML ∧ DR b M w [.row (.slice X ML.length x) 27 5 ML.length (cellsE ML), bunA (rowsE ML)] w'
set_option maxRecDepth 100000 in
set_option maxHeartbeats 6400000 in
theorem l25Draw_dr (b N : Nat) (w : World) (h : Src w b N) (hN : N ≤ 400000) : Calls Tryz.prog 80 #[.pointer (some ⟨b, 0, none⟩)] w (DEnts (fun ML => entsOk (ML.map EE.t) = true) b (N + 600) w) := by
  unfold DEnts
  have D0' := (DR.nil h).al [] 27
  have D0 := (D0'.kn (fun v h => (h.litRow (size := 5) (n := 0) rfl (by decide)).bunANil)).sel [1, 0] 99 (by decide) (by decide)
  obtain ⟨g, hg⟩ : ∃ g, w.heap.size = g := ⟨_, rfl⟩
  rw [hg] at D0
  clear h D0'
  go_enter Tryz.func80, Tryz.ntmps80
  go_upto_region 2 with fail
  try rw [hg]
  refine Code.wp.dr D0 ?_; clear D0 hg; intro w1 D0
  go_wp2_with fail
  refine (pick_dr b _ 9 _ D0.src (by omega)).mono ?_; rintro e w2 ⟨q, rfl, hq, hD⟩
  have D1 := D0.add hD
  obtain ⟨q, rfl⟩ : ∃ p : Nat, q = p := ⟨q.toNat, by omega⟩
  have hq8 : q ≤ 8 := by omega
  clear D0 hD hq
  go_wp2_with fail
  go_loopw [4, 3] (fun kk vv wr => ∃ (k : Nat) (M : List EE), k ≤ 8 ∧ kk = .int .i64 (k : Int) ∧ Hid (M.length + k ≤ 8 ∧ (∀ m ∈ M, NewOk m.t) ∧ entsOk (M.map EE.t) = true) ∧ DR b (N + 600 - 62 * k) w [.row vv 27 5 M.length (cellsE M), bunA (rowsE M)] wr) (fun kk _ _ => (intOf kk).toNat)
  case atStart => exact ⟨q, [], hq8, rfl, Lib.hid ⟨by simp; omega, fun m h => (by cases h), rfl⟩, (D1.sel [0, 1] 99 (by decide) (by decide)).mono (by omega)⟩
  case round =>
    clear D1
    obtain ⟨k, M, hk, rfl, HM, D⟩ := hrel
    by_cases hk0 : 0 < k
    · have i1 : (0 : Int) < (k : Int) := by omega
      go_wp2_with fail
      refine (l25New_dr b _ _ D.src (by omega)).mono ?_; rintro e w3 ⟨t, XA, xc, rfl, hnew, h3⟩
      obtain ⟨u, tw, hs, hK⟩ := D.add h3
      have HTW := Lib.hid (And.intro tw hs)
      clear D h3 tw hs
      obtain ⟨A, c, e1, hRL⟩ := (hK.sel [1, 2] 99 (by decide) (by decide)).rlE
      subst e1
      have hcap := (hK.front 1 rfl).capB
      have hx := (Kn.rlSN hK).2
      have hm8 := HM.out.1
      have KA := Lib.hid (specAddEntry_any A M.length c (M.map EE.t) t XA xc w3 (by exact hRL) (by omega) hcap.1 hcap.2.2 hcap.2.1 (fun x hx => by obtain ⟨m, hm, rfl⟩ := List.mem_map.1 hx; exact (HM.out.2.1 m hm).sm) hx (Kn.noneCap hK) hnew.sm)
      unfold AERet at KA
      obtain ⟨C, hC⟩ : ∃ C, adC (M.map EE.t) t = C := ⟨_, rfl⟩
      obtain ⟨AL, hAL⟩ : ∃ l, adL (M.map EE.t) t = l := ⟨_, rfl⟩
      rw [hC, hAL] at KA
      have HAD : Hid ((C = 0 → entsOk AL = true) ∧ (∀ y ∈ AL, NewOk y) ∧ AL.length ≤ M.length + 1) := by
        simp only [Hid]
        refine ⟨fun h => by rw [← hAL]; exact ad_ok (by rw [hC]; exact h), fun y hy => ?_, ?_⟩
        · rw [← hAL] at hy
          rcases ad_mem hy with h | h
          · obtain ⟨m, hm, rfl⟩ := List.mem_map.1 h
            exact HM.out.2.1 m hm
          · rw [h]; exact hnew
        · rw [← hAL]
          have := ad_len (M.map EE.t) t
          rwa [List.length_map] at this
      clear hC hAL hRL hcap hx hnew
      go_wp2_with fail
      refine KA.out.mono ?_; rintro e w4 ⟨X', x', M', rfl, hM', hK4⟩
      have K5 := (hK.join hK4)
      clear hK hK4 KA
      by_cases hC0 : C = 0
      · subst hC0
        have HM2 : Hid (M'.length + (k - 1) ≤ 8 ∧ (∀ m ∈ M', NewOk m.t) ∧ entsOk (M'.map EE.t) = true) := by
          simp only [Hid]
          have h1 := HAD.out
          have h2 := congrArg List.length hM'
          rw [List.length_map] at h2
          exact ⟨by omega, fun m hm => h1.2.1 _ (by rw [← hM']; exact List.mem_map_of_mem hm), by rw [hM']; exact h1.1 rfl⟩
        clear HAD hM'
        go_wp2_with fail
        go_roundw
        case rel => exact ⟨k - 1, M', by omega, by go_num, HM2, DR.mono ⟨u, HTW.out.1, HTW.out.2, K5.sel [0, 1] 99 (by decide) (by decide)⟩ (by omega)⟩
        case measure => simp only [intOf]; omega
      · have z0 : (C == 0) = false := beq_eq_false_iff_ne.2 hC0
        have HM2 : Hid (M.length + (k - 1) ≤ 8 ∧ (∀ m ∈ M, NewOk m.t) ∧ entsOk (M.map EE.t) = true) := by
          simp only [Hid]
          exact ⟨by omega, HM.out.2.1, HM.out.2.2⟩
        clear HAD hM'
        go_wp2_with fail
        go_roundw
        case rel => exact ⟨k - 1, M, by omega, by go_num, HM2, DR.mono ⟨u, HTW.out.1, HTW.out.2, K5.sel [3, 4] 99 (by decide) (by decide)⟩ (by omega)⟩
        case measure => simp only [intOf]; omega
    · obtain rfl : k = 0 := by omega
      obtain ⟨u, tw, hs, hK⟩ := D
      obtain ⟨A, c, rfl⟩ := row_form hK.at0
      go_wp2_with fail
      go_ret
      exact ⟨A, c, M, rfl, by have := HM.out.1; omega, HM.out.2.1, HM.out.2.2, DR.mono ⟨u, tw, hs, hK⟩ (by omega)⟩
end Go.Proofs.YtgljafiegpjlkaaGreatDoor

namespace Go.Proofs.YtgljafiegpjlkaaGreatDoor
open Go.RowKit Go.Sort
theorem cellsE_set : ∀ (M : List EE) (a : Nat) (e : EE), a < M.length → (((((cellsE M).set (a * 5) (.int .i64 e.t.num)).set (a * 5 + 1) (.string e.t.name)).set (a * 5 + 2) (.string e.t.maker)).set (a * 5 + 3) (.int .i64 e.t.year)).set (a * 5 + 4) (.slice e.X e.t.words.length e.x) = cellsE (M.set a e)
  | [], a, e, h => by simp at h
  | x :: M, 0, e, h => by
    have h1 : cellsE (x :: M) = x.cells ++ cellsE M := by simp [cellsE]
    have h2 : cellsE ((x :: M).set 0 e) = e.cells ++ cellsE M := by simp [cellsE]
    rw [h1, h2]
    rfl
  | x :: M, a + 1, e, h => by
    have h1 : cellsE (x :: M) = x.cells ++ cellsE M := by simp [cellsE]
    have h2 : cellsE ((x :: M).set (a + 1) e) = x.cells ++ cellsE (M.set a e) := by simp [cellsE]
    have hl : x.cells.length = 5 := rfl
    have ih := cellsE_set M a e (by simpa using h)
    have hs : ∀ (l : List Value) (j : Nat) (v : Value), (x.cells ++ l).set (5 + j) v = x.cells ++ l.set j v := fun l j v => by
      rw [List.set_append_right _ _ (by rw [hl]; omega), hl, Nat.add_sub_cancel_left]
    rw [h1, h2, ← ih, show (a + 1) * 5 = 5 + a * 5 by omega]
    simp only [Nat.add_assoc, hs]
theorem Kn.bunASet {w0 w : World} {m : List Ent} {M : List EE} {a : Nat} {e : EE} (ha : a < M.length) (h : Kn w0 (e.row :: bunA (rowsE M) :: m) w) : Kn w0 (bunA (rowsE (M.set a e)) :: m) w := by
  have e1 : M = M.take a ++ M[a] :: M.drop (a + 1) := by
    conv => lhs; rw [← List.take_append_drop a M, List.drop_eq_getElem_cons ha]
  have e2 : M.set a e = M.take a ++ e :: M.drop (a + 1) := by
    rw [List.set_eq_take_append_cons_drop, if_pos ha]
  have p1 : (rowsE M).Perm (M[a].row :: rowsE (M.take a ++ M.drop (a + 1))) := by
    have h1 : rowsE M = rowsE (M.take a) ++ M[a].row :: rowsE (M.drop (a + 1)) := by
      conv => lhs; rw [e1]
      rw [rowsE_app]; rfl
    rw [h1, rowsE_app]
    exact List.perm_middle
  have p2 : (rowsE (M.take a ++ M.drop (a + 1)) ++ [e.row]).Perm (rowsE (M.set a e)) := by
    rw [e2, rowsE_app, rowsE_app, show rowsE (e :: M.drop (a + 1)) = e.row :: rowsE (M.drop (a + 1)) from rfl]
    have p3 : (e.row :: (rowsE (M.take a) ++ rowsE (M.drop (a + 1)))).Perm (rowsE (M.take a) ++ e.row :: rowsE (M.drop (a + 1))) := List.perm_middle.symm
    exact (List.perm_append_comm).trans p3
  have k1 := ((h.front 1 rfl).bunAPerm p1).bunAOut
  have k2 := ((k1.sel [2, 1] 3 (by decide) (by decide)).bunAAdd).bunAPerm p2
  exact k2
set_option maxRecDepth 100000 in
set_option maxHeartbeats 6400000 in
theorem l25Bent_dr (b N : Nat) (w : World) (h : Src w b N) (hN : N ≤ 300000) : Calls Tryz.prog 60 #[.pointer (some ⟨b, 0, none⟩)] w (DEnts (fun _ => True) b (N + 800) w) := by
  have KD := Lib.hid (l25Draw_dr b N w h (by omega))
  have D0 := DR.nil h
  unfold DEnts at KD ⊢
  clear h
  go_enter Tryz.func60, Tryz.ntmps60
  go_upto_region 2 with ((with_reducible refine KD.out.mono ?_); rintro e w1 ⟨X, x, M, rfl, hM1, hM2, -, h1⟩; have D1 := D0.add h1; clear h1 D0 KD)
  go_cut [9] (fun bb wx => ∃ yes : Bool, bb = .bool yes ∧ DR b (N + 602) w [.row (.slice X M.length x) 27 5 M.length (cellsE M), bunA (rowsE M)] wx)
  case first =>
    go_wp2_with fail
    refine (one_dr b _ 24 _ D1.src (by omega)).mono ?_; rintro e w2 ⟨yes, rfl, hD⟩
    have D2 := D1.add hD
    go_wp2_with fail
    go_meet
    exact ⟨yes, rfl, (D2.sel [0, 1] 99 (by decide) (by decide)).mono (by omega)⟩
  case rest =>
  obtain ⟨yes, rfl, D2⟩ := hcut
  rename_i hkk
  refine hkk _ _ ?_
  clear hkk D1
  obtain ⟨w2, rfl⟩ : ∃ W, W = wc := ⟨_, rfl⟩
  go_cut [3] (fun vv wx => ∃ M : List EE, Hid (M.length ≤ 60 ∧ ∀ m ∈ M, NewOk m.t) ∧ DR b (N + 610) w [.row vv 27 5 M.length (cellsE M), bunA (rowsE M)] wx)
  case first =>
    rcases yes with _ | _
    · go_wp2_with fail
      go_meet
      exact ⟨M, Lib.hid ⟨hM1, hM2⟩, (D2.sel [0, 1] 99 (by decide) (by decide)).mono (by omega)⟩
    · have D3' := (D2.sel [] 99 (by decide) (by decide)).al [] 27
      have D3 := (D3'.kn (fun v h => (h.litRow (size := 5) (n := 0) rfl (by decide)).bunANil)).sel [1, 0] 99 (by decide) (by decide)
      obtain ⟨g, hg⟩ : ∃ g, w2.heap.size = g := ⟨_, rfl⟩
      rw [hg] at D3
      clear D2 D3' hM1 hM2
      go_upto_region 4 with fail
      try rw [hg]
      refine Code.wp.dr D3 ?_; clear D3 hg; intro w3 D3
      go_wp2_with fail
      refine (pick_dr b _ 2 _ D3.src (by omega)).mono ?_; rintro e w4 ⟨q, rfl, hq, hD⟩
      have D4 := D3.add hD
      obtain ⟨q, rfl⟩ : ∃ p : Nat, q = p := ⟨q.toNat, by omega⟩
      have hq8 : q ≤ 1 := by omega
      obtain ⟨k0, hk0⟩ : ∃ k0 : Nat, k0 = 50 + q := ⟨_, rfl⟩
      have hwq : wrap64 (50 + (q : Int)) = (k0 : Int) := by rw [wrap64_of (by omega)]; omega
      have hk51 : k0 ≤ 51 := by omega
      clear D3 hD hq hk0 hq8
      go_wp2_with fail
      go_loopw [4, 3] (fun kk vv wr => ∃ (k : Nat) (M : List EE), k ≤ 51 ∧ kk = .int .i64 (k : Int) ∧ Hid (M.length + k ≤ 51 ∧ ∀ m ∈ M, NewOk m.t) ∧ DR b (N + 606) w [.row vv 27 5 M.length (cellsE M), bunA (rowsE M)] wr) (fun kk _ _ => (intOf kk).toNat)
      case atStart => exact ⟨k0, [], hk51, by first | rfl | rw [hwq], Lib.hid ⟨by simp; omega, fun m h => (by cases h)⟩, (D4.sel [0, 1] 99 (by decide) (by decide)).mono (by omega)⟩
      case round =>
        clear D4 hwq hk51
        obtain ⟨k, M, hk, rfl, HM, D⟩ := hrel
        by_cases hk0 : 0 < k
        · have i1 : (0 : Int) < (k : Int) := by omega
          have hm8 := HM.out.1
          obtain ⟨u, tw, hs, hK⟩ := D
          have HTW := Lib.hid (And.intro tw hs)
          clear tw hs
          obtain ⟨A, c, rfl⟩ := row_form hK.at0
          have K6 := ((hK.nilRow 9 1).al [.int .i64 (20 + (M.length : Int)), .string ⟨#[114, 111, 100]⟩, .string ⟨#[111, 116, 105, 115]⟩, .int .i64 1900, .slice none 0 0] 27).sel [0, 2, 3, 1] 99 (by decide) (by decide)
          have wl : wrap64 (20 + (M.length : Int)) = 20 + (M.length : Int) := wrap64_of (by omega)
          go_wp2_with (at_builtin; refine kn_pushE rfl _ _ rfl _ M ⟨⟨20 + (M.length : Int), ⟨#[114, 111, 100]⟩, ⟨#[111, 116, 105, 115]⟩, 1900, []⟩, none, 0⟩ rfl rfl K6 (by omega) ?_; intro v' w' K7)
          have HM2 : Hid ((M ++ [(⟨⟨20 + (M.length : Int), ⟨#[114, 111, 100]⟩, ⟨#[111, 116, 105, 115]⟩, 1900, []⟩, none, 0⟩ : EE)]).length + (k - 1) ≤ 51 ∧ ∀ m ∈ (M ++ [(⟨⟨20 + (M.length : Int), ⟨#[114, 111, 100]⟩, ⟨#[111, 116, 105, 115]⟩, 1900, []⟩, none, 0⟩ : EE)]), NewOk m.t) := by
            simp only [Hid]
            refine ⟨by rw [List.length_append]; simp; omega, fun m hm => ?_⟩
            rcases List.mem_append.1 hm with h | h
            · exact HM.out.2 m h
            · rw [List.mem_singleton.1 h]
              exact ⟨by simp only; omega, by simp only; omega, by simp only; omega, by simp only; omega, by simp only; decide, by simp only; decide, by simp only; decide, fun s hs => (by cases hs)⟩
          clear wl
          go_roundw
          case rel => exact ⟨k - 1, _, by omega, by go_num, HM2, ⟨u, HTW.out.1, HTW.out.2, K7⟩⟩
          case measure => simp only [intOf]; omega
        · obtain rfl : k = 0 := by omega
          go_wp2_with fail
          go_meet
          exact ⟨M, Lib.hid ⟨by have := HM.out.1; omega, HM.out.2⟩, D.mono (by omega)⟩
  case rest =>
    obtain ⟨M, HM, D⟩ := hcut
    clear D2 hM1 hM2
    obtain ⟨w3, rfl⟩ : ∃ W, W = wc := ⟨_, rfl⟩
    have hm60 := HM.out.1
    obtain ⟨u, tw, hs, hK⟩ := D
    have HTW := Lib.hid (And.intro tw hs)
    clear tw hs
    by_cases hm0 : M.length = 0
    · obtain ⟨A, c, rfl⟩ := row_form hK.at0
      have i1 : ((M.length : Int) == 0) = true := by rw [beq_iff_eq]; omega
      go_wp2_with fail
      go_ret
      exact ⟨A, c, M, rfl, hm60, HM.out.2, trivial, DR.mono ⟨u, HTW.out.1, HTW.out.2, hK⟩ (by omega)⟩
    · obtain ⟨g, c, rfl⟩ := hK.rowForm (by omega)
      have i1 : ((M.length : Int) == 0) = false := by rw [beq_eq_false_iff_ne]; omega
      have D : DR b (N + 610) w [.row (.slice (some ⟨g, 0, none⟩) M.length c) 27 5 M.length (cellsE M), bunA (rowsE M)] w3 := ⟨u, HTW.out.1, HTW.out.2, hK⟩
      clear HTW hK
      go_wp2_with fail
      refine (pick_dr b _ (M.length : Int) _ D.src (by omega)).mono ?_; rintro e w4 ⟨q, rfl, hq, hD⟩
      have D4 := D.add hD
      obtain ⟨q, rfl⟩ : ∃ p : Nat, q = p := ⟨q.toNat, by omega⟩
      have hqm : q < M.length := by omega
      clear D hD hq
      go_wp2_with fail
      refine (one_dr b _ 12 _ D4.src (by omega)).mono ?_; rintro e w5 ⟨yes, rfl, hD⟩
      have D5 := D4.add hD
      clear D4 hD
      rcases yes with _ | _
      · go_wp2_with fail
        go_ret
        exact ⟨_, c, M, rfl, hm60, HM.out.2, trivial, (D5.sel [0, 1] 99 (by decide) (by decide)).mono (by omega)⟩
      · go_wp2_with fail
        refine (l25New_dr b _ _ D5.src (by omega)).mono ?_; rintro e w6 ⟨t, XA, xc, rfl, hnew, h6⟩
        obtain ⟨u, tw, hs, hK⟩ := D5.add h6
        have HTW := Lib.hid (And.intro tw hs)
        clear D5 h6 tw hs
        have hR := hK.front 1 rfl
        have hx := cellsE_get M q M[q] (List.getElem?_eq_getElem hqm)
        have c0 := hR.rowCell (hx 0 _ rfl)
        have c1 := hR.rowCell (hx 1 _ rfl)
        have c2 := hR.rowCell (hx 2 _ rfl)
        have c3 := hR.rowCell (hx 3 _ rfl)
        have c4 := hR.rowCell (hx 4 _ rfl)
        rw [Nat.add_zero] at c0
        obtain ⟨c0, f0⟩ := c0
        obtain ⟨c1, f1⟩ := c1
        obtain ⟨c2, f2⟩ := c2
        obtain ⟨c3, f3⟩ := c3
        obtain ⟨c4, f4⟩ := c4
        have j0 : (0 : Int) ≤ (q : Int) := by omega
        have j1 : (q : Int) < (M.length : Int) := by omega
        have hS := ((((hR.rowSt (q * 5) (.int .i64 t.num)).rowSt (q * 5 + 1) (.string t.name)).rowSt (q * 5 + 2) (.string t.maker)).rowSt (q * 5 + 3) (.int .i64 t.year)).rowSt (q * 5 + 4) (.slice XA t.words.length xc)
        rw [cellsE_set M q ⟨t, XA, xc⟩ hqm] at hS
        have hF := (hS.sel [1, 2, 0] 99 (by decide) (by decide)).bunASet (e := ⟨t, XA, xc⟩) hqm
        clear hx hR hK hS
        go_wp2_with fail
        refine bodyPost.kn (hF.sel [1, 0] 99 (by decide) (by decide)) ?_; intro w7 K7
        clear c0 c1 c2 c3 c4 f0 f1 f2 f3 f4 hF
        go_ret
        have hl : (M.set q ⟨t, XA, xc⟩).length = M.length := List.length_set ..
        refine ⟨some ⟨g, 0, none⟩, c, M.set q ⟨t, XA, xc⟩, (by rw [hl]; rfl), by rw [hl]; exact hm60, fun m hm => ?_, trivial, ?_⟩
        · rcases List.mem_or_eq_of_mem_set hm with h | h
          · exact HM.out.2 m h
          · rw [h]; exact hnew
        · rw [hl]
          exact DR.mono ⟨u, HTW.out.1, HTW.out.2, K7⟩ (by omega)
end Go.Proofs.YtgljafiegpjlkaaGreatDoor

namespace Go.Proofs.YtgljafiegpjlkaaGreatDoor
open Go.RowKit Go.Sort
theorem kn_stepEE {ops : Array Oper} {o : Oper} {a : Act} {Q : Exit → Act → World → Prop} {w0 w : World} {m : List Ent} {K : Act → World → Prop} {E : Prop} (hgd : o.guard = none) (s x : Operand) (ho : o.op = .call { callee := .builtin .append, args := #[s, x], argTypes := #[24, 24] })
    (v : Value) (n1 n2 : Nat) (M1 M2 : List EE) (hs : a.eval s = v) {X : Option Addr} {c : Nat} (hx : a.eval x = .slice X n2 c)
    (hK : Kn w0 (.row v 27 5 n1 (cellsE M1) :: bunA (rowsE M1) :: .row (.slice X n2 c) 27 5 n2 (cellsE M2) :: bunA (rowsE M2) :: m) w) (h2 : M2.length = n2) (hl : n1 + n2 ≤ 1000000)
    (h : ∀ v' w', Kn w0 (.row v' 27 5 (n1 + n2) (cellsE (M1 ++ M2)) :: bunA (rowsE (M1 ++ M2)) :: m) w' → K (a.put o.dst v') w') : if Region.wanted o (yielded ops a.tmps) = true then Oper.wp Tryz.prog o a w K Q else E := by
  have hw : Region.wanted o (yielded ops a.tmps) = true := by simp [Region.wanted, hgd]
  rw [if_pos hw]
  obtain ⟨i0, hi, hz0, hz1, hz2⟩ := info_parts tpE.info
  have hfin : ∀ v' w', Kn w0 (.row v' 27 5 (n1 + n2) (cellsE M1 ++ cellsE M2) :: bunA (rowsE M1) :: bunA (rowsE M2) :: m) w' → K (a.put o.dst v') w' := fun v' w' K => by
    refine h v' w' ?_
    have h1 : Kn w0 (rowsE M1 ++ (bunA (rowsE M2) :: .row v' 27 5 (n1 + n2) (cellsE M1 ++ cellsE M2) :: m)) w' := Kn.bunAFlat (K.sel [1, 2, 0] 3 (by decide) (by decide))
    have h3 : Kn w0 (bunA (rowsE M2) :: (rowsE M1 ++ (.row v' 27 5 (n1 + n2) (cellsE M1 ++ cellsE M2) :: m))) w' := h1.perm List.perm_middle
    have h4 : Kn w0 (rowsE M2 ++ (rowsE M1 ++ (.row v' 27 5 (n1 + n2) (cellsE M1 ++ cellsE M2) :: m))) w' := Kn.bunAFlat h3
    have h5 : Kn w0 (rowsE M1 ++ (rowsE M2 ++ (.row v' 27 5 (n1 + n2) (cellsE M1 ++ cellsE M2) :: m))) w' := h4.perm (by
      rw [← List.append_assoc, ← List.append_assoc]
      exact List.Perm.append_right _ List.perm_append_comm)
    rw [← List.append_assoc, ← rowsE_app] at h5
    rw [cellsE_app]
    exact (Kn.bunAOf h5).sw1
  rcases (hK.front 2 rfl).at0.2 with ⟨hv, hn⟩ | ⟨g, cap, cur, hv, -, hg, -⟩
  · injection hv with e1 e2 e3
    subst e1
    subst e3
    have hn2 : n2 = 0 := by omega
    subst hn2
    obtain rfl : M2 = [] := List.eq_nil_of_length_eq_zero h2
    have hrun := run_append_owned_none (P := Tryz.prog) (w := w) 0 24 o.type 27 i0 5 tpE.under hi v n1 (cellsE M1) hK.at0
    unfold Oper.wp
    simp [execOp, ho, resolve, invoke, builtin, hs, hx, hrun, Result.andThen]
    refine hfin v w ?_
    have e0 : cellsE M1 ++ cellsE [] = cellsE M1 := by simp [cellsE]
    rw [e0]
    exact hK.sel [0, 1, 3] 4 (by decide) (by decide)
  · injection hv with e1 e2 e3
    subst e1
    have hr := (hK.front 2 rfl).at0
    obtain ⟨v', w', hrun, h6, h3, _, h5⟩ := run_append_own_at (P := Tryz.prog) w 0 24 o.type 27 i0 _ 5 72 tpE.under hi hz0 hz1 hz2 tpE.zc tpE.pos v n1 (cellsE M1) hK.at0 ⟨g, 0, none⟩ n2 c (cellsE M2) (by rw [cellsE_len, h2]) (fun j u hu => by
      have h7 : w.ownsRow 0 27 5 (.slice (some ⟨g, 0, none⟩) n2 c) n2 (cellsE M2) := hr
      exact h7.cells rfl j u hu) (cellsE_one M2) (by simp only [maxLen]; omega) (by omega) (Nat.zero_le _)
    unfold Oper.wp execOp
    simp only [ho, resolve, invoke, builtin, Sem.run_bind, Sem.run_pure, Result.andThen_ok, List.map_toArray, List.map_cons, List.map_nil, hs, hx, hrun]
    exact hfin v' w' ((hK.grow h3 h6 h5).sel [0, 1, 3] 4 (by decide) (by decide))
end Go.Proofs.YtgljafiegpjlkaaGreatDoor

namespace Go.Proofs.YtgljafiegpjlkaaGreatDoor
open Go.RowKit Go.Sort
theorem RL.takeE {w : World} {ad : Addr} {n k : Nat} {L : List Etr} (h : RL EtrM 5 w (some ad) n L) (hk : k ≤ n) : RL EtrM 5 w (some ad) k (L.take k) := by
  have hl := h.1
  refine ⟨by rw [List.length_take]; omega, fun h0 => ?_⟩
  obtain ⟨ad', e, h1, h2⟩ := h.2 (by omega)
  injection e with e
  subst e
  refine ⟨_, rfl, h1, fun i hi => ?_⟩
  rw [List.length_take] at hi
  rw [List.getElem_take]
  exact h2 i (by omega)
theorem RL.dropE {w : World} {ad : Addr} {n k : Nat} {L : List Etr} (h : RL EtrM 5 w (some ad) n L) (hk : k ≤ n) : RL EtrM 5 w (some (ad.add (k * 5))) (n - k) (L.drop k) := by
  have hl := h.1
  refine ⟨by rw [List.length_drop]; omega, fun h0 => ?_⟩
  obtain ⟨ad', e, h1, h2⟩ := h.2 (by omega)
  injection e with e
  subst e
  refine ⟨_, rfl, by rw [block_of_add]; exact h1, fun i hi => ?_⟩
  rw [List.length_drop] at hi
  rw [List.getElem_drop, addr_aa, ← Nat.add_mul]
  exact h2 (k + i) (by omega)
set_option maxRecDepth 100000 in
set_option maxHeartbeats 6400000 in
theorem RemoveEntry_any (B : Option Addr) (n bc : Nat) (L : List Etr) (num : Int) (w : World) (hr : RL EtrM 5 w B n L) (hn : n ≤ 1048576) (hnc : n ≤ bc) (hbc : bc ≤ 9223372036854775807) (hz : ∀ x ∈ L, SmE x) :
    Calls Tryz.prog 13 #[.slice B n bc, .int .i64 num] w (AERet (rmL L num) (rmC L num) w) := by
  have hLn := hr.1
  have KV := ValidEntries_any B n bc L w hr (by omega) hz
  have KF := (fun W (hW : Below w.heap.size w W) => entryAt_any B n bc L num W (hr.below steady_EtrM hW) (by omega))
  have HR := Lib.hid (fun W (hW : Below w.heap.size w W) => hr.below steady_EtrM hW)
  have HM := Lib.hid (fun h => ents_words (L := L) h)
  have F1 := rm_bad (L := L) (num := num)
  have F2 := rm_no (L := L) (num := num)
  have F3 := rm_fine (L := L) (num := num)
  have G1 := rmL_no (L := L) (num := num)
  have G2 := rmL_yes (L := L) (num := num)
  obtain ⟨k, hk⟩ : ∃ v, rmI L num = v := ⟨_, rfl⟩
  obtain ⟨RC, hRC⟩ : ∃ v, rmC L num = v := ⟨_, rfl⟩
  obtain ⟨RL_, hRL⟩ : ∃ v, rmL L num = v := ⟨_, rfl⟩
  obtain ⟨b1, hb1⟩ : ∃ v, entsOk L = v := ⟨_, rfl⟩
  obtain ⟨ix, hix⟩ : ∃ v, idxE L num = v := ⟨_, rfl⟩
  simp only [hk, hRC, hRL, hb1, hix] at KV KF F1 F2 F3 G1 G2 HM ⊢
  clear hk hRC hRL hb1 hix hr hz
  replace KV := Lib.hid KV
  replace KF := Lib.hid KF
  replace F1 := Lib.hid F1
  replace F2 := Lib.hid F2
  replace F3 := Lib.hid F3
  have G1 := Lib.hid G1
  have G2 := Lib.hid G2
  have HLN := Lib.hid hLn
  clear hLn
  unfold AERet
  go_enter Tryz.func13, Tryz.ntmps13
  go_wp2_with fail
  refine KV.out.mono ?_; rintro e w2 ⟨rfl, hw⟩
  rcases b1 with _ | _
  · go_wp2_with fail
    go_ret2
    obtain ⟨rfl, -⟩ := F1.out trivial
    obtain rfl := G1.out (by decide)
    exact AERet.none hw
  go_wp2_with fail
  refine (KF.out _ hw).mono ?_; rintro e w3 ⟨rfl, hw3⟩
  have K3 := (Kn.nil w).keep (hw.trans (hw3.mono hw.size))
  clear hw hw3 KF KV
  by_cases h : ix < 0
  · go_wp2_with fail
    go_ret2
    obtain ⟨rfl, -⟩ := F2.out trivial h
    obtain rfl := G1.out (by decide)
    exact AERet.none K3.below
  obtain ⟨rfl, e2, e3, e4⟩ := F3.out trivial (by omega)
  obtain rfl : ix = (k : Int) := e2.symm
  have hkn : k < n := by have := HLN.out; omega
  have h50 : n ≤ 50 := by have := HLN.out; omega
  obtain ⟨ad, rfl, -⟩ := (HR.out _ (Below.refl _ _)).2 (by omega)
  have HRL := Lib.hid (G2.out rfl)
  have hkn5 : (k : Int) ≤ (bc : Int) := by omega
  have hkn6 : k ≤ bc := by omega
  have hkn7 : (0 : Int) ≤ (k : Int) := by omega
  have hkn8 : (k : Int) ≤ (n : Int) := by omega
  have hkn9 : (k : Int) + 1 ≤ (n : Int) := by omega
  have hww : IntKind.i64.wrap ((k : Int) + 1) = ((k + 1 : Nat) : Int) := by rw [wrapI64 (by omega)]; omega
  have hj0 : (0 : Int) ≤ ((k + 1 : Nat) : Int) := by omega
  have hj1 : ((k + 1 : Nat) : Int) ≤ (n : Int) := by omega
  have HW1 := Lib.hid (show ∀ y ∈ L.take k, y.words.length ≤ 1000000 from fun y hy => HM.out trivial y (List.mem_of_mem_take hy))
  have HW2 := Lib.hid (show ∀ y ∈ L.drop (k + 1), y.words.length ≤ 1000000 from fun y hy => HM.out trivial y (List.mem_of_mem_drop hy))
  have KC1 := Lib.hid (fun W (hW : Below w.heap.size w W) => copyEntries_any (some ad) k bc (L.take k) W ((HR.out W hW).takeE (by omega)) (by omega) HW1.out)
  have KC2 := Lib.hid (fun W c' (hW : Below w.heap.size w W) => copyEntries_any (some (ad.add ((k + 1) * 5))) (n - (k + 1)) c' (L.drop (k + 1)) W ((HR.out W hW).dropE (by omega)) (by omega) HW2.out)
  clear F1 F2 F3 G1 G2 HM e2 e3 e4 h
  have hj2 : (0 : Int) ≤ (k : Int) + 1 := by omega
  by_cases hkb : k + 1 = bc
  · have e1 : k + 1 = n := by omega
    have HRL2 := Lib.hid (show RL_ = L.take k ++ [] by rw [HRL.out, List.drop_eq_nil_of_le (by have := HLN.out; omega)])
    clear KC2 HW2 hww hj0 hj1
    subst hkb
    subst e1
    have hww : IntKind.i64.wrap ((k : Int) + 1) = (k : Int) + 1 := by rw [wrapI64 (by omega)]
    have hj3 : (k : Int) ≤ (k : Int) + 1 := by omega
    have KC2 := Lib.hid (fun W => copyEntries_any (some ad) 0 0 [] W ⟨rfl, fun h => absurd h (Nat.lt_irrefl 0)⟩ (by omega) (fun y hy => by cases hy))
    go_wp2_with fail
    refine wp_region_held_drew (S := fun _ => True) (by kernel_rfl) trivial (fun hHeld => ?_)
    try dsimp only
    have hKd := K3.drew
    generalize w3.drew = wd at hKd hHeld ⊢
    clear K3
    refine wpAnyH_take (i := 0) (v := ?_) rfl (by kernel_rfl) (by kernel_rfl) (by kernel_rfl) (fun _ _ _ h => h) (Or.inl ⟨by rfl, ?_⟩) hHeld ?_
    rotate_left
    · (intro w hSw; (try dsimp only at hSw); go_simp; try with_reducible rfl)
    try simp only [Act.put, List.setIfInBounds_toArray, List.set_cons_zero, List.set_cons_succ, List.getElem_toArray, List.getElem_cons_succ, List.getElem_cons_zero]
    refine wpAnyH_take (i := 1) (v := ?_) rfl (by kernel_rfl) (by kernel_rfl) (by kernel_rfl) (fun _ _ _ h => h) (Or.inl ⟨by rfl, ?_⟩) hHeld ?_
    rotate_left
    · (intro w hSw; (try dsimp only at hSw); go_simp; try with_reducible rfl)
    try simp only [Act.put, List.setIfInBounds_toArray, List.set_cons_zero, List.set_cons_succ, List.getElem_toArray, List.getElem_cons_succ, List.getElem_cons_zero]
    refine wpAnyH_take (i := 2) (v := ?_) rfl (by kernel_rfl) (by kernel_rfl) (by kernel_rfl) (fun _ _ _ h => h) (Or.inl ⟨by rfl, ?_⟩) hHeld ?_
    rotate_left
    · (intro w hSw; (try dsimp only at hSw); go_simp; try with_reducible rfl)
    try simp only [Act.put, List.setIfInBounds_toArray, List.set_cons_zero, List.set_cons_succ, List.getElem_toArray, List.getElem_cons_succ, List.getElem_cons_zero]
    refine wpAnyH_take (i := 4) (v := ?_) rfl (by kernel_rfl) (by kernel_rfl) (by kernel_rfl) (fun _ _ _ h => h) (Or.inl ⟨by rfl, ?_⟩) hHeld ?_
    rotate_left
    · (intro w hSw; (try dsimp only at hSw); go_simp; try with_reducible rfl)
    try simp only [Act.put, List.setIfInBounds_toArray, List.set_cons_zero, List.set_cons_succ, List.getElem_toArray, List.getElem_cons_succ, List.getElem_cons_zero]
    refine wpAnyH_take (i := 5) (v := ?_) rfl (by kernel_rfl) (by kernel_rfl) (by kernel_rfl) (fun _ _ _ h => h) (Or.inl ⟨by rfl, ?_⟩) hHeld ?_
    rotate_left
    · (intro w hSw; (try dsimp only at hSw); go_simp; try with_reducible rfl)
    try simp only [Act.put, List.setIfInBounds_toArray, List.set_cons_zero, List.set_cons_succ, List.getElem_toArray, List.getElem_cons_succ, List.getElem_cons_zero]
    refine wpAnyH_take (i := 6) (v := ?_) rfl (by kernel_rfl) (by kernel_rfl) (by kernel_rfl) (fun _ _ _ h => h) (Or.inl ⟨by rfl, ?_⟩) hHeld ?_
    rotate_left
    · (intro w hSw; (try dsimp only at hSw); go_simp; try with_reducible rfl)
    try simp only [Act.put, List.setIfInBounds_toArray, List.set_cons_zero, List.set_cons_succ, List.getElem_toArray, List.getElem_cons_succ, List.getElem_cons_zero]
    refine wpAnyH_take (i := 7) (v := ?_) rfl (by kernel_rfl) (by kernel_rfl) (by kernel_rfl) (fun _ _ _ h => h) (Or.inl ⟨by rfl, ?_⟩) hHeld ?_
    rotate_left
    · (intro w hSw; (try dsimp only at hSw); go_simp; try with_reducible rfl)
    try simp only [Act.put, List.setIfInBounds_toArray, List.set_cons_zero, List.set_cons_succ, List.getElem_toArray, List.getElem_cons_succ, List.getElem_cons_zero]
    refine wpAnyH_ready (rs := [3]) (by kernel_rfl) (by decide) (AllReadyH.cons (o := _) rfl (fun K hK' => ?_) AllReadyH.nil)
    go_simp
    go_at_call 64
    refine (KC1.out _ hKd.below).mono ?_
    rintro e wo1 ⟨Y1, yc1, M1, rfl, HMT1, hK⟩
    have KO1 := hKd.join hK
    clear hK
    refine hK'.out _ _ trivial (fun hHeld2 => ?_)
    clear hK' K hHeld
    have hHeld := hHeld2
    clear hHeld2
    try simp only [Act.put, List.setIfInBounds_toArray]
    refine wpAnyH_ready (rs := [8]) (by kernel_rfl) (by decide) (AllReadyH.cons (o := _) rfl (fun K hK' => ?_) AllReadyH.nil)
    go_simp
    go_at_call 64
    refine (KC2.out _).mono ?_
    rintro e wo2 ⟨Y2, yc2, M2, rfl, HMT2, hK⟩
    have KO2 := (KO1.join hK).sel [2, 3, 0, 1] 99 (by decide) (by decide)
    clear hK KO1
    refine hK'.out _ _ trivial (fun hHeld2 => ?_)
    clear hK' K hHeld
    have hHeld := hHeld2
    clear hHeld2
    try simp only [Act.put, List.setIfInBounds_toArray]
    refine wpAnyH_ready (rs := [9]) (by kernel_rfl) (by decide) (AllReadyH.cons (o := _) rfl (fun K hK' => ?_) AllReadyH.nil)
    refine kn_stepEE (by rfl) _ _ (by rfl) _ M1.length M2.length M1 M2 (by rfl) (by rfl) KO2 rfl (by have h1 := congrArg List.length HMT1; have h2 := congrArg List.length HMT2; simp only [List.length_map, List.length_take, List.length_drop, List.length_nil] at h1 h2; have := HLN.out; omega) ?_
    clear KO2
    intro v' wo3 KO3
    obtain ⟨Z3, zc3, rfl⟩ := row_form KO3.at0
    have HQ := Lib.hid (show (M1 ++ M2).map EE.t = RL_ by rw [List.map_append, HMT1, HMT2, (HRL2).out])
    refine hK'.out _ _ trivial (fun hHeld2 => ?_)
    clear hK' K hHeld
    have hHeld := hHeld2
    clear hHeld2
    try simp only [Act.put, List.setIfInBounds_toArray]
    try simp only [List.getElem_toArray, List.getElem_cons_succ, List.getElem_cons_zero, List.set_cons_zero, List.set_cons_succ]
    refine wpAnyH_take (i := 10) (v := ?_) rfl (by kernel_rfl) (by kernel_rfl) (by kernel_rfl) (fun _ _ _ h => h) (Or.inl ⟨by rfl, ?_⟩) hHeld ?_
    rotate_left
    · (intro w hSw; (try dsimp only at hSw); go_simp; try with_reducible rfl)
    try simp only [Act.put, List.setIfInBounds_toArray, List.set_cons_zero, List.set_cons_succ, List.getElem_toArray, List.getElem_cons_succ, List.getElem_cons_zero]
    refine wpAnyH_take (i := 11) (v := ?_) rfl (by kernel_rfl) (by kernel_rfl) (by kernel_rfl) (fun _ _ _ h => h) (Or.inl ⟨by rfl, ?_⟩) hHeld ?_
    rotate_left
    · (intro w hSw; (try dsimp only at hSw); go_simp; try with_reducible rfl)
    try simp only [Act.put, List.setIfInBounds_toArray, List.set_cons_zero, List.set_cons_succ, List.getElem_toArray, List.getElem_cons_succ, List.getElem_cons_zero]
    refine wpAnyH_done (by kernel_rfl) ?_ _
    go_wp2_with fail
    go_ret2
    rw [← List.length_append] at KO3
    refine ⟨Z3, zc3, M1 ++ M2, ?_, HQ.out, KO3⟩
    rw [List.length_append]; rfl
  · have hkb2 : ¬ ((k + 1 : Nat) : Int) = (bc : Int) := by omega
    have hkb3 : ¬ bc = k + 1 := by omega
    go_wp2_with fail
    refine wp_region_held_drew (S := fun _ => True) (by kernel_rfl) trivial (fun hHeld => ?_)
    try dsimp only
    have hKd := K3.drew
    generalize w3.drew = wd at hKd hHeld ⊢
    clear K3
    refine wpAnyH_take (i := 0) (v := ?_) rfl (by kernel_rfl) (by kernel_rfl) (by kernel_rfl) (fun _ _ _ h => h) (Or.inl ⟨by rfl, ?_⟩) hHeld ?_
    rotate_left
    · (intro w hSw; (try dsimp only at hSw); go_simp; try with_reducible rfl)
    try simp only [Act.put, List.setIfInBounds_toArray, List.set_cons_zero, List.set_cons_succ, List.getElem_toArray, List.getElem_cons_succ, List.getElem_cons_zero]
    refine wpAnyH_take (i := 1) (v := ?_) rfl (by kernel_rfl) (by kernel_rfl) (by kernel_rfl) (fun _ _ _ h => h) (Or.inl ⟨by rfl, ?_⟩) hHeld ?_
    rotate_left
    · (intro w hSw; (try dsimp only at hSw); go_simp; try with_reducible rfl)
    try simp only [Act.put, List.setIfInBounds_toArray, List.set_cons_zero, List.set_cons_succ, List.getElem_toArray, List.getElem_cons_succ, List.getElem_cons_zero]
    refine wpAnyH_take (i := 2) (v := ?_) rfl (by kernel_rfl) (by kernel_rfl) (by kernel_rfl) (fun _ _ _ h => h) (Or.inl ⟨by rfl, ?_⟩) hHeld ?_
    rotate_left
    · (intro w hSw; (try dsimp only at hSw); go_simp; try with_reducible rfl)
    try simp only [Act.put, List.setIfInBounds_toArray, List.set_cons_zero, List.set_cons_succ, List.getElem_toArray, List.getElem_cons_succ, List.getElem_cons_zero]
    refine wpAnyH_take (i := 4) (v := ?_) rfl (by kernel_rfl) (by kernel_rfl) (by kernel_rfl) (fun _ _ _ h => h) (Or.inl ⟨by rfl, ?_⟩) hHeld ?_
    rotate_left
    · (intro w hSw; (try dsimp only at hSw); go_simp; try with_reducible rfl)
    try simp only [Act.put, List.setIfInBounds_toArray, List.set_cons_zero, List.set_cons_succ, List.getElem_toArray, List.getElem_cons_succ, List.getElem_cons_zero]
    refine wpAnyH_take (i := 5) (v := ?_) rfl (by kernel_rfl) (by kernel_rfl) (by kernel_rfl) (fun _ _ _ h => h) (Or.inl ⟨by rfl, ?_⟩) hHeld ?_
    rotate_left
    · (intro w hSw; (try dsimp only at hSw); go_simp; try with_reducible rfl)
    try simp only [Act.put, List.setIfInBounds_toArray, List.set_cons_zero, List.set_cons_succ, List.getElem_toArray, List.getElem_cons_succ, List.getElem_cons_zero]
    refine wpAnyH_take (i := 6) (v := ?_) rfl (by kernel_rfl) (by kernel_rfl) (by kernel_rfl) (fun _ _ _ h => h) (Or.inl ⟨by rfl, ?_⟩) hHeld ?_
    rotate_left
    · (intro w hSw; (try dsimp only at hSw); go_simp; try with_reducible rfl)
    try simp only [Act.put, List.setIfInBounds_toArray, List.set_cons_zero, List.set_cons_succ, List.getElem_toArray, List.getElem_cons_succ, List.getElem_cons_zero]
    refine wpAnyH_take (i := 7) (v := ?_) rfl (by kernel_rfl) (by kernel_rfl) (by kernel_rfl) (fun _ _ _ h => h) (Or.inl ⟨by rfl, ?_⟩) hHeld ?_
    rotate_left
    · (intro w hSw; (try dsimp only at hSw); go_simp; try with_reducible rfl)
    try simp only [Act.put, List.setIfInBounds_toArray, List.set_cons_zero, List.set_cons_succ, List.getElem_toArray, List.getElem_cons_succ, List.getElem_cons_zero]
    refine wpAnyH_ready (rs := [3]) (by kernel_rfl) (by decide) (AllReadyH.cons (o := _) rfl (fun K hK' => ?_) AllReadyH.nil)
    go_simp
    go_at_call 64
    refine (KC1.out _ hKd.below).mono ?_
    rintro e wo1 ⟨Y1, yc1, M1, rfl, HMT1, hK⟩
    have KO1 := hKd.join hK
    clear hK
    refine hK'.out _ _ trivial (fun hHeld2 => ?_)
    clear hK' K hHeld
    have hHeld := hHeld2
    clear hHeld2
    try simp only [Act.put, List.setIfInBounds_toArray]
    refine wpAnyH_ready (rs := [8]) (by kernel_rfl) (by decide) (AllReadyH.cons (o := _) rfl (fun K hK' => ?_) AllReadyH.nil)
    go_simp
    go_at_call 64
    refine (KC2.out _ _ KO1.below).mono ?_
    rintro e wo2 ⟨Y2, yc2, M2, rfl, HMT2, hK⟩
    have KO2 := (KO1.join hK).sel [2, 3, 0, 1] 99 (by decide) (by decide)
    clear hK KO1
    refine hK'.out _ _ trivial (fun hHeld2 => ?_)
    clear hK' K hHeld
    have hHeld := hHeld2
    clear hHeld2
    try simp only [Act.put, List.setIfInBounds_toArray]
    refine wpAnyH_ready (rs := [9]) (by kernel_rfl) (by decide) (AllReadyH.cons (o := _) rfl (fun K hK' => ?_) AllReadyH.nil)
    refine kn_stepEE (by rfl) _ _ (by rfl) _ M1.length M2.length M1 M2 (by rfl) (by rfl) KO2 rfl (by have h1 := congrArg List.length HMT1; have h2 := congrArg List.length HMT2; simp only [List.length_map, List.length_take, List.length_drop, List.length_nil] at h1 h2; have := HLN.out; omega) ?_
    clear KO2
    intro v' wo3 KO3
    obtain ⟨Z3, zc3, rfl⟩ := row_form KO3.at0
    have HQ := Lib.hid (show (M1 ++ M2).map EE.t = RL_ by rw [List.map_append, HMT1, HMT2, (HRL).out])
    refine hK'.out _ _ trivial (fun hHeld2 => ?_)
    clear hK' K hHeld
    have hHeld := hHeld2
    clear hHeld2
    try simp only [Act.put, List.setIfInBounds_toArray]
    try simp only [List.getElem_toArray, List.getElem_cons_succ, List.getElem_cons_zero, List.set_cons_zero, List.set_cons_succ]
    refine wpAnyH_take (i := 10) (v := ?_) rfl (by kernel_rfl) (by kernel_rfl) (by kernel_rfl) (fun _ _ _ h => h) (Or.inl ⟨by rfl, ?_⟩) hHeld ?_
    rotate_left
    · (intro w hSw; (try dsimp only at hSw); go_simp; try with_reducible rfl)
    try simp only [Act.put, List.setIfInBounds_toArray, List.set_cons_zero, List.set_cons_succ, List.getElem_toArray, List.getElem_cons_succ, List.getElem_cons_zero]
    refine wpAnyH_take (i := 11) (v := ?_) rfl (by kernel_rfl) (by kernel_rfl) (by kernel_rfl) (fun _ _ _ h => h) (Or.inl ⟨by rfl, ?_⟩) hHeld ?_
    rotate_left
    · (intro w hSw; (try dsimp only at hSw); go_simp; try with_reducible rfl)
    try simp only [Act.put, List.setIfInBounds_toArray, List.set_cons_zero, List.set_cons_succ, List.getElem_toArray, List.getElem_cons_succ, List.getElem_cons_zero]
    refine wpAnyH_done (by kernel_rfl) ?_ _
    go_wp2_with fail
    go_ret2
    rw [← List.length_append] at KO3
    refine ⟨Z3, zc3, M1 ++ M2, ?_, HQ.out, KO3⟩
    rw [List.length_append]; rfl
end Go.Proofs.YtgljafiegpjlkaaGreatDoor

namespace Go.Proofs.YtgljafiegpjlkaaGreatDoor
open Go.RowKit Go.Sort
/-! rows of strings that are held against each other -/
theorem tl_inj {x y : ByteArray} (h : x.toList = y.toList) : x = y := by
  rw [strB_toList, strB_toList] at h
  exact str_eq.2 h
theorem drop_dec {ss tt : List ByteArray} {k : Nat} (h1 : k < ss.length) (h2 : k < tt.length) : decide (ss.drop k = tt.drop k) = (decide (ss[k] = tt[k]) && decide (ss.drop (k + 1) = tt.drop (k + 1))) := by
  rw [List.drop_eq_getElem_cons h1, List.drop_eq_getElem_cons h2, Bool.eq_iff_iff]
  simp only [Bool.and_eq_true, decide_eq_true_eq, List.cons.injEq]
set_option maxHeartbeats 1600000 in
theorem sameWords_any (A B : Option Addr) (n m c d : Nat) (ss tt : List ByteArray) (w : World) (hr : RL StrM 1 w A n ss) (hs : RL StrM 1 w B m tt) (hn : n ≤ 9223372036854775807) (hm : m ≤ 9223372036854775807) :
    Calls Tryz.prog 87 #[.slice A n c, .slice B m d] w fun e w' => e = .returned (.bool (decide (ss = tt))) ∧ ∃ q, w' = w.drewN q := by
  by_cases hnm : n = m
  · subst hnm
    have HE := Lib.hid (show decide (ss = tt) = decide (ss.drop 0 = tt.drop 0) from rfl)
    obtain ⟨R, hR⟩ : ∃ R, decide (ss = tt) = R := ⟨_, rfl⟩
    rw [hR] at HE ⊢
    have HR := Lib.hid hr
    have HS := Lib.hid hs
    clear hr hs hR
    go_enter Tryz.func87, Tryz.ntmps87
    go_wp2_with fail
    go_loopw [13] (fun i wr => ∃ (k : Nat), k ≤ n ∧ i = .int .i64 k ∧ Hid (R = decide (ss.drop k = tt.drop k)) ∧ ∃ q, wr = w.drewN q) (fun i _ => n - (intOf i).toNat)
    case atStart => exact ⟨0, Nat.zero_le _, rfl, HE, 0, rfl⟩
    case round =>
      obtain ⟨k, hk, rfl, HA, q, rfl⟩ := hrel
      by_cases hkn : k < n
      · obtain ⟨ad, hA, hlt, hkl, hx⟩ := HR.out.at_ hkn
        obtain ⟨bd, hB, hlt2, hkl2, hy⟩ := HS.out.at_ hkn
        have hdd := drop_dec hkl hkl2
        unfold StrM at hx hy
        rw [Nat.mul_one] at hx hy
        obtain ⟨x, hxe⟩ : ∃ x, ss[k] = x := ⟨_, rfl⟩
        obtain ⟨y, hye⟩ : ∃ y, tt[k] = y := ⟨_, rfl⟩
        rw [hxe] at hx hdd
        rw [hye] at hy hdd
        have HD := Lib.hid (HA.out.trans hdd)
        have hi0 : (0 : Int) ≤ (k : Int) := by omega
        have hi1 : (k : Int) < (n : Int) := by omega
        subst hA
        subst hB
        clear hxe hye hlt hlt2 hdd
        by_cases hxy : x = y
        · subst hxy
          have HQ := Lib.hid (show R = decide (ss.drop (k + 1) = tt.drop (k + 1)) by rw [HD.out, decide_eq_true rfl, Bool.true_and])
          have hxx : (x.toList == x.toList) = true := by simp
          go_wp2_with fail
          go_quiet (fail)
          go_wp2_with fail
          go_roundw
          case rel => exact ⟨k + 1, by omega, by go_num, HQ, by first | exact ⟨_, rfl⟩ | exact ⟨_, World.drewN_drewN _ _ _⟩⟩
          case measure => simp [intOf]; omega
        · have HQ := Lib.hid (show R = false by rw [HD.out, decide_eq_false hxy, Bool.false_and])
          have hxx : (x.toList == y.toList) = false := by
            rw [beq_eq_false_iff_ne]
            intro h
            exact hxy (tl_inj h)
          go_wp2_with fail
          go_quiet (fail)
          go_wp2_with fail
          go_ret
          exact ⟨ret_bool HQ.out.symm, by first | exact ⟨_, rfl⟩ | exact ⟨_, World.drewN_drewN _ _ _⟩⟩
      · have hi1 : ¬ (k : Int) < (n : Int) := by omega
        have HQ := Lib.hid (show R = true by
          rw [HA.out, List.drop_eq_nil_of_le (by have := HR.out.1; omega), List.drop_eq_nil_of_le (by have := HS.out.1; omega)]; rfl)
        go_wp2_with fail
        go_ret
        exact ⟨ret_bool HQ.out.symm, q, rfl⟩
  · have hne : decide (ss = tt) = false := decide_eq_false (fun h => hnm (by rw [← hr.1, ← hs.1, h]))
    rw [hne]
    have h2 : ¬ (n : Int) = (m : Int) := by omega
    have h3 : ((n : Int) == (m : Int)) = false := by simp; omega
    clear hr hs hne
    go_enter Tryz.func87, Tryz.ntmps87
    go_wp2_with fail
    go_ret
    exact ⟨rfl, 0, rfl⟩
set_option maxHeartbeats 1600000 in
theorem l25Texts_any (A B : Option Addr) (n m c d : Nat) (ss tt : List ByteArray) (w : World) (hr : RL StrM 1 w A n ss) (hs : RL StrM 1 w B m tt) (hn : n ≤ 9223372036854775807) (hm : m ≤ 9223372036854775807) :
    Calls Tryz.prog 86 #[.slice A n c, .slice B m d] w fun e w' => e = .returned (.bool (decide (ss = tt))) ∧ ∃ q, w' = w.drewN q := by
  by_cases hnm : n = m
  · subst hnm
    have HE := Lib.hid (show decide (ss = tt) = decide (ss.drop 0 = tt.drop 0) from rfl)
    obtain ⟨R, hR⟩ : ∃ R, decide (ss = tt) = R := ⟨_, rfl⟩
    rw [hR] at HE ⊢
    have HR := Lib.hid hr
    have HS := Lib.hid hs
    clear hr hs hR
    go_enter Tryz.func86, Tryz.ntmps86
    go_wp2_with fail
    go_loopw [5] (fun i wr => ∃ (k : Nat), k ≤ n ∧ i = .int .i64 k ∧ Hid (R = decide (ss.drop k = tt.drop k)) ∧ ∃ q, wr = w.drewN q) (fun i _ => n - (intOf i).toNat)
    case atStart => exact ⟨0, Nat.zero_le _, rfl, HE, 0, rfl⟩
    case round =>
      obtain ⟨k, hk, rfl, HA, q, rfl⟩ := hrel
      by_cases hkn : k < n
      · obtain ⟨ad, hA, hlt, hkl, hx⟩ := HR.out.at_ hkn
        obtain ⟨bd, hB, hlt2, hkl2, hy⟩ := HS.out.at_ hkn
        have hdd := drop_dec hkl hkl2
        unfold StrM at hx hy
        rw [Nat.mul_one] at hx hy
        obtain ⟨x, hxe⟩ : ∃ x, ss[k] = x := ⟨_, rfl⟩
        obtain ⟨y, hye⟩ : ∃ y, tt[k] = y := ⟨_, rfl⟩
        rw [hxe] at hx hdd
        rw [hye] at hy hdd
        have HD := Lib.hid (HA.out.trans hdd)
        have hi0 : (0 : Int) ≤ (k : Int) := by omega
        have hi1 : (k : Int) < (n : Int) := by omega
        subst hA
        subst hB
        clear hxe hye hlt hlt2 hdd
        by_cases hxy : x = y
        · subst hxy
          have HQ := Lib.hid (show R = decide (ss.drop (k + 1) = tt.drop (k + 1)) by rw [HD.out, decide_eq_true rfl, Bool.true_and])
          have hxx : (x.toList == x.toList) = true := by simp
          go_wp2_with fail
          go_quiet (fail)
          go_wp2_with fail
          go_roundw
          case rel => exact ⟨k + 1, by omega, by go_num, HQ, by first | exact ⟨_, rfl⟩ | exact ⟨_, World.drewN_drewN _ _ _⟩⟩
          case measure => simp [intOf]; omega
        · have HQ := Lib.hid (show R = false by rw [HD.out, decide_eq_false hxy, Bool.false_and])
          have hxx : (x.toList == y.toList) = false := by
            rw [beq_eq_false_iff_ne]
            intro h
            exact hxy (tl_inj h)
          go_wp2_with fail
          go_quiet (fail)
          go_wp2_with fail
          go_ret
          exact ⟨ret_bool HQ.out.symm, by first | exact ⟨_, rfl⟩ | exact ⟨_, World.drewN_drewN _ _ _⟩⟩
      · have hi1 : ¬ (k : Int) < (n : Int) := by omega
        have HQ := Lib.hid (show R = true by
          rw [HA.out, List.drop_eq_nil_of_le (by have := HR.out.1; omega), List.drop_eq_nil_of_le (by have := HS.out.1; omega)]; rfl)
        go_wp2_with fail
        go_ret
        exact ⟨ret_bool HQ.out.symm, q, rfl⟩
  · have hne : decide (ss = tt) = false := decide_eq_false (fun h => hnm (by rw [← hr.1, ← hs.1, h]))
    rw [hne]
    have h2 : ¬ (n : Int) = (m : Int) := by omega
    have h3 : ((n : Int) == (m : Int)) = false := by simp; omega
    clear hr hs hne
    go_enter Tryz.func86, Tryz.ntmps86
    go_wp2_with fail
    go_ret
    exact ⟨rfl, 0, rfl⟩
end Go.Proofs.YtgljafiegpjlkaaGreatDoor

namespace Go.Proofs.YtgljafiegpjlkaaGreatDoor
open Go.RowKit Go.Sort
/-! entries that are held against each other -/
def eqEt (x y : Etr) : Bool := decide (x.num = y.num) && (decide (x.name = y.name) && (decide (x.maker = y.maker) && (decide (x.year = y.year) && decide (x.words = y.words))))
def eqEs : List Etr → List Etr → Bool
  | [], [] => true
  | x :: l, y :: m => eqEt x y && eqEs l m
  | _, _ => false
theorem eqEt_iff {x y : Etr} : eqEt x y = true ↔ x = y := by
  unfold eqEt
  simp only [Bool.and_eq_true, decide_eq_true_eq]
  constructor
  · rintro ⟨h1, h2, h3, h4, h5⟩
    cases x; cases y
    simp only at h1 h2 h3 h4 h5
    subst h1; subst h2; subst h3; subst h4; subst h5
    rfl
  · rintro rfl; exact ⟨rfl, rfl, rfl, rfl, rfl⟩
theorem eqEs_iff : ∀ {l m : List Etr}, eqEs l m = true ↔ l = m
  | [], [] => by simp [eqEs]
  | [], y :: m => by simp [eqEs]
  | x :: l, [] => by simp [eqEs]
  | x :: l, y :: m => by
    unfold eqEs
    rw [Bool.and_eq_true, eqEt_iff, eqEs_iff, List.cons.injEq]
theorem eqEs_same (l : List Etr) : eqEs l l = true := eqEs_iff.2 rfl
theorem eqEs_len : ∀ {l m : List Etr}, l.length ≠ m.length → eqEs l m = false
  | [], [], h => absurd rfl h
  | [], y :: m, _ => by simp [eqEs]
  | x :: l, [], _ => by simp [eqEs]
  | x :: l, y :: m, h => by
    unfold eqEs
    rw [eqEs_len (l := l) (m := m) (fun e => h (by rw [List.length_cons, List.length_cons, e])), Bool.and_false]
theorem eqEs_drop {l m : List Etr} {k : Nat} (h1 : k < l.length) (h2 : k < m.length) : eqEs (l.drop k) (m.drop k) = (eqEt l[k] m[k] && eqEs (l.drop (k + 1)) (m.drop (k + 1))) := by
  rw [List.drop_eq_getElem_cons h1, List.drop_eq_getElem_cons h2]
  rfl
end Go.Proofs.YtgljafiegpjlkaaGreatDoor
