/- Part 2: lemmas and contracts of the claim's functions. -/
import Derived.Test.YtgljafiegpjlkaaGreatDoorZC1
import Derived.Lib.ItoaLen
import Derived.Test.YtgljafiegpjlkaaGreatDoorShelf
import Derived.Deep.DeepCutAuto
namespace Go.Proofs.YtgljafiegpjlkaaGreatDoor
open Go.RowKit Go.Sort
/-! things that are owned together, each apart from the others -/
def Apart (es : List Ent) : Prop := es.Pairwise (fun a b => ∀ k, a.fp k → ¬ b.fp k)
theorem bunAStable (es : List Ent) : ∀ w w' : World, ((∀ e ∈ es, e.holds w) ∧ Apart es) → w.heap.size ≤ w'.heap.size → (∀ k, (∃ e ∈ es, e.fp k) → w'.heap[k]? = w.heap[k]?) → ((∀ e ∈ es, e.holds w') ∧ Apart es) :=
  fun _ _ h hs hb => ⟨fun e he => Ent.stable (h.1 e he) hs (fun k hk => hb k ⟨e, he, hk⟩), h.2⟩
def bunA (es : List Ent) : Ent := .any (fun k => ∃ e ∈ es, e.fp k) (fun w => (∀ e ∈ es, e.holds w) ∧ Apart es) (bunAStable es)
section
variable {w0 w : World} {m es es' : List Ent} {e : Ent}
theorem Kn.bunAFlat (h : Kn w0 (bunA es :: m) w) : Kn w0 (es ++ m) w := by
  obtain ⟨ha, hb⟩ := List.pairwise_cons.1 h.apart
  obtain ⟨⟨h1, h2⟩, -⟩ := h.ents (bunA es) (List.mem_cons_self ..)
  refine ⟨h.below, fun x hx => ?_, fun x hx k hk => ?_, List.pairwise_append.2 ⟨h2, hb, fun a haa b hbb k hk => ha b hbb k ⟨a, haa, hk⟩⟩⟩
  · rcases List.mem_append.1 hx with hx | hx
    · exact h1 x hx
    · exact h.ents x (List.mem_cons_of_mem _ hx)
  · rcases List.mem_append.1 hx with hx | hx
    · exact h.own (bunA es) (List.mem_cons_self ..) k ⟨x, hx, hk⟩
    · exact h.own x (List.mem_cons_of_mem _ hx) k hk
theorem Kn.bunAOf (h : Kn w0 (es ++ m) w) : Kn w0 (bunA es :: m) w := by
  obtain ⟨ha, hb, hc⟩ := List.pairwise_append.1 h.apart
  refine ⟨h.below, fun x hx => ?_, fun x hx k hk => ?_, List.pairwise_cons.2 ⟨fun x hx k hk => ?_, hb⟩⟩
  · rcases List.mem_cons.1 hx with rfl | hx
    · exact ⟨⟨fun e he => h.ents e (List.mem_append_left _ he), ha⟩, fun k hk => by
        obtain ⟨e, he, hk⟩ := hk
        exact Ent.lt (h.ents e (List.mem_append_left _ he)) hk⟩
    · exact h.ents x (List.mem_append_right _ hx)
  · rcases List.mem_cons.1 hx with rfl | hx
    · obtain ⟨e, he, hk⟩ := hk
      exact h.own e (List.mem_append_left _ he) k hk
    · exact h.own x (List.mem_append_right _ hx) k hk
  · obtain ⟨e, he, hk⟩ := hk
    exact hc e he x hx k hk
theorem Kn.bunAPick (h : Kn w0 (bunA es :: m) w) (he : e ∈ es) : Kn w0 (e :: m) w := by
  obtain ⟨ha, hb⟩ := List.pairwise_cons.1 h.apart
  refine ⟨h.below, fun x hx => ?_, fun x hx k hk => ?_, List.pairwise_cons.2 ⟨fun x hx k hk => ?_, hb⟩⟩
  · rcases List.mem_cons.1 hx with rfl | hx
    · exact (h.ents (bunA es) (List.mem_cons_self ..)).1.1 _ he
    · exact h.ents x (List.mem_cons_of_mem _ hx)
  · rcases List.mem_cons.1 hx with rfl | hx
    · exact h.own (bunA es) (List.mem_cons_self ..) k ⟨_, he, hk⟩
    · exact h.own x (List.mem_cons_of_mem _ hx) k hk
  · exact ha x hx k ⟨_, he, hk⟩
theorem Kn.bunANil (h : Kn w0 m w) : Kn w0 (bunA [] :: m) w := Kn.bunAOf (es := []) h
theorem Kn.bunAPerm (h : Kn w0 (bunA es :: m) w) (hp : es.Perm es') : Kn w0 (bunA es' :: m) w := Kn.bunAOf (h.bunAFlat.perm (hp.append_right m))
theorem Kn.bunAAdd (h : Kn w0 (e :: bunA es :: m) w) : Kn w0 (bunA (es ++ [e]) :: m) w := by
  have h1 : Kn w0 (es ++ (e :: m)) w := Kn.bunAFlat h.sw1
  refine Kn.bunAOf ?_
  rw [List.append_assoc]
  exact h1
theorem Kn.bunAOut (h : Kn w0 (bunA (e :: es) :: m) w) : Kn w0 (e :: bunA es :: m) w := by
  have h1 : Kn w0 (e :: (es ++ m)) w := h.bunAFlat
  have h2 : Kn w0 (es ++ (e :: m)) w := h1.perm List.perm_middle.symm
  exact (Kn.bunAOf h2).sw1
end
end Go.Proofs.YtgljafiegpjlkaaGreatDoor

namespace Go.Proofs.YtgljafiegpjlkaaGreatDoor
open Go.RowKit
/-- the decimal form -/
def dec (n : Int) : List UInt8 := Lib.itoa n
def digs (u : Nat) : List UInt8 := if u = 0 then [] else Lib.decDigits u
theorem digs_step (u : Nat) (h : u ≠ 0) : digs u = digs (u / 10) ++ [UInt8.ofNat (48 + u % 10)] := by
  unfold digs
  rw [if_neg h]
  by_cases h1 : u < 10
  · rw [if_pos (by omega), Lib.decDigits_one h1, Nat.mod_eq_of_lt h1]; rfl
  · rw [if_neg (by omega)]
    conv => lhs; rw [Lib.decDigits, dif_neg h1]
theorem digs_len (n : Int) (h0 : -9223372036854775808 ≤ n) (h1 : n ≤ 9223372036854775807) : (digs n.natAbs).length ≤ 21 := by
  have h := Lib.itoa_length_le n h0 h1
  unfold digs
  split
  · simp
  · by_cases hn : n < 0
    · unfold Lib.itoa at h; rw [if_pos hn] at h; simp at h; omega
    · unfold Lib.itoa at h; rw [if_neg hn] at h
      have : n.natAbs = n.toNat := by omega
      rw [this]; omega
theorem dec_of (n : Int) : dec n = if n = 0 then [48] else if n < 0 then 45 :: digs n.natAbs else digs n.natAbs := by
  unfold dec Lib.itoa digs
  by_cases h0 : n = 0
  · subst h0; rw [if_pos rfl]; simp [Lib.decDigits_one]
  · rw [if_neg h0, if_neg (by omega : ¬ n.natAbs = 0)]
    by_cases hn : n < 0
    · rw [if_pos hn, if_pos hn]
    · rw [if_neg hn, if_neg hn, show n.natAbs = n.toNat by omega]
theorem ofNat_toNat48 (d : Nat) (h : d < 10) : ((UInt8.ofNat (48 + d)).toNat : Int) = 48 + (d : Int) := by
  simp [UInt8.toNat_ofNat]; omega
theorem tmod_neg10 (u : Nat) : (-(u : Int)).tmod 10 = -((u % 10 : Nat) : Int) := by
  rw [Int.neg_tmod]; rfl
theorem tdiv_neg10 (u : Nat) : (-(u : Int)).tdiv 10 = -((u / 10 : Nat) : Int) := by
  rw [Int.neg_tdiv]; rfl
theorem OwnB.lit1 (w : World) (b : UInt8) (base : Nat) (hb : base ≤ w.heap.size) : OwnB (w.alloc (.cells #[byteV b] 5)) base (.slice (some ⟨w.heap.size, 0, none⟩) 1 1) [b] := World.ownsRow_lit w #[byteV b] 1 hb (by decide) rfl
theorem OwnB.cells_at {w : World} {base g c n : Nat} {ds : List UInt8} (h : OwnB w base (.slice (some ⟨g, 0, none⟩) n c) ds) : RB w (some ⟨g, 0, none⟩) ds.length ds ∧ g < w.heap.size := by
  rcases h.2 with ⟨h1, _⟩ | ⟨g', cap, cur, h1, hb, hg, hnc, _, hcs, htake⟩
  · cases h1
  · injection h1 with h1 h2 h3; injection h1 with h1; injection h1 with h1; subst h1
    exact ⟨⟨rfl, fun _ => ⟨_, rfl, (Array.getElem?_eq_some_iff.1 hg).1, fun j u hu => h.cells (g := g) rfl j (byteV u) (by simp [hu])⟩⟩, (Array.getElem?_eq_some_iff.1 hg).1⟩
theorem byteV_one (bs : List UInt8) : ∀ u ∈ bs.map byteV, u.oneCell' = true := by
  intro u hu; obtain ⟨b, -, rfl⟩ := List.mem_map.1 hu; rfl
theorem byte48 (u : Nat) : byteV (UInt8.ofNat (48 + u % 10)) = .int .u8 (48 + (u : Int) % 10) := by
  unfold byteV; rw [ofNat_toNat48 (u % 10) (by omega)]; rfl
theorem ret_str {a b : ByteArray} (h : a = b) : Ending.returned (.string a) = .returned (.string b) := by rw [h]
set_option maxRecDepth 100000 in
set_option maxHeartbeats 800000 in
theorem l01Dec_any (n : Int) (w : World) (h0 : -9223372036854775808 ≤ n) (h1 : n ≤ 9223372036854775807) :
    Calls Tryz.prog 88 #[.int .i64 n] w fun e w' => e = .returned (.string ⟨(dec n).toArray⟩) ∧ Below w.heap.size w w' := by
  have hlen := digs_len n h0 h1
  rcases Int.lt_or_le n 0 with hn | hn
  · obtain ⟨u0, rfl⟩ : ∃ u : Nat, n = -(u : Int) := ⟨n.natAbs, by omega⟩
    have HD := Lib.hid (dec_of (-(u0 : Int)))
    have hu0 : (-(u0 : Int)).natAbs = u0 := by omega
    rw [hu0] at hlen
    have HU := Lib.hid hu0; clear hu0
    go_enter Tryz.func88, Tryz.ntmps88
    go_wp2
    go_loopw [3, 4, 5] (fun v k _ wr => ∃ (u : Nat) (bs : List UInt8) (g c : Nat), u ≤ u0 ∧ k = .int .i64 (-(u : Int)) ∧ v = .slice (some ⟨g, 0, none⟩) bs.length c ∧ OwnB wr w.heap.size (.slice (some ⟨g, 0, none⟩) bs.length c) bs ∧ digs u0 = digs u ++ bs ∧ Below w.heap.size w wr) (fun _ k _ _ => (intOf k).natAbs)
    case atStart => exact ⟨u0, [], w.heap.size, 0, Nat.le_refl _, rfl, rfl, World.ownsRow_lit w #[] 0 (Nat.le_refl _) (by decide) rfl, by simp, (Below.refl _ _).alloc (Nat.le_refl _) _⟩
    case round =>
      obtain ⟨u, bs, g, c, hu, rfl, rfl, hown, hdg, hbr⟩ := hrel
      have hbl : bs.length ≤ 21 := by rw [hdg] at hlen; simp at hlen; omega
      obtain ⟨hrb, hgl⟩ := hown.cells_at
      have HG := Lib.hid hdg; clear hdg
      rcases Nat.eq_zero_or_pos u with hu1 | hu1
      · subst hu1
        have HE : Hid (digs u0 = bs) := HG.out
        have hcv := conv_bytes wr (some ⟨g, 0, none⟩) bs.length c bs hrb
        by_cases hz : bs.length = 0
        · have hzz : ((bs.length : Int) == 0) = true := by simp [hz]
          have HF : Hid (dec (-(u0 : Int)) = [48]) := by
            have h1 := HE.out
            have : u0 = 0 := by
              rcases Nat.eq_zero_or_pos u0 with h | h
              · exact h
              · rw [digs_step u0 (by omega)] at h1; rw [← h1] at hz; simp at hz
            rw [Hid, HD.out, if_pos (by omega)]
          have Hz := Lib.hid hz; clear hz
          go_wp2
          go_ret
          exact ⟨ret_str (by rw [HF.out]), hbr⟩
        · have hzz : ((bs.length : Int) == 0) = false := by rw [beq_eq_false_iff_ne]; omega
          have h0 : u0 ≠ 0 := by rintro rfl; have h1 := HE.out; simp [digs] at h1; exact hz (by rw [h1]; rfl)
          have HF : Hid (dec (-(u0 : Int)) = if (-(u0 : Int)) < 0 then 45 :: bs else bs) := by rw [Hid, HD.out, if_neg (by omega), HU.out, HE.out]
          clear hz
          first
            | (have hnn : (-(u0 : Int)) < 0 := by omega
               go_wp2
               go_ret
               exact ⟨ret_str (by rw [HF.out, if_pos hnn]; rfl), hbr⟩)
            | (have hnn : ¬ (-(u0 : Int)) < 0 := by omega
               go_wp2
               go_ret
               exact ⟨ret_str (by rw [HF.out, if_neg (by omega)]), hbr⟩)
      · have t3 : ((-(u : Int)) != 0) = true := by rw [bne_iff_ne]; omega
        have HN : Hid (digs u0 = digs (u / 10) ++ (UInt8.ofNat (48 + u % 10) :: bs)) := by rw [Hid, HG.out, digs_step u (by omega)]; simp
        clear hrb
        obtain ⟨dd, hdd⟩ : ∃ dd : Int, dd = (u : Int) % 10 := ⟨_, rfl⟩
        have hd0 : 0 ≤ dd := by omega
        have hd1 : dd < 10 := by omega
        have hbv : byteV (UInt8.ofNat (48 + u % 10)) = .int .u8 (48 + dd) := by rw [byte48 u, hdd]
        have hl1 := OwnB.lit1 wr (UInt8.ofNat (48 + u % 10)) w.heap.size hbr.size
        have t1 := tmod_neg10 u
        have t2 := tdiv_neg10 u
        have t4 : ((u : Int)) % 10 = dd := hdd.symm
        have t5 : (((u % 10 : Nat)) : Int) = dd := by omega
        rw [t5] at t1
        clear t5
        have HDD := Lib.hid hdd; clear hdd
        rcases Int.lt_or_eq_of_le hd0 with hpos | hzero
        rotate_right 1
        · subst hzero
          rw [Int.neg_zero] at t1
          have hbv : byteV (UInt8.ofNat (48 + u % 10)) = .int .u8 48 := hbv
          rw [hbv] at hl1
          have hcs := (World.ownsRow.alloc hown (.cells #[.int .u8 48] 5)).cells (g := g) rfl
          clear hbv
          go_wp2_with (at_builtin; refine appG tpB rfl _ _ rfl w.heap.size (.slice (some ⟨wr.heap.size, 0, none⟩) 1 1) 1 ([UInt8.ofNat (48 + u % 10)].map byteV) rfl hl1 ⟨g, 0, none⟩ bs.length c (bs.map byteV) rfl (by simp) hcs (byteV_one bs) (by omega) (by omega) (by have := hbr.size; simp; omega) ?_; intro v1 w1 hown1 hg1 hat1)
          obtain ⟨g', c', hv', hbg', hlt'⟩ := hown1.form (by omega)
          subst hv'
          have hbz : Below w.heap.size w w1 := (hbr.alloc hbr.size _).grown hg1 (Nat.le_trans hbr.size (by simp)) (fun k hk => Nat.le_trans hbr.size (Nat.le_of_eq (by simpa [Value.ownBlock] using hk)))
          have hown2 : OwnB w1 w.heap.size (.slice (some ⟨g', 0, none⟩) (UInt8.ofNat (48 + u % 10) :: bs).length c') (UInt8.ofNat (48 + u % 10) :: bs) := by unfold OwnB; rw [List.length_cons, Nat.add_comm]; exact hown1
          clear hown1 hl1 hcs
          go_roundw
          case rel => exact ⟨u / 10, UInt8.ofNat (48 + u % 10) :: bs, g', c', by omega, by congr 1, by rw [List.length_cons, Nat.add_comm], hown2, HN.out, hbz⟩
          case measure => simp [intOf]; omega
        · skip
          rw [hbv] at hl1
          have hcs := (World.ownsRow.alloc hown (.cells #[.int .u8 (48 + dd)] 5)).cells (g := g) rfl
          clear hbv
          go_wp2_with (at_builtin; refine appG tpB rfl _ _ rfl w.heap.size (.slice (some ⟨wr.heap.size, 0, none⟩) 1 1) 1 ([UInt8.ofNat (48 + u % 10)].map byteV) rfl hl1 ⟨g, 0, none⟩ bs.length c (bs.map byteV) rfl (by simp) hcs (byteV_one bs) (by omega) (by omega) (by have := hbr.size; simp; omega) ?_; intro v1 w1 hown1 hg1 hat1)
          obtain ⟨g', c', hv', hbg', hlt'⟩ := hown1.form (by omega)
          subst hv'
          have hbz : Below w.heap.size w w1 := (hbr.alloc hbr.size _).grown hg1 (Nat.le_trans hbr.size (by simp)) (fun k hk => Nat.le_trans hbr.size (Nat.le_of_eq (by simpa [Value.ownBlock] using hk)))
          have hown2 : OwnB w1 w.heap.size (.slice (some ⟨g', 0, none⟩) (UInt8.ofNat (48 + u % 10) :: bs).length c') (UInt8.ofNat (48 + u % 10) :: bs) := by unfold OwnB; rw [List.length_cons, Nat.add_comm]; exact hown1
          clear hown1 hl1 hcs
          go_roundw
          case rel => exact ⟨u / 10, UInt8.ofNat (48 + u % 10) :: bs, g', c', by omega, by congr 1, by rw [List.length_cons, Nat.add_comm], hown2, HN.out, hbz⟩
          case measure => simp [intOf]; omega
  · obtain ⟨u0, rfl⟩ : ∃ u : Nat, n = (u : Int) := ⟨n.natAbs, by omega⟩
    have HD := Lib.hid (dec_of (u0 : Int))
    have hu0 : ((u0 : Int)).natAbs = u0 := by omega
    rw [hu0] at hlen
    have HU := Lib.hid hu0; clear hu0
    go_enter Tryz.func88, Tryz.ntmps88
    go_wp2
    go_loopw [3, 4, 5] (fun v k _ wr => ∃ (u : Nat) (bs : List UInt8) (g c : Nat), u ≤ u0 ∧ k = .int .i64 ((u : Int)) ∧ v = .slice (some ⟨g, 0, none⟩) bs.length c ∧ OwnB wr w.heap.size (.slice (some ⟨g, 0, none⟩) bs.length c) bs ∧ digs u0 = digs u ++ bs ∧ Below w.heap.size w wr) (fun _ k _ _ => (intOf k).natAbs)
    case atStart => exact ⟨u0, [], w.heap.size, 0, Nat.le_refl _, rfl, rfl, World.ownsRow_lit w #[] 0 (Nat.le_refl _) (by decide) rfl, by simp, (Below.refl _ _).alloc (Nat.le_refl _) _⟩
    case round =>
      obtain ⟨u, bs, g, c, hu, rfl, rfl, hown, hdg, hbr⟩ := hrel
      have hbl : bs.length ≤ 21 := by rw [hdg] at hlen; simp at hlen; omega
      obtain ⟨hrb, hgl⟩ := hown.cells_at
      have HG := Lib.hid hdg; clear hdg
      rcases Nat.eq_zero_or_pos u with hu1 | hu1
      · subst hu1
        have HE : Hid (digs u0 = bs) := HG.out
        have hcv := conv_bytes wr (some ⟨g, 0, none⟩) bs.length c bs hrb
        by_cases hz : bs.length = 0
        · have hzz : ((bs.length : Int) == 0) = true := by simp [hz]
          have HF : Hid (dec ((u0 : Int)) = [48]) := by
            have h1 := HE.out
            have : u0 = 0 := by
              rcases Nat.eq_zero_or_pos u0 with h | h
              · exact h
              · rw [digs_step u0 (by omega)] at h1; rw [← h1] at hz; simp at hz
            rw [Hid, HD.out, if_pos (by omega)]
          have Hz := Lib.hid hz; clear hz
          go_wp2
          go_ret
          exact ⟨ret_str (by rw [HF.out]), hbr⟩
        · have hzz : ((bs.length : Int) == 0) = false := by rw [beq_eq_false_iff_ne]; omega
          have h0 : u0 ≠ 0 := by rintro rfl; have h1 := HE.out; simp [digs] at h1; exact hz (by rw [h1]; rfl)
          have HF : Hid (dec ((u0 : Int)) = if ((u0 : Int)) < 0 then 45 :: bs else bs) := by rw [Hid, HD.out, if_neg (by omega), HU.out, HE.out]
          clear hz
          first
            | (have hnn : ((u0 : Int)) < 0 := by omega
               go_wp2
               go_ret
               exact ⟨ret_str (by rw [HF.out, if_pos hnn]; rfl), hbr⟩)
            | (have hnn : ¬ ((u0 : Int)) < 0 := by omega
               go_wp2
               go_ret
               exact ⟨ret_str (by rw [HF.out, if_neg (by omega)]), hbr⟩)
      · have t3 : (((u : Int)) != 0) = true := by rw [bne_iff_ne]; omega
        have HN : Hid (digs u0 = digs (u / 10) ++ (UInt8.ofNat (48 + u % 10) :: bs)) := by rw [Hid, HG.out, digs_step u (by omega)]; simp
        clear hrb
        obtain ⟨dd, hdd⟩ : ∃ dd : Int, dd = (u : Int) % 10 := ⟨_, rfl⟩
        have hd0 : 0 ≤ dd := by omega
        have hd1 : dd < 10 := by omega
        have hbv : byteV (UInt8.ofNat (48 + u % 10)) = .int .u8 (48 + dd) := by rw [byte48 u, hdd]
        have hl1 := OwnB.lit1 wr (UInt8.ofNat (48 + u % 10)) w.heap.size hbr.size
        have t1 := tmod_neg10 u
        have t2 := tdiv_neg10 u
        have t4 : ((u : Int)) % 10 = dd := hdd.symm
        have t5 : (((u % 10 : Nat)) : Int) = dd := by omega
        rw [t5] at t1
        clear t5
        have HDD := Lib.hid hdd; clear hdd
        rcases Int.lt_or_eq_of_le hd0 with hpos | hzero
        rotate_right 1
        · subst hzero
          skip
          have hbv : byteV (UInt8.ofNat (48 + u % 10)) = .int .u8 48 := hbv
          rw [hbv] at hl1
          have hcs := (World.ownsRow.alloc hown (.cells #[.int .u8 48] 5)).cells (g := g) rfl
          clear hbv
          go_wp2_with (at_builtin; refine appG tpB rfl _ _ rfl w.heap.size (.slice (some ⟨wr.heap.size, 0, none⟩) 1 1) 1 ([UInt8.ofNat (48 + u % 10)].map byteV) rfl hl1 ⟨g, 0, none⟩ bs.length c (bs.map byteV) rfl (by simp) hcs (byteV_one bs) (by omega) (by omega) (by have := hbr.size; simp; omega) ?_; intro v1 w1 hown1 hg1 hat1)
          obtain ⟨g', c', hv', hbg', hlt'⟩ := hown1.form (by omega)
          subst hv'
          have hbz : Below w.heap.size w w1 := (hbr.alloc hbr.size _).grown hg1 (Nat.le_trans hbr.size (by simp)) (fun k hk => Nat.le_trans hbr.size (Nat.le_of_eq (by simpa [Value.ownBlock] using hk)))
          have hown2 : OwnB w1 w.heap.size (.slice (some ⟨g', 0, none⟩) (UInt8.ofNat (48 + u % 10) :: bs).length c') (UInt8.ofNat (48 + u % 10) :: bs) := by unfold OwnB; rw [List.length_cons, Nat.add_comm]; exact hown1
          clear hown1 hl1 hcs
          go_roundw
          case rel => exact ⟨u / 10, UInt8.ofNat (48 + u % 10) :: bs, g', c', by omega, by congr 1, by rw [List.length_cons, Nat.add_comm], hown2, HN.out, hbz⟩
          case measure => simp [intOf]; omega
        · skip
          rw [hbv] at hl1
          have hcs := (World.ownsRow.alloc hown (.cells #[.int .u8 (48 + dd)] 5)).cells (g := g) rfl
          clear hbv
          go_wp2_with (at_builtin; refine appG tpB rfl _ _ rfl w.heap.size (.slice (some ⟨wr.heap.size, 0, none⟩) 1 1) 1 ([UInt8.ofNat (48 + u % 10)].map byteV) rfl hl1 ⟨g, 0, none⟩ bs.length c (bs.map byteV) rfl (by simp) hcs (byteV_one bs) (by omega) (by omega) (by have := hbr.size; simp; omega) ?_; intro v1 w1 hown1 hg1 hat1)
          obtain ⟨g', c', hv', hbg', hlt'⟩ := hown1.form (by omega)
          subst hv'
          have hbz : Below w.heap.size w w1 := (hbr.alloc hbr.size _).grown hg1 (Nat.le_trans hbr.size (by simp)) (fun k hk => Nat.le_trans hbr.size (Nat.le_of_eq (by simpa [Value.ownBlock] using hk)))
          have hown2 : OwnB w1 w.heap.size (.slice (some ⟨g', 0, none⟩) (UInt8.ofNat (48 + u % 10) :: bs).length c') (UInt8.ofNat (48 + u % 10) :: bs) := by unfold OwnB; rw [List.length_cons, Nat.add_comm]; exact hown1
          clear hown1 hl1 hcs
          go_roundw
          case rel => exact ⟨u / 10, UInt8.ofNat (48 + u % 10) :: bs, g', c', by omega, by congr 1, by rw [List.length_cons, Nat.add_comm], hown2, HN.out, hbz⟩
          case measure => simp [intOf]; omega
end Go.Proofs.YtgljafiegpjlkaaGreatDoor

namespace Go.Proofs.YtgljafiegpjlkaaGreatDoor
open Go.RowKit Go.Sort
/-- strconv's table stands in memory -/
def TB (w : World) : Prop := Lib.TabIs Tryz.prog w "internal/strconv.uint64pow10" .u64 Lib.pow10Tab
theorem TB.below {w w' : World} (h : TB w) (hb : Below w.heap.size w w') : TB w' := by
  unfold TB Lib.TabIs World.var? at *
  cases hg : Tryz.prog.globalNamed "internal/strconv.uint64pow10" with
  | none => rw [hg] at h; cases h
  | some g =>
    rw [hg] at h
    simp only [Option.bind_some] at h ⊢
    have hl : g < w.heap.size := by
      rcases Nat.lt_or_ge g w.heap.size with h1 | h1
      · exact h1
      · rw [Array.getElem?_eq_none h1] at h; cases h
    rw [hb.block g hl]; exact h
theorem cat_bytes (a b : List UInt8) : (⟨a.toArray⟩ : ByteArray) ++ (⟨b.toArray⟩ : ByteArray) = ⟨(a ++ b).toArray⟩ := by
  apply ByteArray.ext; simp
theorem dec_len (n : Int) (h0 : -9223372036854775808 ≤ n) (h1 : n ≤ 9223372036854775807) : (dec n).length ≤ 21 := Lib.itoa_length_le n h0 h1
theorem Decimal_any (n : Int) (w : World) (h0 : -9223372036854775808 ≤ n) (h1 : n ≤ 9223372036854775807) (ht : TB w) :
    Calls Tryz.prog 75 #[.int .i64 n] w fun e w' => e = .returned (.string ⟨(dec n).toArray⟩) ∧ Below w.heap.size w w' := by
  go_enter Tryz.func75, Tryz.ntmps75
  go_wp2_with (go_at_call 139; refine (Tryz.strconv_FormatInt_10 n h0 h1 _ ht).mono ?_; rintro e w' ⟨rfl, k, os, rfl⟩)
  go_ret
  exact ⟨rfl, by rw [show grow (w.drewN k) os = grow (redrawn w (w.drawn + k)) os from rfl]; exact below_regrown w _ _⟩
/-- the character of a digit -/
def dch (d : Int) : UInt8 := if d < 10 then UInt8.ofNat (48 + d.toNat) else UInt8.ofNat (87 + d.toNat)
def rtextL (b : Int) (ds : List Int) : List UInt8 := dec b ++ [58] ++ (ds.reverse.map dch)
def rtS (b : Int) (ds : List Int) : ByteArray := ⟨(rtextL b ds).toArray⟩
theorem rtS_nil (b : Int) : rtS b [] = (⟨(dec b).toArray⟩ : ByteArray) ++ (⟨#[58]⟩ : ByteArray) := by
  rw [show (#[58] : Array UInt8) = [58].toArray from rfl, cat_bytes]; simp [rtS, rtextL]
theorem rtS_step (b : Int) (ds : List Int) (k : Nat) (h : k < ds.length) : rtS b (ds.drop k) = rtS b (ds.drop (k + 1)) ++ (⟨[dch ds[k]].toArray⟩ : ByteArray) := by
  unfold rtS; rw [cat_bytes, List.drop_eq_getElem_cons h]; unfold rtextL; rw [List.reverse_cons, List.map_append, List.append_assoc (dec b ++ [58])]; rfl
theorem rtS_len (b : Int) (ds : List Int) : (rtS b ds).size = (dec b).length + 1 + ds.length := by
  unfold rtS rtextL; simp [ByteArray.size]; omega
theorem piece (d : Int) (h0 : 0 ≤ d) (h1 : d < 16) : (⟨#[48, 49, 50, 51, 52, 53, 54, 55, 56, 57, 97, 98, 99, 100, 101, 102]⟩ : ByteArray).extract d.toNat (d + 1).toNat = ⟨[dch d].toArray⟩ := by
  obtain ⟨m, rfl⟩ : ∃ m : Nat, d = (m : Int) := ⟨d.toNat, by omega⟩
  have hm : m < 16 := by omega
  have : ∀ m : Fin 16, (⟨#[48, 49, 50, 51, 52, 53, 54, 55, 56, 57, 97, 98, 99, 100, 101, 102]⟩ : ByteArray).extract ((m.val : Int)).toNat ((m.val : Int) + 1).toNat = ⟨[dch m.val].toArray⟩ := by decide
  exact this ⟨m, hm⟩
def rtext (r : Reg) : List UInt8 := if r.ok then rtextL r.base r.digits else []
set_option maxHeartbeats 800000 in
theorem RegisterText_any (b : Int) (A : Option Addr) (n c : Nat) (ds : List Int) (w : World) (hr : RI w A n ds) (hm : n ≤ 9223372036854775807) (ht : TB w) :
    Calls Tryz.prog 165 #[.agg #[.int .i64 b, .slice A n c]] w fun e w' => e = .returned (.string ⟨(rtext ⟨b, ds⟩).toArray⟩) ∧ Below w.heap.size w w' := by
  have HL := Lib.hid hr.1
  have hb0 : Below w.heap.size w (w.alloc (.cells #[.int .i64 b, .slice A n c] 59)) := (Below.refl _ _).alloc (Nat.le_refl _) _
  rcases hv : vreg b ds with _ | _
  · have HF : Hid (rtext ⟨b, ds⟩ = []) := by simp [Hid, rtext, Reg.ok, hv]
    go_enter Tryz.func165, Tryz.ntmps165
    go_wp2_with (go_at_call 207; refine (ValidRegister_any b A n c ds _ (hr.below hb0) (by omega)).mono ?_; rintro e w1 ⟨rfl, hw1⟩; rw [hv])
    go_ret
    exact ⟨ret_str (by rw [HF.out]), hb0.trans (hw1.mono (by simp))⟩
  · have HF : Hid (rtext ⟨b, ds⟩ = rtextL b ds) := by simp [Hid, rtext, Reg.ok, hv]
    obtain ⟨⟨hb1, hb2⟩, ⟨hl1, hl2⟩, hd, -⟩ := vreg_iff.1 hv
    go_enter Tryz.func165, Tryz.ntmps165
    go_wp2_with fail
    refine (ValidRegister_any b A n c ds _ (hr.below hb0) (by omega)).mono ?_; rintro e w1 ⟨rfl, hw1⟩; rw [hv]
    obtain ⟨hc1, -⟩ := bcellB (B := w.heap.size + 1) (hw1.mono (by simp))
    go_wp2_with fail
    refine (Decimal_any b _ (by omega) (by omega) ((ht.below hb0).below hw1)).mono ?_
    rintro e w2 ⟨rfl, hw2⟩
    have hW2 : Below (w.heap.size + 1) (w.alloc (.cells #[.int .i64 b, .slice A n c] 59)) w2 := (hw1.mono (by simp)).trans (hw2.mono (by have := hw1.size; simpa using this))
    obtain ⟨hc2, -⟩ := bcellB hW2
    clear hc1
    have hdl := dec_len b (by omega) (by omega)
    go_wp2_with fail
    go_loopw [3, 4] (fun v i wr => ∃ k : Nat, k ≤ n ∧ i = .int .i64 ((k : Int) - 1) ∧ v = .string (rtS b (ds.drop k)) ∧ Below (w.heap.size + 1) (w.alloc (.cells #[.int .i64 b, .slice A n c] 59)) wr) (fun _ i _ => (intOf i + 1).toNat)
    case atStart => exact ⟨n, Nat.le_refl _, rfl, by rw [List.drop_of_length_le (by have := HL.out; omega), rtS_nil], hW2⟩
    case round =>
      obtain ⟨k, hk, rfl, rfl, hbl⟩ := hrel
      clear hc2
      rcases Nat.eq_zero_or_pos k with hk0 | hk0
      · subst hk0
        go_wp2
        go_ret
        exact ⟨ret_str (by rw [HF.out]; rfl), hb0.trans (hbl.mono (by omega))⟩
      · obtain ⟨ad, hA, hlt, hkl, hc⟩ := hr.at_ (show k - 1 < n by omega)
        rw [← World.cell?_alloc_lt w (.cells #[.int .i64 b, .slice A n c] 59) (ad.add (k - 1)) (by rw [block_of_add]; omega), ← hbl.cell (by rw [block_of_add]; omega)] at hc
        have hb0' : wr.cell? ⟨w.heap.size, 0, none⟩ = some (.int .i64 b) := by rw [hbl.cell (by simp)]; go_simp
        have hb1' : wr.cell? ⟨w.heap.size, 1, none⟩ = some (.slice A n c) := by rw [hbl.cell (by simp)]; go_simp
        obtain ⟨hd0, hd1⟩ := hd ds[k-1] (List.getElem_mem _)
        have hll : (rtS b (ds.drop k)).size ≤ 40 := by rw [rtS_len]; simp; omega
        have HS : Hid (rtS b (ds.drop (k - 1)) = rtS b (ds.drop k) ++ (⟨[dch ds[k-1]].toArray⟩ : ByteArray)) := by
          have := rtS_step b ds (k - 1) hkl; rwa [show k - 1 + 1 = k by omega] at this
        subst hA
        go_wp2
        go_quiet (fail)
        go_wp2
        go_roundw
        case rel => exact ⟨k - 1, by omega, by congr 1; omega, by rw [HS.out, piece _ hd0 (by omega)], hbl.trans (below_drewN (Below.refl _ _) _)⟩
        case measure => simp [intOf]; omega
set_option maxHeartbeats 800000 in
theorem l02Text_any (p : Addr) (r : Reg) (w : World) (hp : RegM w p r) (hv : r.ok = true) (hpb : p.block < w.heap.size) :
    Calls Tryz.prog 245 #[.pointer (some p)] w fun e w' => e = .returned (.string ⟨(rtext r).toArray⟩) ∧ Below w.heap.size w w' := by
  obtain ⟨b, ds⟩ := r
  obtain ⟨A, c, ⟨hc0, hc1⟩, hr⟩ := hp
  simp only at hc0 hc1 hr
  have HF : Hid (rtext ⟨b, ds⟩ = rtextL b ds) := by simp [Hid, rtext, hv]
  obtain ⟨⟨hb1, hb2⟩, ⟨hl1, hl2⟩, hd, -⟩ := vreg_iff.1 hv
  obtain ⟨n, hn⟩ : ∃ n, n = ds.length := ⟨_, rfl⟩
  rw [← hn] at hc1 hr
  have HL := Lib.hid hn
  rw [← hn] at hl1 hl2
  clear hn
  go_enter Tryz.func245, Tryz.ntmps245
  go_wp2_with fail
  refine (l01Dec_any b _ (by omega) (by omega)).mono ?_
  rintro e w2 ⟨rfl, hw2⟩
  have hdl := dec_len b (by omega) (by omega)
  have hc0' : w2.cell? p = some (.int .i64 b) := by rw [hw2.cell hpb]; exact hc0
  have hc1' : w2.cell? ⟨p.block, p.off + 1, none⟩ = some (.slice A n c) := by rw [hw2.cell (by exact hpb)]; exact hc1
  go_wp2_with fail
  go_loopw [4, 5] (fun v i wr => ∃ k : Nat, k ≤ n ∧ i = .int .i64 ((k : Int) - 1) ∧ v = .string (rtS b (ds.drop k)) ∧ Below w.heap.size w wr) (fun _ i _ => (intOf i + 1).toNat)
  case atStart => exact ⟨n, Nat.le_refl _, rfl, by rw [List.drop_of_length_le (by have := HL.out; omega), rtS_nil], hw2⟩
  case round =>
    obtain ⟨k, hk, rfl, rfl, hbl⟩ := hrel
    clear hc0' hc1'
    rcases Nat.eq_zero_or_pos k with hk0 | hk0
    · subst hk0
      go_wp2
      go_ret
      exact ⟨ret_str (by rw [HF.out]; rfl), hbl⟩
    · obtain ⟨ad, hA, hlt, hkl, hc⟩ := hr.at_ (show k - 1 < n by omega)
      rw [← hbl.cell (by rw [block_of_add]; omega)] at hc
      have hc0' : wr.cell? p = some (.int .i64 b) := by rw [hbl.cell hpb]; exact hc0
      have hc1' : wr.cell? ⟨p.block, p.off + 1, none⟩ = some (.slice A n c) := by rw [hbl.cell (by exact hpb)]; exact hc1
      obtain ⟨hd0, hd1⟩ := hd ds[k-1] (List.getElem_mem _)
      have hll : (rtS b (ds.drop k)).size ≤ 40 := by rw [rtS_len]; have := HL.out; simp; omega
      have HS : Hid (rtS b (ds.drop (k - 1)) = rtS b (ds.drop k) ++ (⟨[dch ds[k-1]].toArray⟩ : ByteArray)) := by
        have := rtS_step b ds (k - 1) hkl; rwa [show k - 1 + 1 = k by omega] at this
      subst hA
      go_wp2
      go_quiet (fail)
      go_wp2
      go_roundw
      case rel => exact ⟨k - 1, by omega, by congr 1; omega, by rw [HS.out, piece _ hd0 (by omega)], hbl.trans (below_drewN (Below.refl _ _) _)⟩
      case measure => simp [intOf]; omega
end Go.Proofs.YtgljafiegpjlkaaGreatDoor

namespace Go.Proofs.YtgljafiegpjlkaaGreatDoor
open Go.RowKit Go.Sort
/-- the bytes of a string -/
def strB (s : ByteArray) : List UInt8 := s.data.toList
theorem strB_len (s : ByteArray) : (strB s).length = s.size := by simp [strB]
theorem strB_get (s : ByteArray) {k : Nat} (h : k < s.size) : s[k] = (strB s)[k]'(by rw [strB_len]; exact h) := by
  simp [strB]
  rfl
theorem strB_mk (bs : List UInt8) : strB ⟨bs.toArray⟩ = bs := by simp [strB]
theorem size_mk (bs : List UInt8) : (⟨bs.toArray⟩ : ByteArray).size = bs.length := by simp [ByteArray.size]
theorem strB_drop (s : ByteArray) (k : Nat) : strB (s.extract k s.size) = (strB s).drop k := by
  have h : (s.extract k s.size).data = s.data.extract k s.size := by simp
  unfold strB
  rw [h, Array.toList_extract, List.extract_eq_take_drop]
  rw [List.take_of_length_le]
  rw [List.length_drop, Array.length_toList]
  exact Nat.le_refl _
theorem size_zero {s : ByteArray} (h : s.size = 0) : s = ⟨#[]⟩ := by
  cases s with
  | mk a =>
    congr 1
    exact Array.eq_empty_of_size_eq_zero h
theorem str_nonempty {s : ByteArray} (h : 0 < s.size) : s.toList.isEmpty = false := by
  rw [ByteArray.toList_eq]
  cases he : s.data.toList with
  | nil =>
    have : s.data.toList.length = 0 := by rw [he]; rfl
    have h2 : s.data.toList.length = s.size := by rw [Array.length_toList]; rfl
    omega
  | cons a l => rfl
theorem strB_cons {s : ByteArray} (h : 0 < s.size) : strB s = s[0] :: (strB s).drop 1 := by
  have h1 : 0 < (strB s).length := by rw [strB_len]; exact h
  have h2 := strB_get s h
  rw [h2]
  have h3 := List.drop_eq_getElem_cons (l := strB s) (i := 0) h1
  simpa using h3
theorem strB_nil {s : ByteArray} (h : s.size = 0) : strB s = [] := by
  apply List.eq_nil_of_length_eq_zero; rw [strB_len]; exact h
theorem str_eq {s : ByteArray} {bs : List UInt8} : (⟨bs.toArray⟩ : ByteArray) = s ↔ bs = strB s := by
  constructor
  · intro h; rw [← h]; simp [strB]
  · intro h; rw [h]; cases s; simp [strB]
theorem strB_toList (s : ByteArray) : s.toList = strB s := by rw [ByteArray.toList_eq]; rfl
theorem strB_tail {s : ByteArray} : strB (s.extract 1 s.size) = (strB s).drop 1 := strB_drop s 1
theorem extract_size (s : ByteArray) (k : Nat) : (s.extract k s.size).size = s.size - k := by simp [ByteArray.size_extract]
theorem strB_extract (s : ByteArray) (i j : Nat) : strB (s.extract i j) = ((strB s).drop i).take (j - i) := by
  have h : (s.extract i j).data = s.data.extract i j := by simp
  unfold strB
  rw [h, Array.toList_extract, List.extract_eq_take_drop]
theorem strB_getD (s : ByteArray) {k : Nat} (h : k < s.size) : (strB s).getD k 0 = s[k] := by
  rw [strB_get s h]; simp [List.getD, List.getElem?_eq_getElem (show k < (strB s).length by rw [strB_len]; exact h)]
theorem wrapI {n : Int} (h : -9223372036854775808 ≤ n ∧ n ≤ 9223372036854775807) : IntKind.i64.wrap n = n := by
  rw [IntKind.wrap_i64]; omega
theorem wrapB {n : Int} (h : 0 ≤ n ∧ n < 256) : IntKind.u8.wrap n = n := by
  simp [IntKind.wrap, IntKind.bits, IntKind.signed]; omega
theorem wrap64_of {n : Int} (h : -9223372036854775808 ≤ n ∧ n ≤ 9223372036854775807) : wrap64 n = n := by unfold wrap64; omega
end Go.Proofs.YtgljafiegpjlkaaGreatDoor

namespace Go.Proofs.YtgljafiegpjlkaaGreatDoor
open Go.RowKit Go.Sort
def isD (b : UInt8) : Bool := decide (48 ≤ b.toNat ∧ b.toNat ≤ 57)
def foldD (l : List UInt8) : Nat := l.foldl (fun a b => 10 * a + (b.toNat - 48)) 0
def signOff : List UInt8 → List UInt8
  | [] => []
  | b :: tl => if b.toNat = 45 then tl else b :: tl
/-- the number that decimal digits say -/
def numOf (bs : List UInt8) : Int := if (signOff bs).length < bs.length then -(foldD (signOff bs) : Int) else (foldD (signOff bs) : Int)
def rdDec (bs : List UInt8) : Option Int := if decide (1 ≤ (signOff bs).length ∧ (signOff bs).length ≤ 18) && (signOff bs).all isD && decide (dec (numOf bs) = bs) then some (numOf bs) else none
theorem foldD_snoc (l : List UInt8) (b : UInt8) : foldD (l ++ [b]) = 10 * foldD l + (b.toNat - 48) := by simp [foldD]
theorem foldD_acc (l : List UInt8) (h : l.all isD = true) : ∀ acc : Nat, l.foldl (fun a b => 10 * a + (b.toNat - 48)) acc < (acc + 1) * 10 ^ l.length := by
  induction l with
  | nil => intro acc; simp
  | cons b l ih =>
    intro acc
    rw [List.all_cons, Bool.and_eq_true] at h
    have h3 := of_decide_eq_true (show decide (48 ≤ b.toNat ∧ b.toNat ≤ 57) = true from h.1)
    have h1 := ih h.2 (10 * acc + (b.toNat - 48))
    rw [List.foldl_cons, List.length_cons, Nat.pow_succ]
    have h4 : (10 * acc + (b.toNat - 48) + 1) * 10 ^ l.length ≤ (10 * (acc + 1)) * 10 ^ l.length := Nat.mul_le_mul_right _ (by omega)
    have h5 : 10 * (acc + 1) * 10 ^ l.length = (acc + 1) * (10 ^ l.length * 10) := by rw [Nat.mul_comm 10 (acc + 1), Nat.mul_assoc, Nat.mul_comm 10]
    omega
theorem foldD_bd (l : List UInt8) (h : l.all isD = true) : foldD l < 10 ^ l.length := by
  have := foldD_acc l h 0
  simpa [foldD] using this
theorem all_take {l : List UInt8} {k : Nat} (h : k < l.length) : (l.take (k + 1)).all isD = ((l.take k).all isD && isD l[k]) := by
  rw [List.take_succ_eq_append_getElem h, List.all_append]; simp
theorem isDigit_any (z : Nat) (b : UInt8) (hb : b.toNat = z) (w : World) : Calls Tryz.prog 140 #[.int .u8 (z : Int)] w fun e w' => e = .returned (.bool (isD b)) ∧ w = w' := by
  by_cases h1 : 48 ≤ z
  · by_cases h2 : z ≤ 57
    · have i1 : (48 : Int) ≤ (z : Int) := by omega
      have i2 : (z : Int) ≤ 57 := by omega
      have HD : Hid (isD b = true) := by simp only [Hid, isD, hb]; exact decide_eq_true ⟨h1, h2⟩
      go_enter Tryz.func140, Tryz.ntmps140
      go_wp2_with fail
      go_ret
      exact ⟨ret_bool HD.out.symm, rfl⟩
    · have i1 : (48 : Int) ≤ (z : Int) := by omega
      have i2 : ¬ (z : Int) ≤ 57 := by omega
      have HD : Hid (isD b = false) := by simp only [Hid, isD, hb]; exact decide_eq_false (by omega)
      go_enter Tryz.func140, Tryz.ntmps140
      go_wp2_with fail
      go_ret
      exact ⟨ret_bool HD.out.symm, rfl⟩
  · have i1 : ¬ (48 : Int) ≤ (z : Int) := by omega
    have HD : Hid (isD b = false) := by simp only [Hid, isD, hb]; exact decide_eq_false (by omega)
    go_enter Tryz.func140, Tryz.ntmps140
    go_wp2_with fail
    go_ret
    exact ⟨ret_bool HD.out.symm, rfl⟩
theorem l01Digit_any (z : Nat) (b : UInt8) (hb : b.toNat = z) (w : World) : Calls Tryz.prog 141 #[.int .u8 (z : Int)] w fun e w' => e = .returned (.bool (isD b)) ∧ w = w' := by
  by_cases h1 : 48 ≤ z
  · by_cases h2 : z ≤ 57
    · have i1 : (48 : Int) ≤ (z : Int) := by omega
      have i2 : (z : Int) ≤ 57 := by omega
      have HD : Hid (isD b = true) := by simp only [Hid, isD, hb]; exact decide_eq_true ⟨h1, h2⟩
      go_enter Tryz.func141, Tryz.ntmps141
      go_wp2_with fail
      go_ret
      exact ⟨ret_bool HD.out.symm, rfl⟩
    · have i1 : (48 : Int) ≤ (z : Int) := by omega
      have i2 : ¬ (z : Int) ≤ 57 := by omega
      have HD : Hid (isD b = false) := by simp only [Hid, isD, hb]; exact decide_eq_false (by omega)
      go_enter Tryz.func141, Tryz.ntmps141
      go_wp2_with fail
      go_ret
      exact ⟨ret_bool HD.out.symm, rfl⟩
  · have i1 : ¬ (48 : Int) ≤ (z : Int) := by omega
    have HD : Hid (isD b = false) := by simp only [Hid, isD, hb]; exact decide_eq_false (by omega)
    go_enter Tryz.func141, Tryz.ntmps141
    go_wp2_with fail
    go_ret
    exact ⟨ret_bool HD.out.symm, rfl⟩
theorem rdDec_len {bs : List UInt8} (h : ¬ (1 ≤ (signOff bs).length ∧ (signOff bs).length ≤ 18)) : rdDec bs = none := by
  unfold rdDec; rw [decide_eq_false h]; rfl
theorem rdDec_all {bs : List UInt8} (h : (signOff bs).all isD = false) : rdDec bs = none := by
  unfold rdDec; rw [h]; simp
def rdN (bs : List UInt8) : Int := (rdDec bs).getD 0
theorem rd_none {bs : List UInt8} (h : rdDec bs = none) : rdN bs = 0 ∧ (rdDec bs).isSome = false := by simp [rdN, h]
theorem rd_some {bs : List UInt8} {n : Int} (h : rdDec bs = some n) : rdN bs = n ∧ (rdDec bs).isSome = true := by simp [rdN, h]
set_option maxRecDepth 100000 in
set_option maxHeartbeats 1600000 in
theorem l01Number_any (s : ByteArray) (w : World) (hs : s.size ≤ 9223372036854775807) :
    Calls Tryz.prog 84 #[.string s] w fun e w' => e = .returned (.tuple #[.int .i64 (rdN (strB s)), .bool (rdDec (strB s)).isSome]) ∧ Below w.heap.size w w' := by
  by_cases h0 : 0 < s.size
  · have hE := str_nonempty h0
    have hc := strB_cons h0
    obtain ⟨b, hb⟩ : ∃ b, s[0] = b := ⟨_, rfl⟩
    rw [hb] at hc
    obtain ⟨z0, hz0⟩ : ∃ z : Nat, b.toNat = z := ⟨_, rfl⟩
    have i0 : (0 : Int) < (s.size : Int) := by omega
    by_cases h45 : z0 = 45
    · have i2 : ((z0 : Int) == 45) = true := by rw [beq_iff_eq]; omega
      obtain ⟨x, hx⟩ : ∃ x, s.extract 1 s.size = x := ⟨_, rfl⟩
      have HXB : Hid (strB x = signOff (strB s)) := by
        simp only [Hid]; rw [← hx, strB_tail, hc]; simp only [signOff]; rw [hz0, if_pos h45]; rfl
      have hxs : x.size = s.size - 1 := by rw [← hx, extract_size]
      have HC := Lib.hid hc
      have i1 : (1 : Int) ≤ (s.size : Int) := by omega
      have i5 : (x.size : Int) < (s.size : Int) := by omega
      by_cases hx0 : 0 < x.size
      · have j0 : ((x.size : Int) == 0) = false := by rw [beq_eq_false_iff_ne]; omega
        have j1 : ¬ (x.size : Int) < 1 := by omega
        have HX := Lib.hid hx
        clear hc hxs
        go_enter Tryz.func84, Tryz.ntmps84
        have HXL := Lib.hid (show (strB x).length = x.size from strB_len x)
        by_cases h18 : x.size ≤ 18
        · go_wp2_with fail
          go_loopw [5, 6] (fun nn ii wr => ∃ k : Nat, k ≤ x.size ∧ ii = .int .i64 k ∧ nn = .int .i64 (foldD ((strB x).take k) : Int) ∧ ((strB x).take k).all isD = true ∧ w = wr) (fun _ i _ => x.size - (intOf i).toNat)
          case atStart => exact ⟨0, Nat.zero_le _, rfl, rfl, rfl, rfl⟩
          case round =>
            obtain ⟨k, hk, rfl, rfl, hall, rfl⟩ := hrel
            have hbd := foldD_bd _ hall
            rw [List.length_take] at hbd
            have hp : 10 ^ (min k (strB x).length) ≤ 10 ^ 18 := Nat.pow_le_pow_right (by omega) (by have := HXL.out; omega)
            have HA := Lib.hid hall
            obtain ⟨N, hN⟩ : ∃ N, foldD ((strB x).take k) = N := ⟨_, rfl⟩
            have HN := Lib.hid hN
            have hN2 : N < 1000000000000000000 := by rw [← hN]; exact Nat.lt_of_lt_of_le hbd (Nat.le_trans hp (by decide))
            have HB := Lib.hid (show N < 10 ^ (min k (strB x).length) by rw [← hN]; exact hbd)
            rw [hN]
            clear hall hbd hp hN
            by_cases hkn : k < x.size
            · obtain ⟨q, hq⟩ : ∃ q : UInt8, x[k] = q := ⟨_, rfl⟩
              obtain ⟨z, hz⟩ : ∃ z : Nat, q.toNat = z := ⟨_, rfl⟩
              have hz2 : z < 256 := by rw [← hz]; exact q.toNat_lt
              have hkl : k < (strB x).length := by rw [HXL.out]; exact hkn
              have hg : (strB x)[k] = q := by rw [← hq, strB_get x hkn]
              have HT := Lib.hid (all_take hkl)
              have HF := Lib.hid (List.take_succ_eq_append_getElem hkl)
              have HNOT := Lib.hid (fun (h1 : isD (strB x)[k] = false) => all_not (p := isD) hkl h1)
              rw [hg] at HT HF HNOT
              have i0 : (0 : Int) ≤ (k : Int) := by omega
              have i1 : (k : Int) < (x.size : Int) := by omega
              have HZ := Lib.hid hz
              have hN3 : N < 100000000000000000 := Nat.lt_of_lt_of_le HB.out (Nat.le_trans (Nat.pow_le_pow_right (n := 10) (by omega) (show min k (strB x).length ≤ 17 by omega)) (by decide))
              rcases hd : isD q with _ | _
              · have HU := Lib.hid (rd_none (bs := strB s) (rdDec_all (by rw [← HXB.out]; exact HNOT.out hd)))
                have KD := Lib.hid (fun W => calls_val (l01Digit_any z q hz W) (congrArg Value.bool hd))
                clear hd hg
                go_wp2_with (go_at_call 141; refine (KD.out _).mono ?_; rintro e w' ⟨rfl, rfl⟩)
                go_ret2
                exact ⟨by rw [HU.out.1, HU.out.2] <;> rfl, Below.refl _ _⟩
              · have KD := Lib.hid (fun W => calls_val (l01Digit_any z q hz W) (congrArg Value.bool hd))
                have hz3 := of_decide_eq_true (show decide (48 ≤ q.toNat ∧ q.toNat ≤ 57) = true from hd)
                rw [hz] at hz3
                have y1 : IntKind.u8.wrap ((z : Int) - 48) = (z : Int) - 48 := wrapB (by omega)
                have y2 : wrap64 (10 * (N : Int)) = 10 * (N : Int) := wrap64_of (by omega)
                have y3 : wrap64 (10 * (N : Int) + ((z : Int) - 48)) = 10 * (N : Int) + ((z : Int) - 48) := wrap64_of (by omega)
                have HD := Lib.hid hd
                clear hd hg
                go_wp2_with (go_at_call 141; refine (KD.out _).mono ?_; rintro e w' ⟨rfl, rfl⟩)
                go_roundw
                case rel => exact ⟨k + 1, by omega, by go_num, by rw [HF.out, foldD_snoc, HN.out, HZ.out]; congr 1; omega, by rw [HT.out, HA.out, HD.out]; rfl, by first | rfl | trivial⟩
                case measure => simp [intOf]; omega
            · have HK : Hid ((strB x).take k = strB x) := List.take_of_length_le (by have := HXL.out; omega)
              have HFN : Hid (foldD (signOff (strB s)) = N) := by simp only [Hid]; rw [← HXB.out, ← HK.out]; exact HN.out
              have HAL : Hid ((signOff (strB s)).all isD = true) := by simp only [Hid]; rw [← HXB.out, ← HK.out]; exact HA.out
              have HLE : Hid (1 ≤ (signOff (strB s)).length ∧ (signOff (strB s)).length ≤ 18) := by simp only [Hid]; rw [← HXB.out, HXL.out]; omega
              have HSL := Lib.hid (strB_len s)
              obtain ⟨v, hv⟩ : ∃ v, v = -(N : Int) := ⟨_, rfl⟩; have hvb : -9223372036854775808 ≤ v ∧ v ≤ 9223372036854775807 := (by omega); have HNU : Hid (numOf (strB s) = v) := (by simp only [Hid, numOf]; rw [HFN.out, hv, if_pos (by rw [← HXB.out, HXL.out, HSL.out]; omega)]); rw [show (0 : Int) = 0 from rfl]; have hv' := hv.symm; clear hv
              have HRD : Hid (rdDec (strB s) = if decide (dec v = strB s) then some v else none) := by
                simp only [Hid, rdDec]; rw [HAL.out, decide_eq_true HLE.out, HNU.out]; simp
              have i9 : ¬ (k : Int) < (x.size : Int) := by omega
              rcases hq : (dec v == s.toList) with _ | _
              · have HU := Lib.hid (rd_none (bs := strB s) (by rw [HRD.out]; rw [strB_toList, beq_eq_false_iff_ne] at hq; simp [hq]))
                go_wp2_with fail
                refine (l01Dec_any v w hvb.1 hvb.2).mono ?_; rintro e w' ⟨rfl, hwd⟩
                go_wp2_with fail
                go_ret2
                exact ⟨by rw [HU.out.1, HU.out.2] <;> rfl, hwd⟩
              · have HU := Lib.hid (rd_some (bs := strB s) (n := v) (by rw [HRD.out]; rw [strB_toList, beq_iff_eq] at hq; simp [hq]))
                go_wp2_with fail
                refine (l01Dec_any v w hvb.1 hvb.2).mono ?_; rintro e w' ⟨rfl, hwd⟩
                go_wp2_with fail
                go_ret2
                exact ⟨by rw [HU.out.1, HU.out.2] <;> rfl, hwd⟩
        · have HU := Lib.hid (rd_none (bs := strB s) (rdDec_len (by rw [← HXB.out, HXL.out]; omega)))
          have i3 : (18 : Int) < (x.size : Int) := by omega
          go_wp2_with fail
          go_ret2
          exact ⟨by rw [HU.out.1, HU.out.2] <;> rfl, Below.refl _ _⟩
      · have HU := Lib.hid (rd_none (bs := strB s) (rdDec_len (by rw [← HXB.out, strB_len]; omega)))
        have hxz := size_zero (show x.size = 0 by omega)
        subst hxz
        clear hc
        go_enter Tryz.func84, Tryz.ntmps84
        go_wp2_with fail
        go_ret2
        exact ⟨by rw [HU.out.1, HU.out.2] <;> rfl, Below.refl _ _⟩
    · have i2 : ((z0 : Int) == 45) = false := by rw [beq_eq_false_iff_ne]; omega
      have HXB : Hid (strB s = signOff (strB s)) := by
        simp only [Hid]; rw [hc]; simp only [signOff]; rw [hz0, if_neg h45]
      have j0 : ((s.size : Int) == 0) = false := by rw [beq_eq_false_iff_ne]; omega
      have j1 : ¬ (s.size : Int) < 1 := by omega
      have i5 : ¬ (s.size : Int) < (s.size : Int) := by omega
      clear hc
      go_enter Tryz.func84, Tryz.ntmps84
      have HXL := Lib.hid (show (strB s).length = s.size from strB_len s)
      by_cases h18 : s.size ≤ 18
      · go_wp2_with fail
        go_loopw [5, 6] (fun nn ii wr => ∃ k : Nat, k ≤ s.size ∧ ii = .int .i64 k ∧ nn = .int .i64 (foldD ((strB s).take k) : Int) ∧ ((strB s).take k).all isD = true ∧ w = wr) (fun _ i _ => s.size - (intOf i).toNat)
        case atStart => exact ⟨0, Nat.zero_le _, rfl, rfl, rfl, rfl⟩
        case round =>
          obtain ⟨k, hk, rfl, rfl, hall, rfl⟩ := hrel
          have hbd := foldD_bd _ hall
          rw [List.length_take] at hbd
          have hp : 10 ^ (min k (strB s).length) ≤ 10 ^ 18 := Nat.pow_le_pow_right (by omega) (by have := HXL.out; omega)
          have HA := Lib.hid hall
          obtain ⟨N, hN⟩ : ∃ N, foldD ((strB s).take k) = N := ⟨_, rfl⟩
          have HN := Lib.hid hN
          have hN2 : N < 1000000000000000000 := by rw [← hN]; exact Nat.lt_of_lt_of_le hbd (Nat.le_trans hp (by decide))
          have HB := Lib.hid (show N < 10 ^ (min k (strB s).length) by rw [← hN]; exact hbd)
          rw [hN]
          clear hall hbd hp hN
          by_cases hkn : k < s.size
          · obtain ⟨q, hq⟩ : ∃ q : UInt8, s[k] = q := ⟨_, rfl⟩
            obtain ⟨z, hz⟩ : ∃ z : Nat, q.toNat = z := ⟨_, rfl⟩
            have hz2 : z < 256 := by rw [← hz]; exact q.toNat_lt
            have hkl : k < (strB s).length := by rw [HXL.out]; exact hkn
            have hg : (strB s)[k] = q := by rw [← hq, strB_get s hkn]
            have HT := Lib.hid (all_take hkl)
            have HF := Lib.hid (List.take_succ_eq_append_getElem hkl)
            have HNOT := Lib.hid (fun (h1 : isD (strB s)[k] = false) => all_not (p := isD) hkl h1)
            rw [hg] at HT HF HNOT
            have i0 : (0 : Int) ≤ (k : Int) := by omega
            have i1 : (k : Int) < (s.size : Int) := by omega
            have HZ := Lib.hid hz
            have hN3 : N < 100000000000000000 := Nat.lt_of_lt_of_le HB.out (Nat.le_trans (Nat.pow_le_pow_right (n := 10) (by omega) (show min k (strB s).length ≤ 17 by omega)) (by decide))
            rcases hd : isD q with _ | _
            · have HU := Lib.hid (rd_none (bs := strB s) (rdDec_all (by rw [← HXB.out]; exact HNOT.out hd)))
              have KD := Lib.hid (fun W => calls_val (l01Digit_any z q hz W) (congrArg Value.bool hd))
              clear hd hg
              go_wp2_with (go_at_call 141; refine (KD.out _).mono ?_; rintro e w' ⟨rfl, rfl⟩)
              go_ret2
              exact ⟨by rw [HU.out.1, HU.out.2] <;> rfl, Below.refl _ _⟩
            · have KD := Lib.hid (fun W => calls_val (l01Digit_any z q hz W) (congrArg Value.bool hd))
              have hz3 := of_decide_eq_true (show decide (48 ≤ q.toNat ∧ q.toNat ≤ 57) = true from hd)
              rw [hz] at hz3
              have y1 : IntKind.u8.wrap ((z : Int) - 48) = (z : Int) - 48 := wrapB (by omega)
              have y2 : wrap64 (10 * (N : Int)) = 10 * (N : Int) := wrap64_of (by omega)
              have y3 : wrap64 (10 * (N : Int) + ((z : Int) - 48)) = 10 * (N : Int) + ((z : Int) - 48) := wrap64_of (by omega)
              have HD := Lib.hid hd
              clear hd hg
              go_wp2_with (go_at_call 141; refine (KD.out _).mono ?_; rintro e w' ⟨rfl, rfl⟩)
              go_roundw
              case rel => exact ⟨k + 1, by omega, by go_num, by rw [HF.out, foldD_snoc, HN.out, HZ.out]; congr 1; omega, by rw [HT.out, HA.out, HD.out]; rfl, by first | rfl | trivial⟩
              case measure => simp [intOf]; omega
          · have HK : Hid ((strB s).take k = strB s) := List.take_of_length_le (by have := HXL.out; omega)
            have HFN : Hid (foldD (signOff (strB s)) = N) := by simp only [Hid]; rw [← HXB.out, ← HK.out]; exact HN.out
            have HAL : Hid ((signOff (strB s)).all isD = true) := by simp only [Hid]; rw [← HXB.out, ← HK.out]; exact HA.out
            have HLE : Hid (1 ≤ (signOff (strB s)).length ∧ (signOff (strB s)).length ≤ 18) := by simp only [Hid]; rw [← HXB.out, HXL.out]; omega
            have HSL := Lib.hid (strB_len s)
            obtain ⟨v, hv⟩ : ∃ v, v = (N : Int) := ⟨_, rfl⟩; have hvb : -9223372036854775808 ≤ v ∧ v ≤ 9223372036854775807 := (by omega); have HNU : Hid (numOf (strB s) = v) := (by simp only [Hid, numOf]; rw [HFN.out, hv, if_neg (by rw [← HXB.out]; omega)]); have hv' := hv.symm; clear hv
            have HRD : Hid (rdDec (strB s) = if decide (dec v = strB s) then some v else none) := by
              simp only [Hid, rdDec]; rw [HAL.out, decide_eq_true HLE.out, HNU.out]; simp
            have i9 : ¬ (k : Int) < (s.size : Int) := by omega
            rcases hq : (dec v == s.toList) with _ | _
            · have HU := Lib.hid (rd_none (bs := strB s) (by rw [HRD.out]; rw [strB_toList, beq_eq_false_iff_ne] at hq; simp [hq]))
              go_wp2_with fail
              refine (l01Dec_any v w hvb.1 hvb.2).mono ?_; rintro e w' ⟨rfl, hwd⟩
              go_wp2_with fail
              go_ret2
              exact ⟨by rw [HU.out.1, HU.out.2] <;> rfl, hwd⟩
            · have HU := Lib.hid (rd_some (bs := strB s) (n := v) (by rw [HRD.out]; rw [strB_toList, beq_iff_eq] at hq; simp [hq]))
              go_wp2_with fail
              refine (l01Dec_any v w hvb.1 hvb.2).mono ?_; rintro e w' ⟨rfl, hwd⟩
              go_wp2_with fail
              go_ret2
              exact ⟨by rw [HU.out.1, HU.out.2] <;> rfl, hwd⟩
      · have HU := Lib.hid (rd_none (bs := strB s) (rdDec_len (by rw [← HXB.out, HXL.out]; omega)))
        have i3 : (18 : Int) < (s.size : Int) := by omega
        go_wp2_with fail
        go_ret2
        exact ⟨by rw [HU.out.1, HU.out.2] <;> rfl, Below.refl _ _⟩
  · obtain rfl := size_zero (show s.size = 0 by omega)
    have HU := Lib.hid (rd_none (bs := strB ⟨#[]⟩) (by rfl))
    go_enter Tryz.func84, Tryz.ntmps84
    go_wp2_with fail
    go_ret2
    exact ⟨by rw [HU.out.1, HU.out.2] <;> rfl, Below.refl _ _⟩
set_option maxRecDepth 100000 in
set_option maxHeartbeats 1600000 in
theorem ReadDecimal_any (s : ByteArray) (w : World) (hs : s.size ≤ 9223372036854775807)(ht : TB w) :
    Calls Tryz.prog 78 #[.string s] w fun e w' => e = .returned (.tuple #[.int .i64 (rdN (strB s)), .bool (rdDec (strB s)).isSome]) ∧ Below w.heap.size w w' := by
  by_cases h0 : 0 < s.size
  · have hE := str_nonempty h0
    have hc := strB_cons h0
    obtain ⟨b, hb⟩ : ∃ b, s[0] = b := ⟨_, rfl⟩
    rw [hb] at hc
    obtain ⟨z0, hz0⟩ : ∃ z : Nat, b.toNat = z := ⟨_, rfl⟩
    have i0 : (0 : Int) < (s.size : Int) := by omega
    by_cases h45 : z0 = 45
    · have i2 : ((z0 : Int) == 45) = true := by rw [beq_iff_eq]; omega
      obtain ⟨x, hx⟩ : ∃ x, s.extract 1 s.size = x := ⟨_, rfl⟩
      have HXB : Hid (strB x = signOff (strB s)) := by
        simp only [Hid]; rw [← hx, strB_tail, hc]; simp only [signOff]; rw [hz0, if_pos h45]; rfl
      have hxs : x.size = s.size - 1 := by rw [← hx, extract_size]
      have HC := Lib.hid hc
      have i1 : (1 : Int) ≤ (s.size : Int) := by omega
      have i5 : (x.size : Int) < (s.size : Int) := by omega
      by_cases hx0 : 0 < x.size
      · have j0 : ((x.size : Int) == 0) = false := by rw [beq_eq_false_iff_ne]; omega
        have j1 : ¬ (x.size : Int) < 1 := by omega
        have HX := Lib.hid hx
        clear hc hxs
        go_enter Tryz.func78, Tryz.ntmps78
        have HXL := Lib.hid (show (strB x).length = x.size from strB_len x)
        by_cases h18 : x.size ≤ 18
        · go_wp2_with fail
          go_loopw [5, 28] (fun nn ii wr => ∃ k : Nat, k ≤ x.size ∧ ii = .int .i64 k ∧ nn = .int .i64 (foldD ((strB x).take k) : Int) ∧ ((strB x).take k).all isD = true ∧ w = wr) (fun _ i _ => x.size - (intOf i).toNat)
          case atStart => exact ⟨0, Nat.zero_le _, rfl, rfl, rfl, rfl⟩
          case round =>
            obtain ⟨k, hk, rfl, rfl, hall, rfl⟩ := hrel
            have hbd := foldD_bd _ hall
            rw [List.length_take] at hbd
            have hp : 10 ^ (min k (strB x).length) ≤ 10 ^ 18 := Nat.pow_le_pow_right (by omega) (by have := HXL.out; omega)
            have HA := Lib.hid hall
            obtain ⟨N, hN⟩ : ∃ N, foldD ((strB x).take k) = N := ⟨_, rfl⟩
            have HN := Lib.hid hN
            have hN2 : N < 1000000000000000000 := by rw [← hN]; exact Nat.lt_of_lt_of_le hbd (Nat.le_trans hp (by decide))
            have HB := Lib.hid (show N < 10 ^ (min k (strB x).length) by rw [← hN]; exact hbd)
            rw [hN]
            clear hall hbd hp hN
            by_cases hkn : k < x.size
            · obtain ⟨q, hq⟩ : ∃ q : UInt8, x[k] = q := ⟨_, rfl⟩
              obtain ⟨z, hz⟩ : ∃ z : Nat, q.toNat = z := ⟨_, rfl⟩
              have hz2 : z < 256 := by rw [← hz]; exact q.toNat_lt
              have hkl : k < (strB x).length := by rw [HXL.out]; exact hkn
              have hg : (strB x)[k] = q := by rw [← hq, strB_get x hkn]
              have HT := Lib.hid (all_take hkl)
              have HF := Lib.hid (List.take_succ_eq_append_getElem hkl)
              have HNOT := Lib.hid (fun (h1 : isD (strB x)[k] = false) => all_not (p := isD) hkl h1)
              rw [hg] at HT HF HNOT
              have i0 : (0 : Int) ≤ (k : Int) := by omega
              have i1 : (k : Int) < (x.size : Int) := by omega
              have HZ := Lib.hid hz
              have hN3 : N < 100000000000000000 := Nat.lt_of_lt_of_le HB.out (Nat.le_trans (Nat.pow_le_pow_right (n := 10) (by omega) (show min k (strB x).length ≤ 17 by omega)) (by decide))
              rcases hd : isD q with _ | _
              · have HU := Lib.hid (rd_none (bs := strB s) (rdDec_all (by rw [← HXB.out]; exact HNOT.out hd)))
                have KD := Lib.hid (fun W => calls_val (isDigit_any z q hz W) (congrArg Value.bool hd))
                clear hd hg
                go_wp2_with (go_at_call 140; refine (KD.out _).mono ?_; rintro e w' ⟨rfl, rfl⟩)
                go_ret2
                exact ⟨by rw [HU.out.1, HU.out.2] <;> rfl, Below.refl _ _⟩
              · have KD := Lib.hid (fun W => calls_val (isDigit_any z q hz W) (congrArg Value.bool hd))
                have hz3 := of_decide_eq_true (show decide (48 ≤ q.toNat ∧ q.toNat ≤ 57) = true from hd)
                rw [hz] at hz3
                have y1 : IntKind.u8.wrap ((z : Int) - 48) = (z : Int) - 48 := wrapB (by omega)
                have y2 : wrap64 (10 * (N : Int)) = 10 * (N : Int) := wrap64_of (by omega)
                have y3 : wrap64 (10 * (N : Int) + ((z : Int) - 48)) = 10 * (N : Int) + ((z : Int) - 48) := wrap64_of (by omega)
                have HD := Lib.hid hd
                clear hd hg
                go_wp2_with (go_at_call 140; refine (KD.out _).mono ?_; rintro e w' ⟨rfl, rfl⟩)
                go_roundw
                case rel => exact ⟨k + 1, by omega, by go_num, by rw [HF.out, foldD_snoc, HN.out, HZ.out]; congr 1; omega, by rw [HT.out, HA.out, HD.out]; rfl, by first | rfl | trivial⟩
                case measure => simp [intOf]; omega
            · have HK : Hid ((strB x).take k = strB x) := List.take_of_length_le (by have := HXL.out; omega)
              have HFN : Hid (foldD (signOff (strB s)) = N) := by simp only [Hid]; rw [← HXB.out, ← HK.out]; exact HN.out
              have HAL : Hid ((signOff (strB s)).all isD = true) := by simp only [Hid]; rw [← HXB.out, ← HK.out]; exact HA.out
              have HLE : Hid (1 ≤ (signOff (strB s)).length ∧ (signOff (strB s)).length ≤ 18) := by simp only [Hid]; rw [← HXB.out, HXL.out]; omega
              have HSL := Lib.hid (strB_len s)
              obtain ⟨v, hv⟩ : ∃ v, v = -(N : Int) := ⟨_, rfl⟩; have hvb : -9223372036854775808 ≤ v ∧ v ≤ 9223372036854775807 := (by omega); have HNU : Hid (numOf (strB s) = v) := (by simp only [Hid, numOf]; rw [HFN.out, hv, if_pos (by rw [← HXB.out, HXL.out, HSL.out]; omega)]); rw [show (0 : Int) = 0 from rfl]; have hv' := hv.symm; clear hv
              have HRD : Hid (rdDec (strB s) = if decide (dec v = strB s) then some v else none) := by
                simp only [Hid, rdDec]; rw [HAL.out, decide_eq_true HLE.out, HNU.out]; simp
              have i9 : ¬ (k : Int) < (x.size : Int) := by omega
              rcases hq : (dec v == s.toList) with _ | _
              · have HU := Lib.hid (rd_none (bs := strB s) (by rw [HRD.out]; rw [strB_toList, beq_eq_false_iff_ne] at hq; simp [hq]))
                go_wp2_with fail
                refine (Decimal_any v w hvb.1 hvb.2 ht).mono ?_; rintro e w' ⟨rfl, hwd⟩
                go_wp2_with fail
                go_ret2
                exact ⟨by rw [HU.out.1, HU.out.2] <;> rfl, hwd⟩
              · have HU := Lib.hid (rd_some (bs := strB s) (n := v) (by rw [HRD.out]; rw [strB_toList, beq_iff_eq] at hq; simp [hq]))
                go_wp2_with fail
                refine (Decimal_any v w hvb.1 hvb.2 ht).mono ?_; rintro e w' ⟨rfl, hwd⟩
                go_wp2_with fail
                go_ret2
                exact ⟨by rw [HU.out.1, HU.out.2] <;> rfl, hwd⟩
        · have HU := Lib.hid (rd_none (bs := strB s) (rdDec_len (by rw [← HXB.out, HXL.out]; omega)))
          have i3 : (18 : Int) < (x.size : Int) := by omega
          go_wp2_with fail
          go_ret2
          exact ⟨by rw [HU.out.1, HU.out.2] <;> rfl, Below.refl _ _⟩
      · have HU := Lib.hid (rd_none (bs := strB s) (rdDec_len (by rw [← HXB.out, strB_len]; omega)))
        have hxz := size_zero (show x.size = 0 by omega)
        subst hxz
        clear hc
        go_enter Tryz.func78, Tryz.ntmps78
        go_wp2_with fail
        go_ret2
        exact ⟨by rw [HU.out.1, HU.out.2] <;> rfl, Below.refl _ _⟩
    · have i2 : ((z0 : Int) == 45) = false := by rw [beq_eq_false_iff_ne]; omega
      have HXB : Hid (strB s = signOff (strB s)) := by
        simp only [Hid]; rw [hc]; simp only [signOff]; rw [hz0, if_neg h45]
      have j0 : ((s.size : Int) == 0) = false := by rw [beq_eq_false_iff_ne]; omega
      have j1 : ¬ (s.size : Int) < 1 := by omega
      have i5 : ¬ (s.size : Int) < (s.size : Int) := by omega
      clear hc
      go_enter Tryz.func78, Tryz.ntmps78
      have HXL := Lib.hid (show (strB s).length = s.size from strB_len s)
      by_cases h18 : s.size ≤ 18
      · go_wp2_with fail
        go_loopw [5, 28] (fun nn ii wr => ∃ k : Nat, k ≤ s.size ∧ ii = .int .i64 k ∧ nn = .int .i64 (foldD ((strB s).take k) : Int) ∧ ((strB s).take k).all isD = true ∧ w = wr) (fun _ i _ => s.size - (intOf i).toNat)
        case atStart => exact ⟨0, Nat.zero_le _, rfl, rfl, rfl, rfl⟩
        case round =>
          obtain ⟨k, hk, rfl, rfl, hall, rfl⟩ := hrel
          have hbd := foldD_bd _ hall
          rw [List.length_take] at hbd
          have hp : 10 ^ (min k (strB s).length) ≤ 10 ^ 18 := Nat.pow_le_pow_right (by omega) (by have := HXL.out; omega)
          have HA := Lib.hid hall
          obtain ⟨N, hN⟩ : ∃ N, foldD ((strB s).take k) = N := ⟨_, rfl⟩
          have HN := Lib.hid hN
          have hN2 : N < 1000000000000000000 := by rw [← hN]; exact Nat.lt_of_lt_of_le hbd (Nat.le_trans hp (by decide))
          have HB := Lib.hid (show N < 10 ^ (min k (strB s).length) by rw [← hN]; exact hbd)
          rw [hN]
          clear hall hbd hp hN
          by_cases hkn : k < s.size
          · obtain ⟨q, hq⟩ : ∃ q : UInt8, s[k] = q := ⟨_, rfl⟩
            obtain ⟨z, hz⟩ : ∃ z : Nat, q.toNat = z := ⟨_, rfl⟩
            have hz2 : z < 256 := by rw [← hz]; exact q.toNat_lt
            have hkl : k < (strB s).length := by rw [HXL.out]; exact hkn
            have hg : (strB s)[k] = q := by rw [← hq, strB_get s hkn]
            have HT := Lib.hid (all_take hkl)
            have HF := Lib.hid (List.take_succ_eq_append_getElem hkl)
            have HNOT := Lib.hid (fun (h1 : isD (strB s)[k] = false) => all_not (p := isD) hkl h1)
            rw [hg] at HT HF HNOT
            have i0 : (0 : Int) ≤ (k : Int) := by omega
            have i1 : (k : Int) < (s.size : Int) := by omega
            have HZ := Lib.hid hz
            have hN3 : N < 100000000000000000 := Nat.lt_of_lt_of_le HB.out (Nat.le_trans (Nat.pow_le_pow_right (n := 10) (by omega) (show min k (strB s).length ≤ 17 by omega)) (by decide))
            rcases hd : isD q with _ | _
            · have HU := Lib.hid (rd_none (bs := strB s) (rdDec_all (by rw [← HXB.out]; exact HNOT.out hd)))
              have KD := Lib.hid (fun W => calls_val (isDigit_any z q hz W) (congrArg Value.bool hd))
              clear hd hg
              go_wp2_with (go_at_call 140; refine (KD.out _).mono ?_; rintro e w' ⟨rfl, rfl⟩)
              go_ret2
              exact ⟨by rw [HU.out.1, HU.out.2] <;> rfl, Below.refl _ _⟩
            · have KD := Lib.hid (fun W => calls_val (isDigit_any z q hz W) (congrArg Value.bool hd))
              have hz3 := of_decide_eq_true (show decide (48 ≤ q.toNat ∧ q.toNat ≤ 57) = true from hd)
              rw [hz] at hz3
              have y1 : IntKind.u8.wrap ((z : Int) - 48) = (z : Int) - 48 := wrapB (by omega)
              have y2 : wrap64 (10 * (N : Int)) = 10 * (N : Int) := wrap64_of (by omega)
              have y3 : wrap64 (10 * (N : Int) + ((z : Int) - 48)) = 10 * (N : Int) + ((z : Int) - 48) := wrap64_of (by omega)
              have HD := Lib.hid hd
              clear hd hg
              go_wp2_with (go_at_call 140; refine (KD.out _).mono ?_; rintro e w' ⟨rfl, rfl⟩)
              go_roundw
              case rel => exact ⟨k + 1, by omega, by go_num, by rw [HF.out, foldD_snoc, HN.out, HZ.out]; congr 1; omega, by rw [HT.out, HA.out, HD.out]; rfl, by first | rfl | trivial⟩
              case measure => simp [intOf]; omega
          · have HK : Hid ((strB s).take k = strB s) := List.take_of_length_le (by have := HXL.out; omega)
            have HFN : Hid (foldD (signOff (strB s)) = N) := by simp only [Hid]; rw [← HXB.out, ← HK.out]; exact HN.out
            have HAL : Hid ((signOff (strB s)).all isD = true) := by simp only [Hid]; rw [← HXB.out, ← HK.out]; exact HA.out
            have HLE : Hid (1 ≤ (signOff (strB s)).length ∧ (signOff (strB s)).length ≤ 18) := by simp only [Hid]; rw [← HXB.out, HXL.out]; omega
            have HSL := Lib.hid (strB_len s)
            obtain ⟨v, hv⟩ : ∃ v, v = (N : Int) := ⟨_, rfl⟩; have hvb : -9223372036854775808 ≤ v ∧ v ≤ 9223372036854775807 := (by omega); have HNU : Hid (numOf (strB s) = v) := (by simp only [Hid, numOf]; rw [HFN.out, hv, if_neg (by rw [← HXB.out]; omega)]); have hv' := hv.symm; clear hv
            have HRD : Hid (rdDec (strB s) = if decide (dec v = strB s) then some v else none) := by
              simp only [Hid, rdDec]; rw [HAL.out, decide_eq_true HLE.out, HNU.out]; simp
            have i9 : ¬ (k : Int) < (s.size : Int) := by omega
            rcases hq : (dec v == s.toList) with _ | _
            · have HU := Lib.hid (rd_none (bs := strB s) (by rw [HRD.out]; rw [strB_toList, beq_eq_false_iff_ne] at hq; simp [hq]))
              go_wp2_with fail
              refine (Decimal_any v w hvb.1 hvb.2 ht).mono ?_; rintro e w' ⟨rfl, hwd⟩
              go_wp2_with fail
              go_ret2
              exact ⟨by rw [HU.out.1, HU.out.2] <;> rfl, hwd⟩
            · have HU := Lib.hid (rd_some (bs := strB s) (n := v) (by rw [HRD.out]; rw [strB_toList, beq_iff_eq] at hq; simp [hq]))
              go_wp2_with fail
              refine (Decimal_any v w hvb.1 hvb.2 ht).mono ?_; rintro e w' ⟨rfl, hwd⟩
              go_wp2_with fail
              go_ret2
              exact ⟨by rw [HU.out.1, HU.out.2] <;> rfl, hwd⟩
      · have HU := Lib.hid (rd_none (bs := strB s) (rdDec_len (by rw [← HXB.out, HXL.out]; omega)))
        have i3 : (18 : Int) < (s.size : Int) := by omega
        go_wp2_with fail
        go_ret2
        exact ⟨by rw [HU.out.1, HU.out.2] <;> rfl, Below.refl _ _⟩
  · obtain rfl := size_zero (show s.size = 0 by omega)
    have HU := Lib.hid (rd_none (bs := strB ⟨#[]⟩) (by rfl))
    go_enter Tryz.func78, Tryz.ntmps78
    go_wp2_with fail
    go_ret2
    exact ⟨by rw [HU.out.1, HU.out.2] <;> rfl, Below.refl _ _⟩
end Go.Proofs.YtgljafiegpjlkaaGreatDoor

namespace Go.Proofs.YtgljafiegpjlkaaGreatDoor
open Go.RowKit Go.Sort
theorem tpS : TP 25 9 (.string ⟨#[]⟩) 1 16 := ⟨Tryz.underlying25, by kernel_rfl, rfl, by decide⟩
/-- a row of strings that is owned -/
def rowS (v : Value) (ss : List ByteArray) : Ent := .row v 9 1 ss.length (ss.map Value.string)
theorem Kn.rowS_at {w0 w : World} {m : List Ent} {A : Option Addr} {n c : Nat} {ss : List ByteArray} (h : Kn w0 (rowS (.slice A n c) ss :: m) w) {k : Nat} (hk : k < ss.length) :
    n = ss.length ∧ ∃ g, A = some ⟨g, 0, none⟩ ∧ w.cell? ⟨g, k, none⟩ = some (.string ss[k]) ∧ w0.heap.size ≤ g ∧ g < w.heap.size := by
  have h0 : w.ownsRow 0 9 1 (.slice A n c) ss.length (ss.map Value.string) := h.at0
  rcases h0.2 with ⟨hv, hn⟩ | ⟨g, cap, cur, hv, -, hg, -⟩
  · omega
  · injection hv with h1 h2 h3
    rw [h1] at h0
    have d1 := h0.cells (g := g) rfl k (.string ss[k]) (by simp [hk])
    rw [add_zero_block] at d1
    exact ⟨h2, g, h1, d1, h.own _ (List.mem_cons_self ..) g (by rw [h1]; rfl), (Array.getElem?_eq_some_iff.1 hg).1⟩
theorem kn_pushS {ops : Array Oper} {rest : List Oper} {o : Oper} {a : Act} {Q : Exit → Act → World → Prop} {w0 w : World} {m : List Ent} (hgd : o.guard = none) (s x : Operand) (ho : o.op = .call { callee := .builtin .append, args := #[s, x], argTypes := #[25, 25] })
    (v : Value) (ss : List ByteArray) (hs : a.eval s = v) {g c : Nat} {T' : TypeId} {z : ByteArray} (hx : a.eval x = .slice (some ⟨g, 0, none⟩) 1 c)
    (hK : Kn w0 (.blk g [.string z] T' :: rowS v ss :: m) w) (hl : ss.length ≤ 10000000)
    (h : ∀ v' w', Kn w0 (rowS v' (ss ++ [z]) :: m) w' → wpList Tryz.prog ops Q rest (a.put o.dst v') w') : wpList Tryz.prog ops Q (o :: rest) a w := by
  refine kn_app tpS hgd s x ho v ss.length (ss.map Value.string) hs hx hK rfl (by simp [Value.oneCell']) (by omega) (by omega) (fun v' w' hK' => h v' w' ?_)
  unfold rowS
  rw [List.length_append, List.map_append, List.map_cons, List.map_nil]
  exact hK'
/-- the parts of bytes between bytes -/
def splitB (k : Nat) : List UInt8 → List (List UInt8)
  | [] => [[]]
  | b :: tl => if b.toNat = k then [] :: splitB k tl else match splitB k tl with
    | [] => [[b]]
    | h :: t => (b :: h) :: t
def glue (p : List UInt8) : List (List UInt8) → List (List UInt8)
  | [] => [p]
  | h :: t => (p ++ h) :: t
theorem splitB_ne (k : Nat) (bs : List UInt8) : splitB k bs ≠ [] := by
  cases bs with
  | nil => simp [splitB]
  | cons b tl =>
    simp only [splitB]
    split
    · simp
    · split <;> simp
theorem glue_nil (l : List (List UInt8)) (h : l ≠ []) : glue [] l = l := by
  cases l with
  | nil => exact absurd rfl h
  | cons a t => rfl
theorem splitB_cons (k : Nat) (b : UInt8) (tl : List UInt8) : splitB k (b :: tl) = if b.toNat = k then [] :: splitB k tl else glue [b] (splitB k tl) := by
  simp only [splitB]
  split
  · rfl
  · cases splitB k tl <;> rfl
theorem glue_glue (p : List UInt8) (b : UInt8) (l : List (List UInt8)) : glue p (glue [b] l) = glue (p ++ [b]) l := by cases l <;> simp [glue]
theorem splitB_len (k : Nat) (bs : List UInt8) : (splitB k bs).length ≤ bs.length + 1 := by
  induction bs with
  | nil => simp [splitB]
  | cons b tl ih =>
    rw [splitB_cons]
    split
    · simp; omega
    · cases h : splitB k tl with
      | nil => simp [glue]
      | cons a t => rw [h] at ih; simp [glue] at ih ⊢; omega
theorem take_piece {bs : List UInt8} {f i : Nat} (h : i < bs.length) (hf : f ≤ i) : (bs.drop f).take (i + 1 - f) = (bs.drop f).take (i - f) ++ [bs[i]] := by
  rw [show i + 1 - f = (i - f) + 1 by omega, List.take_succ_eq_append_getElem (by rw [List.length_drop]; omega)]
  congr 2
  rw [List.getElem_drop]
  congr 1; omega
set_option maxRecDepth 100000 in
set_option maxHeartbeats 1600000 in
theorem l01Split_any (s : ByteArray) (kd : UInt8) (w : World) (hs : s.size ≤ 1048576) :
    Calls Tryz.prog 83 #[.string s, .int .u8 (kd.toNat : Int)] w fun e w' => ∃ A c ss, e = .returned (.slice A ss.length c) ∧ ss.map strB = splitB kd.toNat (strB s) ∧ Kn w [rowS (.slice A ss.length c) ss] w' := by
  have HSL := Lib.hid (strB_len s)
  obtain ⟨kn, hkn⟩ : ∃ k : Nat, kd.toNat = k := ⟨_, rfl⟩
  rw [hkn]
  clear hkn
  go_enter Tryz.func83, Tryz.ntmps83
  have hK0 := ((Kn.nil w).al [] 9).litRow (n := 0) (size := 1) rfl (by decide)
  go_wp2_with fail
  go_loopw [5, 6, 7] (fun vv ff ii wr => ∃ (f i : Nat) (ss : List ByteArray), f ≤ i ∧ i ≤ s.size ∧ ff = .int .i64 f ∧ ii = .int .i64 i ∧ ss.length ≤ i ∧
    splitB kn (strB s) = ss.map strB ++ glue (((strB s).drop f).take (i - f)) (splitB kn ((strB s).drop i)) ∧ Kn w [rowS vv ss] wr) (fun _ _ i _ => s.size - (intOf i).toNat)
  case atStart => exact ⟨0, 0, [], by omega, by omega, rfl, rfl, by simp, by simp [glue_nil _ (splitB_ne _ _)], hK0⟩
  case round =>
    rename_i vv _ _
    obtain ⟨f, i, ss, hf, hi, rfl, rfl, hsl, hsp, hK⟩ := hrel
    have HSP := Lib.hid hsp
    clear hsp hK0
    have i0 : (0 : Int) ≤ (i : Int) := by omega
    have f0 : (0 : Int) ≤ (f : Int) := by omega
    have f1 : (f : Int) ≤ (i : Int) := by omega
    have f2 : (f : Int) ≤ (s.size : Int) := by omega
    have i2 : (i : Int) ≤ (s.size : Int) := by omega
    by_cases hlt : i < s.size
    · obtain ⟨q, hq⟩ : ∃ q : UInt8, s[i] = q := ⟨_, rfl⟩
      obtain ⟨z, hz⟩ : ∃ z : Nat, q.toNat = z := ⟨_, rfl⟩
      have hil : i < (strB s).length := by rw [HSL.out]; exact hlt
      have hg : (strB s)[i] = q := by rw [← hq, strB_get s hlt]
      have hdr : (strB s).drop i = q :: (strB s).drop (i + 1) := by rw [List.drop_eq_getElem_cons hil, hg]
      have i1 : (i : Int) < (s.size : Int) := by omega
      have HS2 := Lib.hid (show splitB kn ((strB s).drop i) = if z = kn then [] :: splitB kn ((strB s).drop (i + 1)) else glue [q] (splitB kn ((strB s).drop (i + 1))) by rw [hdr, splitB_cons, hz])
      have HP := Lib.hid (take_piece (f := f) hil hf)
      rw [hg] at HP
      clear hdr hg
      by_cases hzk : z = kn
      · have k1 : ((z : Int) == (kn : Int)) = true := by rw [beq_iff_eq]; omega
        have k2 : (z : Int) = (kn : Int) := by omega
        have HS3 : Hid (splitB kn (strB s) = (ss ++ [s.extract f i]).map strB ++ glue [] (splitB kn ((strB s).drop (i + 1)))) := by
          simp only [Hid]
          rw [HSP.out, HS2.out, if_pos hzk, glue_nil _ (splitB_ne _ _), List.map_append, List.map_cons, List.map_nil, strB_extract]
          simp [glue]
        clear hzk k2
        go_wp2_with (at_builtin; refine kn_pushS rfl _ _ rfl _ ss rfl rfl (hK.al [.string (s.extract f i)] 9) (by omega) ?_; intro v5 w6 hK4)
        go_roundw
        case rel => exact ⟨i + 1, i + 1, ss ++ [s.extract f i], by omega, by omega, by go_num, by go_num, by rw [List.length_append]; simp; omega, by rw [Nat.sub_self, List.take_zero]; exact HS3.out, hK4⟩
        case measure => simp [intOf]; omega
      · have k1 : ((z : Int) == (kn : Int)) = false := by rw [beq_eq_false_iff_ne]; omega
        have HS3 : Hid (splitB kn (strB s) = ss.map strB ++ glue (((strB s).drop f).take (i + 1 - f)) (splitB kn ((strB s).drop (i + 1)))) := by
          simp only [Hid]
          rw [HSP.out, HS2.out, if_neg hzk, glue_glue, HP.out]
        clear hzk
        go_wp2_with fail
        go_roundw
        case rel => exact ⟨f, i + 1, ss, by omega, by omega, rfl, by go_num, by omega, HS3.out, hK⟩
        case measure => simp [intOf]; omega
    · have i1 : ¬ (i : Int) < (s.size : Int) := by omega
      have HS3 : Hid ((ss ++ [s.extract f s.size]).map strB = splitB kn (strB s)) := by
        simp only [Hid]
        rw [HSP.out, List.drop_of_length_le (show (strB s).length ≤ i by rw [HSL.out]; omega), List.map_append, List.map_cons, List.map_nil, strB_drop]
        simp only [splitB, glue, List.append_nil]
        rw [List.take_of_length_le (by rw [List.length_drop, HSL.out]; omega)]
      go_wp2_with (at_builtin; refine kn_pushS rfl _ _ rfl _ ss rfl rfl (hK.al [.string (s.extract f s.size)] 9) (by omega) ?_; intro v5 w6 hK4)
      obtain ⟨A, c, rfl⟩ := row_form hK4.at0
      go_ret
      exact ⟨A, c, _, rfl, HS3.out, hK4⟩
/-- the parts of bytes without blanks -/
def wordsB (bs : List UInt8) : List (List UInt8) := (splitB 32 bs).filter (fun l => !l.isEmpty)
def wordsG (p : List UInt8) (bs : List UInt8) : List (List UInt8) := (glue p (splitB 32 bs)).filter (fun l => !l.isEmpty)
set_option maxRecDepth 100000 in
set_option maxHeartbeats 1600000 in
theorem SplitWords_any (s : ByteArray) (w : World) (hs : s.size ≤ 1048576) :
    Calls Tryz.prog 91 #[.string s] w fun e w' => ∃ A c ss, e = .returned (.slice A ss.length c) ∧ ss.map strB = wordsB (strB s) ∧ Kn w [rowS (.slice A ss.length c) ss] w' := by
  have HSL := Lib.hid (strB_len s)
  go_enter Tryz.func91, Tryz.ntmps91
  have hK0 := ((Kn.nil w).al [] 9).litRow (n := 0) (size := 1) rfl (by decide)
  go_wp2_with fail
  go_loopw [3, 4, 9] (fun vv ff ii wr => ∃ (i : Nat) (ss : List ByteArray), i ≤ s.size ∧ ii = .int .i64 i ∧ ss.length ≤ i ∧
    ((ff = .int .i64 (-1) ∧ wordsB (strB s) = ss.map strB ++ wordsG [] ((strB s).drop i)) ∨
      ∃ f : Nat, f < i ∧ ff = .int .i64 f ∧ wordsB (strB s) = ss.map strB ++ wordsG (((strB s).drop f).take (i - f)) ((strB s).drop i)) ∧ Kn w [rowS vv ss] wr) (fun _ _ i _ => s.size - (intOf i).toNat)
  case atStart => exact ⟨0, [], by omega, rfl, by simp, .inl ⟨rfl, by simp [wordsB, wordsG, glue_nil _ (splitB_ne _ _)]⟩, hK0⟩
  case round =>
    rename_i vv ff _
    obtain ⟨i, ss, hi, rfl, hsl, hor, hK⟩ := hrel
    clear hK0
    have i0 : (0 : Int) ≤ (i : Int) := by omega
    have i2 : (i : Int) ≤ (s.size : Int) := by omega
    by_cases hlt : i < s.size
    · obtain ⟨q, hq⟩ : ∃ q : UInt8, s[i] = q := ⟨_, rfl⟩
      obtain ⟨z, hz⟩ : ∃ z : Nat, q.toNat = z := ⟨_, rfl⟩
      have hil : i < (strB s).length := by rw [HSL.out]; exact hlt
      have hg : (strB s)[i] = q := by rw [← hq, strB_get s hlt]
      have hdr : (strB s).drop i = q :: (strB s).drop (i + 1) := by rw [List.drop_eq_getElem_cons hil, hg]
      have i1 : (i : Int) < (s.size : Int) := by omega
      have HS2 := Lib.hid (show splitB 32 ((strB s).drop i) = if z = 32 then [] :: splitB 32 ((strB s).drop (i + 1)) else glue [q] (splitB 32 ((strB s).drop (i + 1))) by rw [hdr, splitB_cons, hz])
      have HPP := Lib.hid (fun f hf => take_piece (f := f) hil hf)
      rw [hg] at HPP
      clear hdr hg
      by_cases hzk : z = 32
      · have k1 : ((z : Int) == 32) = true := by rw [beq_iff_eq]; omega
        have k3 : ((z : Int) != 32) = false := by simp [bne, k1]
        have HZK := Lib.hid hzk
        clear hzk
        rcases hor with ⟨rfl, hsp⟩ | ⟨f, hf, rfl, hsp⟩
        · have HS3 : Hid (wordsB (strB s) = ss.map strB ++ wordsG [] ((strB s).drop (i + 1))) := by
            simp only [Hid]
            rw [hsp]; unfold wordsG
            rw [HS2.out, if_pos HZK.out, glue_nil (splitB 32 ((strB s).drop (i + 1))) (splitB_ne _ _)]
            simp [glue]
          clear hsp
          go_wp2_with fail
          go_roundw
          case rel => exact ⟨i + 1, ss, by omega, by go_num, by omega, .inl ⟨rfl, HS3.out⟩, hK⟩
          case measure => simp [intOf]; omega
        · have hne : (((strB s).drop f).take (i - f)).isEmpty = false := by
            cases h : ((strB s).drop f).take (i - f) with
            | nil =>
              have := congrArg List.length h
              rw [List.length_take, List.length_drop, HSL.out] at this
              simp at this; omega
            | cons a l => rfl
          have HS3 : Hid (wordsB (strB s) = (ss ++ [s.extract f i]).map strB ++ wordsG [] ((strB s).drop (i + 1))) := by
            simp only [Hid]
            rw [hsp]; unfold wordsG
            rw [HS2.out, if_pos HZK.out, List.map_append, List.map_cons, List.map_nil, strB_extract, glue_nil _ (splitB_ne _ _)]
            simp only [glue, List.append_nil]
            rw [List.filter_cons, hne]; simp
          have f0 : (0 : Int) ≤ (f : Int) := by omega
          have f1 : (f : Int) ≤ (i : Int) := by omega
          have f2 : ¬ (f : Int) < 0 := by omega
          clear hsp hne
          go_wp2_with (at_builtin; refine kn_pushS rfl _ _ rfl _ ss rfl rfl (hK.al [.string (s.extract f i)] 9) (by omega) ?_; intro v5 w6 hK4)
          go_roundw
          case rel => exact ⟨i + 1, ss ++ [s.extract f i], by omega, by go_num, by rw [List.length_append]; simp; omega, .inl ⟨rfl, HS3.out⟩, hK4⟩
          case measure => simp [intOf]; omega
      · have k1 : ((z : Int) == 32) = false := by rw [beq_eq_false_iff_ne]; omega
        have k3 : ((z : Int) != 32) = true := by simp [bne, k1]
        have HZK := Lib.hid hzk
        clear hzk
        rcases hor with ⟨rfl, hsp⟩ | ⟨f, hf, rfl, hsp⟩
        · have HS3 : Hid (wordsB (strB s) = ss.map strB ++ wordsG (((strB s).drop i).take (i + 1 - i)) ((strB s).drop (i + 1))) := by
            simp only [Hid]
            rw [hsp]; unfold wordsG
            rw [HS2.out, if_neg HZK.out, HPP.out i (Nat.le_refl _), glue_glue]; simp
          clear hsp
          go_wp2_with fail
          go_roundw
          case rel => exact ⟨i + 1, ss, by omega, by go_num, by omega, .inr ⟨i, by omega, rfl, HS3.out⟩, hK⟩
          case measure => simp [intOf]; omega
        · have HS3 : Hid (wordsB (strB s) = ss.map strB ++ wordsG (((strB s).drop f).take (i + 1 - f)) ((strB s).drop (i + 1))) := by
            simp only [Hid]
            rw [hsp]; unfold wordsG
            rw [HS2.out, if_neg HZK.out, HPP.out f (by omega), glue_glue]
          have f2 : ¬ (f : Int) < 0 := by omega
          have f0 : (0 : Int) ≤ (f : Int) := by omega
          clear hsp
          go_wp2_with fail
          go_roundw
          case rel => exact ⟨i + 1, ss, by omega, by go_num, by omega, .inr ⟨f, by omega, rfl, HS3.out⟩, hK⟩
          case measure => simp [intOf]; omega
    · have i1 : ¬ (i : Int) < (s.size : Int) := by omega
      have hdn : (strB s).drop i = [] := List.drop_of_length_le (show (strB s).length ≤ i by rw [HSL.out]; omega)
      rcases hor with ⟨rfl, hsp⟩ | ⟨f, hf, rfl, hsp⟩
      · have HS3 : Hid (ss.map strB = wordsB (strB s)) := by
          simp only [Hid]; rw [hsp, hdn]; simp [wordsG, splitB, glue]
        clear hsp hdn
        obtain ⟨A, c, rfl⟩ := row_form hK.at0
        go_wp2_with fail
        go_ret
        exact ⟨A, c, ss, rfl, HS3.out, hK⟩
      · have hne : (((strB s).drop f).take (i - f)).isEmpty = false := by
          cases h : ((strB s).drop f).take (i - f) with
          | nil =>
            have := congrArg List.length h
            rw [List.length_take, List.length_drop, HSL.out] at this
            simp at this; omega
          | cons a l => rfl
        have HS3 : Hid ((ss ++ [s.extract f s.size]).map strB = wordsB (strB s)) := by
          simp only [Hid]
          rw [hsp, hdn, List.map_append, List.map_cons, List.map_nil, strB_drop]; unfold wordsG
          simp only [splitB, glue, List.append_nil]
          rw [List.filter_cons, hne, List.take_of_length_le (by rw [List.length_drop, HSL.out]; omega)]; simp
        have f0 : (0 : Int) ≤ (f : Int) := by omega
        have f1 : (f : Int) ≤ (s.size : Int) := by omega
        clear hsp hdn hne
        go_wp2_with (at_builtin; refine kn_pushS rfl _ _ rfl _ ss rfl rfl (hK.al [.string (s.extract f s.size)] 9) (by omega) ?_; intro v5 w6 hK4)
        obtain ⟨A, c, rfl⟩ := row_form hK4.at0
        go_ret
        exact ⟨A, c, _, rfl, HS3.out, hK4⟩
/-- what stands in front of the first place of a text, and behind it -/
def cutB (p : List UInt8) : List UInt8 → Option (List UInt8 × List UInt8)
  | [] => none
  | b :: tl => if p.isPrefixOf (b :: tl) then some ([], (b :: tl).drop p.length) else (cutB p tl).map fun q => (b :: q.1, q.2)
theorem prefix_iff (p l : List UInt8) : p.isPrefixOf l = decide (l.take p.length = p) := by
  rw [Bool.eq_iff_iff, List.isPrefixOf_iff_prefix, List.prefix_iff_eq_take, decide_eq_true_eq]
  exact ⟨fun h => h.symm, fun h => h.symm⟩
theorem cutB_short (p : List UInt8) : ∀ l : List UInt8, l.length < p.length → cutB p l = none
  | [], _ => rfl
  | b :: tl, h => by
    simp only [cutB]
    have h1 : p.isPrefixOf (b :: tl) = false := by
      rw [prefix_iff]; refine decide_eq_false fun h2 => ?_
      have := congrArg List.length h2
      rw [List.length_take] at this; omega
    rw [h1, cutB_short p tl (by simp at h; omega)]; rfl
def cutX (p bs : List UInt8) : List UInt8 := ((cutB p bs).map (·.1)).getD bs
def cutY (p bs : List UInt8) : List UInt8 := ((cutB p bs).map (·.2)).getD []
set_option maxRecDepth 100000 in
set_option maxHeartbeats 1600000 in
theorem cut_any (s p : ByteArray) (w : World) (hs : s.size ≤ 1048576) (hp0 : 0 < p.size) (hp : p.size ≤ 1048576) :
    Calls Tryz.prog 111 #[.string s, .string p] w fun e w' => ∃ x y, e = .returned (.tuple #[.string x, .string y, .bool (cutB (strB p) (strB s)).isSome]) ∧ strB x = cutX (strB p) (strB s) ∧ strB y = cutY (strB p) (strB s) ∧ Below w.heap.size w w' := by
  have HSL := Lib.hid (strB_len s)
  have HPL := Lib.hid (strB_len p)
  obtain ⟨m, hm⟩ : ∃ m, p.size = m := ⟨_, rfl⟩
  rw [hm] at hp0 hp
  go_enter Tryz.func111, Tryz.ntmps111
  go_wp2_with fail
  go_loopw [7] (fun ii wr => ∃ i : Nat, i ≤ s.size + 1 ∧ ii = .int .i64 i ∧ cutB (strB p) (strB s) = (cutB (strB p) ((strB s).drop i)).map (fun q => ((strB s).take i ++ q.1, q.2)) ∧ w = wr) (fun i _ => s.size + 1 - (intOf i).toNat)
  case atStart => exact ⟨0, by omega, rfl, by simp, rfl⟩
  case round =>
    obtain ⟨i, hi, rfl, hcb, rfl⟩ := hrel
    have HCB := Lib.hid hcb
    clear hcb
    have i0 : (0 : Int) ≤ (i : Int) := by omega
    by_cases hle : i + m ≤ s.size
    · have i1 : (i : Int) + (m : Int) ≤ (s.size : Int) := by omega
      have i2 : (i : Int) ≤ (i : Int) + (m : Int) := by omega
      have hil : i < (strB s).length := by rw [HSL.out]; omega
      obtain ⟨q, hq⟩ : ∃ q : UInt8, (strB s)[i] = q := ⟨_, rfl⟩
      have hdr : (strB s).drop i = q :: (strB s).drop (i + 1) := by rw [List.drop_eq_getElem_cons hil, hq]
      have hT : (strB s).take (i + 1) = (strB s).take i ++ [q] := by rw [List.take_succ_eq_append_getElem hil, hq]
      have hpre : (strB p).isPrefixOf ((strB s).drop i) = ((s.extract i (i + m)).toList == p.toList) := by
        rw [prefix_iff, strB_toList, strB_toList, strB_extract, HPL.out, hm, show i + m - i = m by omega, Bool.eq_iff_iff, decide_eq_true_eq, beq_iff_eq]
      rcases hq2 : ((s.extract i (i + m)).toList == p.toList) with _ | _
      · have HC2 : Hid (cutB (strB p) (strB s) = (cutB (strB p) ((strB s).drop (i + 1))).map (fun q => ((strB s).take (i + 1) ++ q.1, q.2))) := by
          simp only [Hid]
          rw [HCB.out]
          rw [hq2, hdr] at hpre
          rw [hdr, cutB, hpre, hT]
          simp [Option.map_map, Function.comp_def]
        clear hdr hT hpre
        go_wp2_with fail
        go_roundw
        case rel => exact ⟨i + 1, by omega, by go_num, HC2.out, by first | rfl | trivial⟩
        case measure => simp [intOf]; omega
      · have HC2 : Hid (cutB (strB p) (strB s) = some ((strB s).take i, (strB s).drop (i + m))) := by
          simp only [Hid]
          rw [HCB.out]
          rw [hq2, hdr] at hpre
          rw [hdr, cutB, hpre, ← hdr]
          simp [HPL.out, hm, List.drop_drop]
        clear hdr hT hpre
        go_wp2_with fail
        go_region
        all_goals
          go_wp2_with fail
          refine bodyPost_ret (v := .tuple #[.string (s.extract 0 i), .string (s.extract (i + m) s.size), .bool true]) (by simp [results, Tryz.results111, go_sem]) rfl ⟨_, _, by rw [HC2.out]; rfl, ?_, ?_, ?_⟩
          · rw [strB_extract, cutX, HC2.out]; simp
          · rw [strB_drop, cutY, HC2.out]; rfl
          · first | exact Below.refl _ _ | exact (Below.refl _ _).drew
    · have i1 : ¬ (i : Int) + (m : Int) ≤ (s.size : Int) := by omega
      have HC2 : Hid (cutB (strB p) (strB s) = none) := by
        simp only [Hid]; rw [HCB.out, cutB_short _ _ (by rw [List.length_drop, HSL.out, HPL.out, hm]; omega)]; rfl
      go_wp2_with fail
      refine bodyPost_ret (v := .tuple #[.string s, .string ⟨#[]⟩, .bool false]) (by simp [results, Tryz.results111, go_sem]) rfl ⟨s, ⟨#[]⟩, by rw [HC2.out]; rfl, ?_, ?_, Below.refl _ _⟩
      · rw [cutX, HC2.out]; rfl
      · rw [cutY, HC2.out]; rfl
end Go.Proofs.YtgljafiegpjlkaaGreatDoor

namespace Go.Proofs.YtgljafiegpjlkaaGreatDoor
open Go.RowKit Go.Sort
/-! splitting at a byte; numbers read back -/
theorem cutB_mem (k : UInt8) : ∀ (bs x y : List UInt8), cutB [k] bs = some (x, y) → bs = x ++ k :: y ∧ k ∉ x
  | [], _, _, h => by cases h
  | b :: tl, x, y, h => by
    simp only [cutB] at h
    split at h
    · rename_i h1
      injection h with h
      injection h with h2 h3
      rw [prefix_iff] at h1
      have h4 := of_decide_eq_true h1
      have : b = k := by simpa using h4
      subst this
      rw [← h2, ← h3]; simp
    · rename_i h1
      obtain ⟨q, hq, h2⟩ := Option.map_eq_some_iff.1 h
      injection h2 with h3 h4
      obtain ⟨h5, h6⟩ := cutB_mem k tl q.1 q.2 hq
      rw [← h3, ← h4]
      refine ⟨by rw [List.cons_append, ← h5], ?_⟩
      intro hm
      rcases List.mem_cons.1 hm with h7 | h7
      · apply h1; subst h7; rw [prefix_iff]; simp
      · exact h6 h7
theorem cutB_of (k : UInt8) (y : List UInt8) : ∀ x : List UInt8, k ∉ x → cutB [k] (x ++ k :: y) = some (x, y)
  | [], _ => by
    rw [List.nil_append]; simp only [cutB]
    rw [prefix_iff]; simp
  | b :: x, h => by
    rw [List.cons_append]; simp only [cutB]
    have h1 : ¬ (([k] : List UInt8).isPrefixOf (b :: (x ++ k :: y)) = true) := by
      rw [prefix_iff]; simp
      intro h2; exact h (by rw [h2]; simp)
    rw [if_neg h1, cutB_of k y x (fun h2 => h (List.mem_cons_of_mem _ h2))]; rfl
theorem cutB_none (k : UInt8) : ∀ bs : List UInt8, cutB [k] bs = none → k ∉ bs
  | [], _ => by simp
  | b :: tl, h => by
    simp only [cutB] at h
    split at h
    · cases h
    · rename_i h1
      have h2 := cutB_none k tl (by simpa using h)
      intro h3
      rcases List.mem_cons.1 h3 with h4 | h4
      · apply h1; subst h4; rw [prefix_iff]; simp
      · exact h2 h4
theorem splitB_none (k : UInt8) : ∀ bs : List UInt8, k ∉ bs → splitB k.toNat bs = [bs]
  | [], _ => rfl
  | b :: tl, h => by
    rw [splitB_cons, if_neg (fun h1 => h (by rw [← UInt8.toNat_inj.1 h1]; simp)), splitB_none k tl (fun h1 => h (List.mem_cons_of_mem _ h1))]; rfl
theorem splitB_at (k : UInt8) (y : List UInt8) : ∀ x : List UInt8, k ∉ x → splitB k.toNat (x ++ k :: y) = x :: splitB k.toNat y
  | [], _ => by rw [List.nil_append, splitB_cons, if_pos rfl]
  | b :: x, h => by
    rw [List.cons_append, splitB_cons, if_neg (fun h1 => h (by rw [← UInt8.toNat_inj.1 h1]; simp)), splitB_at k y x (fun h1 => h (List.mem_cons_of_mem _ h1))]; rfl
theorem digs_zero : digs 0 = [] := by simp [digs]
theorem digs_facts : ∀ u : Nat, (digs u).all isD = true ∧ foldD (digs u) = u ∧ (∀ k, u < 10 ^ k → (digs u).length ≤ k) ∧ (u ≠ 0 → 1 ≤ (digs u).length) := by
  intro u
  induction u using Nat.strongRecOn with
  | _ u ih =>
    by_cases h : u = 0
    · subst h; rw [digs_zero]; exact ⟨rfl, rfl, fun _ _ => by simp, fun h => absurd rfl h⟩
    · obtain ⟨h1, h2, h3, -⟩ := ih (u / 10) (by omega)
      have hb : (UInt8.ofNat (48 + u % 10)).toNat = 48 + u % 10 := by rw [UInt8.toNat_ofNat']; omega
      rw [digs_step u h]
      refine ⟨?_, ?_, fun k hk => ?_, fun _ => by simp⟩
      · rw [List.all_append, h1]
        simp only [List.all_cons, List.all_nil, Bool.and_true, Bool.true_and]
        unfold isD; rw [hb]; exact decide_eq_true (by omega)
      · rw [foldD_snoc, h2, hb]; omega
      · cases k with
        | zero => simp at hk; omega
        | succ k =>
          have := h3 k (by rw [Nat.pow_succ] at hk; omega)
          simp; omega
theorem signOff_digs {l : List UInt8} (h : l.all isD = true) : signOff l = l := by
  cases l with
  | nil => rfl
  | cons b t =>
    rw [List.all_cons, Bool.and_eq_true] at h
    have h1 := of_decide_eq_true (show decide (48 ≤ b.toNat ∧ b.toNat ≤ 57) = true from h.1)
    simp only [signOff]; rw [if_neg (by omega)]
/-- a number is read back from its decimal form -/
theorem rdDec_dec (n : Int) (h : n.natAbs < 1000000000000000000) : rdDec (dec n) = some n := by
  obtain ⟨d1, d2, d3, d4⟩ := digs_facts n.natAbs
  have hlen := d3 18 h
  by_cases h0 : n = 0
  · subst h0
    have e : dec 0 = [48] := by rw [dec_of]; rfl
    have : numOf [48] = 0 := by decide
    unfold rdDec
    rw [e, this, e]; rfl
  · have d5 := d4 (by omega)
    by_cases hn : n < 0
    · have e : dec n = 45 :: digs n.natAbs := by rw [dec_of, if_neg h0, if_pos hn]
      have hs : signOff (dec n) = digs n.natAbs := by rw [e]; rfl
      have hv : numOf (dec n) = n := by
        unfold numOf; rw [hs, d2, if_pos (by rw [e]; simp)]; omega
      unfold rdDec
      rw [hv, hs, d1]; simp; omega
    · have e : dec n = digs n.natAbs := by rw [dec_of, if_neg h0, if_neg hn]
      have hs : signOff (dec n) = digs n.natAbs := by rw [e]; exact signOff_digs d1
      have hv : numOf (dec n) = n := by
        unfold numOf; rw [hs, d2, if_neg (by rw [e]; omega)]; omega
      unfold rdDec
      rw [hv, hs, d1]; simp; omega
theorem rdDec_sound {bs : List UInt8} {n : Int} (h : rdDec bs = some n) : dec n = bs := by
  unfold rdDec at h
  split at h
  · rename_i h1
    injection h with h
    simp only [Bool.and_eq_true, decide_eq_true_eq] at h1
    rw [← h]; exact h1.2
  · cases h
theorem dec_bytes (n : Int) : ∀ c ∈ dec n, c.toNat = 45 ∨ (48 ≤ c.toNat ∧ c.toNat ≤ 57) := by
  intro c hc
  rw [dec_of] at hc
  have hd : ∀ c ∈ digs n.natAbs, 48 ≤ c.toNat ∧ c.toNat ≤ 57 := fun c hc => of_decide_eq_true (List.all_eq_true.1 (digs_facts n.natAbs).1 c hc)
  split at hc
  · rw [List.mem_singleton.1 hc]; right; decide
  · split at hc
    · rcases List.mem_cons.1 hc with rfl | hc
      · left; rfl
      · right; exact hd c hc
    · right; exact hd c hc
theorem dec_ne (n : Int) : dec n ≠ [] := by
  rw [dec_of]
  split
  · simp
  · split
    · simp
    · intro h
      have := (digs_facts n.natAbs).2.2.2 (by omega)
      rw [h] at this; simp at this
theorem not_mem_dec {k : UInt8} (n : Int) (h : k.toNat ≠ 45) (h2 : k.toNat < 48 ∨ 57 < k.toNat) : k ∉ dec n := fun hm => by
  rcases dec_bytes n k hm with h3 | h3
  · exact h h3
  · omega
end Go.Proofs.YtgljafiegpjlkaaGreatDoor

namespace Go.Proofs.YtgljafiegpjlkaaGreatDoor
open Go.RowKit Go.Sort
def digV (c : UInt8) : Int := if 48 ≤ c.toNat ∧ c.toNat ≤ 57 then (c.toNat : Int) - 48 else if 97 ≤ c.toNat ∧ c.toNat ≤ 102 then (c.toNat : Int) - 87 else -1
def rdR (bs : List UInt8) : Option Reg := (cutB [58] bs).bind fun q => (rdDec q.1).bind fun n => if vreg n (q.2.reverse.map digV) then some ⟨n, q.2.reverse.map digV⟩ else none
theorem digV_bad : digV 58 = -1 := by decide
theorem vreg_mem {b : Int} {ds : List Int} {d : Int} (h : d ∈ ds) (hd : d < 0) : vreg b ds = false := by
  rcases hv : vreg b ds with _ | _
  · rfl
  · have := (vreg_iff.1 hv).2.2.1 d h; omega
/-- the parts that the reference reads: two, the second one short -/
theorem rdR_spec (bs : List UInt8) : rdR bs = match splitB 58 bs with
    | [x, y] => if y.length ≤ 16 then (rdDec x).bind fun n => if vreg n (y.reverse.map digV) then some ⟨n, y.reverse.map digV⟩ else none else none
    | _ => none := by
  unfold rdR
  have e58 : (58 : UInt8).toNat = 58 := rfl
  cases h : cutB [58] bs with
  | none =>
    have h2 := splitB_none 58 bs (cutB_none 58 bs h)
    rw [e58] at h2
    rw [h2]; rfl
  | some q =>
    obtain ⟨x, y⟩ := q
    obtain ⟨h1, h2⟩ := cutB_mem 58 bs x y h
    have h3 := splitB_at 58 y x h2
    rw [← h1, e58] at h3
    rw [h3]
    simp only [Option.bind_some]
    by_cases hy : (58 : UInt8) ∈ y
    · have hv : ∀ n, vreg n (y.reverse.map digV) = false := fun n => vreg_mem (d := -1) (List.mem_map.2 ⟨58, by simpa using hy, digV_bad⟩) (by omega)
      have hl : ∀ z, splitB 58 y ≠ [z] := by
        intro z hz
        cases h4 : cutB [58] y with
        | none => exact cutB_none 58 y h4 hy
        | some q =>
          obtain ⟨a, b⟩ := q
          obtain ⟨h5, h6⟩ := cutB_mem 58 y a b h4
          have h7 := splitB_at 58 b a h6
          rw [← h5, e58, hz] at h7
          injection h7 with _ h7
          exact splitB_ne 58 b h7.symm
      have e1 : ((rdDec x).bind fun n => if vreg n (y.reverse.map digV) then some (⟨n, y.reverse.map digV⟩ : Reg) else none) = none := by
        cases rdDec x with
        | none => rfl
        | some n => simp only [Option.bind_some]; rw [hv n]; rfl
      rw [e1]
      cases hs : splitB 58 y with
      | nil => rfl
      | cons a t =>
        cases t with
        | nil => exact absurd hs (hl a)
        | cons b t => rfl
    · have h4 := splitB_none 58 y hy
      rw [e58] at h4
      rw [h4]
      simp only []
      by_cases h16 : y.length ≤ 16
      · rw [if_pos h16]
      · rw [if_neg h16]
        cases rdDec x with
        | none => rfl
        | some n =>
          simp only [Option.bind_some]
          have : vreg n (y.reverse.map digV) = false := by
            rcases hv : vreg n (y.reverse.map digV) with _ | _
            · rfl
            · have := (vreg_iff.1 hv).2.1; simp at this; omega
          rw [this]; rfl
def rdReg (bs : List UInt8) : Reg := (rdR bs).getD ⟨0, []⟩
theorem rdr_none {bs : List UInt8} (h : rdR bs = none) : rdReg bs = ⟨0, []⟩ ∧ (rdR bs).isSome = false := by simp [rdReg, h]
theorem rdr_some {bs : List UInt8} {r : Reg} (h : rdR bs = some r) : rdReg bs = r ∧ (rdR bs).isSome = true := by simp [rdReg, h]
end Go.Proofs.YtgljafiegpjlkaaGreatDoor

namespace Go.Proofs.YtgljafiegpjlkaaGreatDoor
open Go.RowKit Go.Sort
theorem Kn.rowS_get {w0 w : World} {m : List Ent} {g n c : Nat} {ss : List ByteArray} (h : Kn w0 (rowS (.slice (some ⟨g, 0, none⟩) n c) ss :: m) w) {k : Nat} (hk : k < ss.length) : w.cell? ⟨g, k, none⟩ = some (.string ss[k]) := by
  obtain ⟨-, g', e, hc, -⟩ := h.rowS_at hk
  injection e with e
  injection e with e
  subst e; exact hc
def dtx : ByteArray := ⟨#[48, 49, 50, 51, 52, 53, 54, 55, 56, 57, 97, 98, 99, 100, 101, 102]⟩
/-- the last place among the first d characters of digits that a byte has -/
def lastAt (c : Nat) (d : Nat) : Int := (List.range d).foldl (fun a j => if (dtx.data.getD j 0).toNat = c then (j : Int) else a) (-1)
theorem lastAt_succ (c d : Nat) : lastAt c (d + 1) = if (dtx.data.getD d 0).toNat = c then (d : Int) else lastAt c d := by
  unfold lastAt; rw [List.range_succ, List.foldl_append]; rfl
theorem lastAt_all : ∀ c, c < 256 → lastAt c 16 = digV (UInt8.ofNat c) := by decide +kernel
theorem dtx_get (d : Nat) (h : d < 16) : dtx[d]? = some (dtx.data.getD d 0) := by
  have : ∀ d, d < 16 → dtx[d]? = some (dtx.data.getD d 0) := by decide
  exact this d h
theorem splitB_each (k : Nat) : ∀ (bs : List UInt8), ∀ x ∈ splitB k bs, x.length ≤ bs.length
  | [], x, h => by simp [splitB] at h; subst h; simp
  | b :: tl, x, h => by
    rw [splitB_cons] at h
    split at h
    · rcases List.mem_cons.1 h with rfl | h
      · simp
      · have := splitB_each k tl x h; rw [List.length_cons]; omega
    · cases h2 : splitB k tl with
      | nil => exact absurd h2 (splitB_ne k tl)
      | cons a t =>
        have h3 := fun y hy => splitB_each k tl y (by rw [h2]; exact hy)
        rw [h2] at h
        simp only [glue] at h
        rcases List.mem_cons.1 h with rfl | h
        · have := h3 a (List.mem_cons_self ..); simp; omega
        · have := h3 x (List.mem_cons_of_mem _ h); rw [List.length_cons]; omega
end Go.Proofs.YtgljafiegpjlkaaGreatDoor

namespace Go.Proofs.YtgljafiegpjlkaaGreatDoor
open Go.RowKit Go.Sort
theorem TriM.of_block {w : World} {g : Nat} {T : TypeId} {t : Tri} {A1 A2 A3 : Option Addr} {c1 c2 c3 : Nat}
    (hg : w.heap[g]? = some (.cells #[.int .i64 t.a.base, .slice A1 t.a.digits.length c1, .int .i64 t.b.base, .slice A2 t.b.digits.length c2, .int .i64 t.s.base, .slice A3 t.s.digits.length c3, .int .i64 t.carry] T (0, 0)))
    (r1 : RI w A1 t.a.digits.length t.a.digits) (r2 : RI w A2 t.b.digits.length t.b.digits) (r3 : RI w A3 t.s.digits.length t.s.digits) : TriM w ⟨g, 0, none⟩ t := by
  have hc : ∀ i v, #[Value.int .i64 t.a.base, .slice A1 t.a.digits.length c1, .int .i64 t.b.base, .slice A2 t.b.digits.length c2, .int .i64 t.s.base, .slice A3 t.s.digits.length c3, .int .i64 t.carry][i]? = some v → w.cell? ⟨g, i, none⟩ = some v := fun i v hv => by rw [cell_of_row w g i _ T (0, 0) hg]; exact hv
  exact ⟨⟨A1, c1, ⟨hc 0 _ rfl, hc 1 _ rfl⟩, r1⟩, ⟨A2, c2, ⟨hc 2 _ rfl, hc 3 _ rfl⟩, r2⟩, ⟨A3, c3, ⟨hc 4 _ rfl, hc 5 _ rfl⟩, r3⟩, hc 6 _ rfl⟩
theorem RL.one {w : World} {g : Nat} {t : Tri} (h : TriM w ⟨g, 0, none⟩ t) (hl : g < w.heap.size) : RL TriM 7 w (some ⟨g, 0, none⟩) 1 [t] :=
  ⟨rfl, fun _ => ⟨_, rfl, hl, fun k hk => by
    have : k = 0 := by simp at hk; omega
    subst this
    rw [Nat.zero_mul, addr_add_zero]; exact h⟩⟩
theorem RegisterText_reg (r : Reg) (A : Option Addr) (c : Nat) (w : World) (hr : RI w A r.digits.length r.digits) (hm : SmallReg r) (ht : TB w) :
    Calls Tryz.prog 165 #[.agg #[.int .i64 r.base, .slice A r.digits.length c]] w fun e w' => e = .returned (.string ⟨(rtext r).toArray⟩) ∧ Below w.heap.size w w' := RegisterText_any r.base A _ c r.digits w hr hm ht
def ttextL (t : Tri) : ByteArray := ((((((⟨(rtext t.a).toArray⟩ : ByteArray) ++ (⟨#[32, 43, 32]⟩ : ByteArray)) ++ (⟨(rtext t.b).toArray⟩ : ByteArray)) ++ (⟨#[32, 61, 32]⟩ : ByteArray)) ++ (⟨(rtext t.s).toArray⟩ : ByteArray)) ++ (⟨#[32]⟩ : ByteArray)) ++ (⟨(dec t.carry).toArray⟩ : ByteArray)
def ttext (t : Tri) : ByteArray := if vtrials [t] then ttextL t else ⟨#[]⟩
theorem rtext_len (r : Reg) : (rtext r).length ≤ 60 := by
  unfold rtext
  split
  · rename_i h
    obtain ⟨⟨hb1, hb2⟩, ⟨hl1, hl2⟩, -, -⟩ := vreg_iff.1 h
    have := dec_len r.base (by omega) (by omega)
    simp only [rtextL, List.length_append, List.length_map, List.length_reverse, List.length_cons, List.length_nil]; omega
  · simp
theorem vtrials_one {t : Tri} (h : vtrials [t] = true) : t.a.ok = true ∧ t.b.ok = true ∧ t.s.ok = true ∧ 0 ≤ t.carry ∧ t.carry ≤ 1 := by
  simp only [vtrials, List.all_cons, List.all_nil, Bool.and_true, Bool.and_eq_true, List.headD_cons, triGood, vlike] at h
  obtain ⟨⟨⟨⟨h1, h2⟩, h3⟩, h4⟩, -⟩ := h
  obtain ⟨h5, h6⟩ := betB_iff.1 h4
  exact ⟨h1.1.1, h2.1.1, h3.1.1, h5, h6⟩
end Go.Proofs.YtgljafiegpjlkaaGreatDoor

namespace Go.Proofs.YtgljafiegpjlkaaGreatDoor
open Go.RowKit Go.Sort
/-- powers -/
def pw (b : Int) : Nat → Int
  | 0 => 1
  | n + 1 => pw b n * b
theorem pw_pos (b : Int) (hb : 2 ≤ b) (n : Nat) : 1 ≤ pw b n := by
  induction n with
  | zero => simp [pw]
  | succ n ih => have := Int.mul_le_mul ih hb (by omega) (by omega); simp only [pw]; omega
theorem pw_step (b : Int) (hb : 2 ≤ b) (n : Nat) : 2 * pw b n ≤ pw b (n + 1) := by
  have := Int.mul_le_mul_of_nonneg_left hb (show 0 ≤ pw b n by have := pw_pos b hb n; omega)
  simp only [pw]; omega
theorem pw_mono (b : Int) (hb : 2 ≤ b) (n k : Nat) (h : n ≤ k) : pw b n ≤ pw b k := by
  induction h with
  | refl => omega
  | @step m _ ih => have h1 := pw_step b hb m; have h2 := pw_pos b hb m; exact Int.le_trans ih (by show pw b m ≤ pw b (m + 1); omega)
def powC (b : Int) (n : Nat) : Int := if pw b n ≤ 1000000000001 then pw b n else 0
def powS (b : Int) (n : Nat) : Int := min 1000000000002 (pw b n)
theorem powS_succ (b : Int) (hb : 2 ≤ b) (n : Nat) : powS b (n + 1) = min 1000000000002 (powS b n * b) := by
  unfold powS
  have h1 := pw_pos b hb n
  rcases Int.le_total (pw b n) 1000000000002 with h | h
  · rw [Int.min_eq_right h]; rfl
  · have h2 := pw_step b hb n
    rw [Int.min_eq_left h, Int.min_eq_left (by omega), Int.min_eq_left (by omega)]
theorem powS_bd (b : Int) (hb : 2 ≤ b) (n : Nat) : 1 ≤ powS b n ∧ powS b n ≤ 1000000000002 := by
  have := pw_pos b hb n; unfold powS; omega
theorem power_any (b : Int) (n : Nat) (w : World) (hb1 : 2 ≤ b) (hb2 : b ≤ 16) (hn : n ≤ 9223372036854775807) :
    Calls Tryz.prog 283 #[.int .i64 b, .int .i64 n] w fun e w' => e = .returned (.int .i64 (powC b n)) ∧ w = w' := by
  go_enter Tryz.func283, Tryz.ntmps283
  go_wp2
  go_loop [5, 7] (fun v i => ∃ k : Nat, k ≤ n ∧ i = .int .i64 k ∧ v = .int .i64 (pw b k) ∧ pw b k ≤ 1000000000001) (fun _ i => n - (intOf i).toNat)
  case atStart => exact ⟨0, Nat.zero_le _, rfl, rfl, by simp [pw]⟩
  case round =>
    obtain ⟨k, hk, rfl, rfl, hv⟩ := hrel
    have h1 := pw_pos b hb1 k
    have hm0 : 0 ≤ pw b k * b := Int.mul_nonneg (by omega) (by omega)
    have hm1 : pw b k * b ≤ 16000000000016 := by
      have := Int.mul_le_mul hv hb2 (by omega) (by omega); omega
    by_cases hkn : k < n
    · have hP : Hid (pw b (k + 1) = pw b k * b) := rfl
      have hi1 : (k : Int) < (n : Int) := by omega
      by_cases hq : 1000000000000 < pw b k * b - 1
      · go_wp2
        go_ret
        exact ⟨ret_int (by have h2 := pw_mono b hb1 (k + 1) n (by omega); rw [hP.out] at h2; unfold powC; rw [if_neg (by omega)]), rfl⟩
      · go_wp2
        go_round
        case rel => exact ⟨k + 1, by omega, by go_num, by rw [hP.out], by rw [hP.out]; omega⟩
        case measure => simp [intOf]; omega
    · have hi1 : ¬ (k : Int) < (n : Int) := by omega
      obtain rfl : k = n := by omega
      go_wp2
      go_ret
      exact ⟨ret_int (by unfold powC; rw [if_pos hv]), rfl⟩
theorem l10Power_any (b : Int) (n : Nat) (w : World) (hb1 : 2 ≤ b) (hb2 : b ≤ 16) (hn : n ≤ 9223372036854775807) :
    Calls Tryz.prog 313 #[.int .i64 b, .int .i64 n] w fun e w' => e = .returned (.int .i64 (powS b n)) ∧ w = w' := by
  go_enter Tryz.func313, Tryz.ntmps313
  go_wp2
  go_loop [5, 1] (fun v i => ∃ k j : Nat, k + j = n ∧ i = .int .i64 j ∧ v = .int .i64 (powS b k)) (fun _ i => (intOf i).toNat)
  case atStart => exact ⟨0, n, by omega, rfl, rfl⟩
  case round =>
    obtain ⟨k, j, hk, rfl, rfl⟩ := hrel
    obtain ⟨h1, hv⟩ := powS_bd b hb1 k
    have hm0 : 0 ≤ powS b k * b := Int.mul_nonneg (by omega) (by omega)
    have hm1 : powS b k * b ≤ 16000000000032 := by
      have := Int.mul_le_mul hv hb2 (by omega) (by omega); omega
    have HP := Lib.hid (powS_succ b hb1 k)
    by_cases hj : 0 < j
    · have hi1 : (0 : Int) < (j : Int) := by omega
      go_wp2_with (go_at_call 314; refine (l00Min_any _ _ _).mono ?_; rintro e w' ⟨rfl, rfl⟩)
      go_round
      case rel => exact ⟨k + 1, j - 1, by omega, by congr 1; omega, by rw [HP.out]⟩
      case measure => simp [intOf]; omega
    · obtain rfl : j = 0 := by omega
      go_wp2_with (go_at_call 314; refine (l00Min_any _ _ _).mono ?_; rintro e w' ⟨rfl, rfl⟩)
      go_ret
      exact ⟨ret_int (by congr 1), rfl⟩
theorem l10Full_any (b : Int) (n : Nat) (w : World) (hb1 : 2 ≤ b) (hb2 : b ≤ 16) (hn : n ≤ 9223372036854775807) :
    Calls Tryz.prog 232 #[.int .i64 b, .int .i64 n] w fun e w' => e = .returned (.bool (decide (pw b n ≤ 1000000000001))) ∧ w = w' := by
  obtain ⟨h1, hv⟩ := powS_bd b hb1 n
  go_enter Tryz.func232, Tryz.ntmps232
  go_wp2_with (go_at_call 313; refine (l10Power_any _ _ _ hb1 hb2 hn).mono ?_; rintro e w' ⟨rfl, rfl⟩)
  go_ret
  exact ⟨ret_bool (by unfold powS; rw [decide_eq_decide]; omega), rfl⟩
theorem powC_zero (b : Int) (hb : 2 ≤ b) (n : Nat) : (powC b n == 0) = !decide (pw b n ≤ 1000000000001) := by
  have := pw_pos b hb n
  unfold powC
  split
  · rename_i h; rw [decide_eq_true h]; simp; omega
  · rename_i h; rw [decide_eq_false h]; rfl
end Go.Proofs.YtgljafiegpjlkaaGreatDoor
