import Derived.Test.YtcngeifkddhkmaaDoorB2
import Derived.Lib.ItoaLen
namespace Go.Proofs.YtcngeifkddhkmaaDoor
open Go.RowKit
/-- the decimal form -/
def dec (n : Int) : List UInt8 := Lib.itoa n
def digs (u : Nat) : List UInt8 := if u = 0 then [] else Lib.decDigits u
theorem digs_step (u : Nat) (h : u ≠ 0) : digs u = digs (u / 10) ++ [UInt8.ofNat (48 + u % 10)] := by
  unfold digs
  rw [if_neg h]
  by_cases h1 : u < 10
  · rw [if_pos (by omega), Lib.decDigits_one h1, Nat.mod_eq_of_lt h1]; rfl
  · rw [if_neg (by omega)]
    conv => lhs; rw [Lib.decDigits, dif_neg h1]
theorem digs_len (n : Int) (h0 : -9223372036854775808 ≤ n) (h1 : n ≤ 9223372036854775807) : (digs n.natAbs).length ≤ 21 := by
  have h := Lib.itoa_length_le n h0 h1
  unfold digs
  split
  · simp
  · by_cases hn : n < 0
    · unfold Lib.itoa at h; rw [if_pos hn] at h; simp at h; omega
    · unfold Lib.itoa at h; rw [if_neg hn] at h
      have : n.natAbs = n.toNat := by omega
      rw [this]; omega
theorem dec_of (n : Int) : dec n = if n = 0 then [48] else if n < 0 then 45 :: digs n.natAbs else digs n.natAbs := by
  unfold dec Lib.itoa digs
  by_cases h0 : n = 0
  · subst h0; rw [if_pos rfl]; simp [Lib.decDigits_one]
  · rw [if_neg h0, if_neg (by omega : ¬ n.natAbs = 0)]
    by_cases hn : n < 0
    · rw [if_pos hn, if_pos hn]
    · rw [if_neg hn, if_neg hn, show n.natAbs = n.toNat by omega]
theorem ofNat_toNat48 (d : Nat) (h : d < 10) : ((UInt8.ofNat (48 + d)).toNat : Int) = 48 + (d : Int) := by
  simp [UInt8.toNat_ofNat]; omega
theorem tmod_neg10 (u : Nat) : (-(u : Int)).tmod 10 = -((u % 10 : Nat) : Int) := by
  rw [Int.neg_tmod]; rfl
theorem tdiv_neg10 (u : Nat) : (-(u : Int)).tdiv 10 = -((u / 10 : Nat) : Int) := by
  rw [Int.neg_tdiv]; rfl
theorem OwnB.lit1 (w : World) (b : UInt8) (base : Nat) (hb : base ≤ w.heap.size) : OwnB (w.alloc (.cells #[byteV b] 5)) base (.slice (some ⟨w.heap.size, 0, none⟩) 1 1) [b] := World.ownsRow_lit w #[byteV b] 1 hb (by decide) rfl
theorem OwnB.cells_at {w : World} {base g c n : Nat} {ds : List UInt8} (h : OwnB w base (.slice (some ⟨g, 0, none⟩) n c) ds) : RB w (some ⟨g, 0, none⟩) ds.length ds ∧ g < w.heap.size := by
  rcases h.2 with ⟨h1, _⟩ | ⟨g', cap, cur, h1, hb, hg, hnc, _, hcs, htake⟩
  · cases h1
  · injection h1 with h1 h2 h3; injection h1 with h1; injection h1 with h1; subst h1
    exact ⟨⟨rfl, fun _ => ⟨_, rfl, (Array.getElem?_eq_some_iff.1 hg).1, fun j u hu => h.cells (g := g) rfl j (byteV u) (by simp [hu])⟩⟩, (Array.getElem?_eq_some_iff.1 hg).1⟩
theorem byteV_one (bs : List UInt8) : ∀ u ∈ bs.map byteV, u.oneCell' = true := by
  intro u hu; obtain ⟨b, -, rfl⟩ := List.mem_map.1 hu; rfl
theorem byte48 (u : Nat) : byteV (UInt8.ofNat (48 + u % 10)) = .int .u8 (48 + (u : Int) % 10) := by
  unfold byteV; rw [ofNat_toNat48 (u % 10) (by omega)]; rfl
theorem ret_str {a b : ByteArray} (h : a = b) : Ending.returned (.string a) = .returned (.string b) := by rw [h]
set_option maxRecDepth 100000 in
set_option maxHeartbeats 800000 in
theorem l01Dec_any (n : Int) (w : World) (h0 : -9223372036854775808 ≤ n) (h1 : n ≤ 9223372036854775807) :
    Calls Tryd.prog 171 #[.int .i64 n] w fun e w' => e = .returned (.string ⟨(dec n).toArray⟩) ∧ Below w.heap.size w w' := by
  have hlen := digs_len n h0 h1
  rcases Int.lt_or_le n 0 with hn | hn
  · obtain ⟨u0, rfl⟩ : ∃ u : Nat, n = -(u : Int) := ⟨n.natAbs, by omega⟩
    have HD := Lib.hid (dec_of (-(u0 : Int)))
    have hu0 : (-(u0 : Int)).natAbs = u0 := by omega
    rw [hu0] at hlen
    have HU := Lib.hid hu0; clear hu0
    go_enter Tryd.func171, Tryd.ntmps171
    go_wp2
    go_loopw [3, 4, 5] (fun v k _ wr => ∃ (u : Nat) (bs : List UInt8) (g c : Nat), u ≤ u0 ∧ k = .int .i64 (-(u : Int)) ∧ v = .slice (some ⟨g, 0, none⟩) bs.length c ∧ OwnB wr w.heap.size (.slice (some ⟨g, 0, none⟩) bs.length c) bs ∧ digs u0 = digs u ++ bs ∧ Below w.heap.size w wr) (fun _ k _ _ => (intOf k).natAbs)
    case atStart => exact ⟨u0, [], w.heap.size, 0, Nat.le_refl _, rfl, rfl, World.ownsRow_lit w #[] 0 (Nat.le_refl _) (by decide) rfl, by simp, (Below.refl _ _).alloc (Nat.le_refl _) _⟩
    case round =>
      obtain ⟨u, bs, g, c, hu, rfl, rfl, hown, hdg, hbr⟩ := hrel
      have hbl : bs.length ≤ 21 := by rw [hdg] at hlen; simp at hlen; omega
      obtain ⟨hrb, hgl⟩ := hown.cells_at
      have HG := Lib.hid hdg; clear hdg
      rcases Nat.eq_zero_or_pos u with hu1 | hu1
      · subst hu1
        have HE : Hid (digs u0 = bs) := HG.out
        have hcv := conv_bytes wr (some ⟨g, 0, none⟩) bs.length c bs hrb
        by_cases hz : bs.length = 0
        · have hzz : ((bs.length : Int) == 0) = true := by simp [hz]
          have HF : Hid (dec (-(u0 : Int)) = [48]) := by
            have h1 := HE.out
            have : u0 = 0 := by
              rcases Nat.eq_zero_or_pos u0 with h | h
              · exact h
              · rw [digs_step u0 (by omega)] at h1; rw [← h1] at hz; simp at hz
            rw [Hid, HD.out, if_pos (by omega)]
          have Hz := Lib.hid hz; clear hz
          go_wp2
          go_ret
          exact ⟨ret_str (by rw [HF.out]), hbr⟩
        · have hzz : ((bs.length : Int) == 0) = false := by rw [beq_eq_false_iff_ne]; omega
          have h0 : u0 ≠ 0 := by rintro rfl; have h1 := HE.out; simp [digs] at h1; exact hz (by rw [h1]; rfl)
          have HF : Hid (dec (-(u0 : Int)) = if (-(u0 : Int)) < 0 then 45 :: bs else bs) := by rw [Hid, HD.out, if_neg (by omega), HU.out, HE.out]
          clear hz
          first
            | (have hnn : (-(u0 : Int)) < 0 := by omega
               go_wp2
               go_ret
               exact ⟨ret_str (by rw [HF.out, if_pos hnn]; rfl), hbr⟩)
            | (have hnn : ¬ (-(u0 : Int)) < 0 := by omega
               go_wp2
               go_ret
               exact ⟨ret_str (by rw [HF.out, if_neg (by omega)]), hbr⟩)
      · have t3 : ((-(u : Int)) != 0) = true := by rw [bne_iff_ne]; omega
        have HN : Hid (digs u0 = digs (u / 10) ++ (UInt8.ofNat (48 + u % 10) :: bs)) := by rw [Hid, HG.out, digs_step u (by omega)]; simp
        clear hrb
        obtain ⟨dd, hdd⟩ : ∃ dd : Int, dd = (u : Int) % 10 := ⟨_, rfl⟩
        have hd0 : 0 ≤ dd := by omega
        have hd1 : dd < 10 := by omega
        have hbv : byteV (UInt8.ofNat (48 + u % 10)) = .int .u8 (48 + dd) := by rw [byte48 u, hdd]
        have hl1 := OwnB.lit1 wr (UInt8.ofNat (48 + u % 10)) w.heap.size hbr.size
        have t1 := tmod_neg10 u
        have t2 := tdiv_neg10 u
        have t4 : ((u : Int)) % 10 = dd := hdd.symm
        have t5 : (((u % 10 : Nat)) : Int) = dd := by omega
        rw [t5] at t1
        clear t5
        have HDD := Lib.hid hdd; clear hdd
        rcases Int.lt_or_eq_of_le hd0 with hpos | hzero
        rotate_right 1
        · subst hzero
          rw [Int.neg_zero] at t1
          have hbv : byteV (UInt8.ofNat (48 + u % 10)) = .int .u8 48 := hbv
          rw [hbv] at hl1
          have hcs := (World.ownsRow.alloc hown (.cells #[.int .u8 48] 5)).cells (g := g) rfl
          clear hbv
          go_wp2_with (at_builtin; refine appG tpB rfl _ _ rfl w.heap.size (.slice (some ⟨wr.heap.size, 0, none⟩) 1 1) 1 ([UInt8.ofNat (48 + u % 10)].map byteV) rfl hl1 ⟨g, 0, none⟩ bs.length c (bs.map byteV) rfl (by simp) hcs (byteV_one bs) (by omega) (by omega) (by have := hbr.size; simp; omega) ?_; intro v1 w1 hown1 hg1 hat1)
          obtain ⟨g', c', hv', hbg', hlt'⟩ := hown1.form (by omega)
          subst hv'
          have hbz : Below w.heap.size w w1 := (hbr.alloc hbr.size _).grown hg1 (Nat.le_trans hbr.size (by simp)) (fun k hk => Nat.le_trans hbr.size (Nat.le_of_eq (by simpa [Value.ownBlock] using hk)))
          have hown2 : OwnB w1 w.heap.size (.slice (some ⟨g', 0, none⟩) (UInt8.ofNat (48 + u % 10) :: bs).length c') (UInt8.ofNat (48 + u % 10) :: bs) := by unfold OwnB; rw [List.length_cons, Nat.add_comm]; exact hown1
          clear hown1 hl1 hcs
          go_roundw
          case rel => exact ⟨u / 10, UInt8.ofNat (48 + u % 10) :: bs, g', c', by omega, by congr 1, by rw [List.length_cons, Nat.add_comm], hown2, HN.out, hbz⟩
          case measure => simp [intOf]; omega
        · skip
          rw [hbv] at hl1
          have hcs := (World.ownsRow.alloc hown (.cells #[.int .u8 (48 + dd)] 5)).cells (g := g) rfl
          clear hbv
          go_wp2_with (at_builtin; refine appG tpB rfl _ _ rfl w.heap.size (.slice (some ⟨wr.heap.size, 0, none⟩) 1 1) 1 ([UInt8.ofNat (48 + u % 10)].map byteV) rfl hl1 ⟨g, 0, none⟩ bs.length c (bs.map byteV) rfl (by simp) hcs (byteV_one bs) (by omega) (by omega) (by have := hbr.size; simp; omega) ?_; intro v1 w1 hown1 hg1 hat1)
          obtain ⟨g', c', hv', hbg', hlt'⟩ := hown1.form (by omega)
          subst hv'
          have hbz : Below w.heap.size w w1 := (hbr.alloc hbr.size _).grown hg1 (Nat.le_trans hbr.size (by simp)) (fun k hk => Nat.le_trans hbr.size (Nat.le_of_eq (by simpa [Value.ownBlock] using hk)))
          have hown2 : OwnB w1 w.heap.size (.slice (some ⟨g', 0, none⟩) (UInt8.ofNat (48 + u % 10) :: bs).length c') (UInt8.ofNat (48 + u % 10) :: bs) := by unfold OwnB; rw [List.length_cons, Nat.add_comm]; exact hown1
          clear hown1 hl1 hcs
          go_roundw
          case rel => exact ⟨u / 10, UInt8.ofNat (48 + u % 10) :: bs, g', c', by omega, by congr 1, by rw [List.length_cons, Nat.add_comm], hown2, HN.out, hbz⟩
          case measure => simp [intOf]; omega
  · obtain ⟨u0, rfl⟩ : ∃ u : Nat, n = (u : Int) := ⟨n.natAbs, by omega⟩
    have HD := Lib.hid (dec_of (u0 : Int))
    have hu0 : ((u0 : Int)).natAbs = u0 := by omega
    rw [hu0] at hlen
    have HU := Lib.hid hu0; clear hu0
    go_enter Tryd.func171, Tryd.ntmps171
    go_wp2
    go_loopw [3, 4, 5] (fun v k _ wr => ∃ (u : Nat) (bs : List UInt8) (g c : Nat), u ≤ u0 ∧ k = .int .i64 ((u : Int)) ∧ v = .slice (some ⟨g, 0, none⟩) bs.length c ∧ OwnB wr w.heap.size (.slice (some ⟨g, 0, none⟩) bs.length c) bs ∧ digs u0 = digs u ++ bs ∧ Below w.heap.size w wr) (fun _ k _ _ => (intOf k).natAbs)
    case atStart => exact ⟨u0, [], w.heap.size, 0, Nat.le_refl _, rfl, rfl, World.ownsRow_lit w #[] 0 (Nat.le_refl _) (by decide) rfl, by simp, (Below.refl _ _).alloc (Nat.le_refl _) _⟩
    case round =>
      obtain ⟨u, bs, g, c, hu, rfl, rfl, hown, hdg, hbr⟩ := hrel
      have hbl : bs.length ≤ 21 := by rw [hdg] at hlen; simp at hlen; omega
      obtain ⟨hrb, hgl⟩ := hown.cells_at
      have HG := Lib.hid hdg; clear hdg
      rcases Nat.eq_zero_or_pos u with hu1 | hu1
      · subst hu1
        have HE : Hid (digs u0 = bs) := HG.out
        have hcv := conv_bytes wr (some ⟨g, 0, none⟩) bs.length c bs hrb
        by_cases hz : bs.length = 0
        · have hzz : ((bs.length : Int) == 0) = true := by simp [hz]
          have HF : Hid (dec ((u0 : Int)) = [48]) := by
            have h1 := HE.out
            have : u0 = 0 := by
              rcases Nat.eq_zero_or_pos u0 with h | h
              · exact h
              · rw [digs_step u0 (by omega)] at h1; rw [← h1] at hz; simp at hz
            rw [Hid, HD.out, if_pos (by omega)]
          have Hz := Lib.hid hz; clear hz
          go_wp2
          go_ret
          exact ⟨ret_str (by rw [HF.out]), hbr⟩
        · have hzz : ((bs.length : Int) == 0) = false := by rw [beq_eq_false_iff_ne]; omega
          have h0 : u0 ≠ 0 := by rintro rfl; have h1 := HE.out; simp [digs] at h1; exact hz (by rw [h1]; rfl)
          have HF : Hid (dec ((u0 : Int)) = if ((u0 : Int)) < 0 then 45 :: bs else bs) := by rw [Hid, HD.out, if_neg (by omega), HU.out, HE.out]
          clear hz
          first
            | (have hnn : ((u0 : Int)) < 0 := by omega
               go_wp2
               go_ret
               exact ⟨ret_str (by rw [HF.out, if_pos hnn]; rfl), hbr⟩)
            | (have hnn : ¬ ((u0 : Int)) < 0 := by omega
               go_wp2
               go_ret
               exact ⟨ret_str (by rw [HF.out, if_neg (by omega)]), hbr⟩)
      · have t3 : (((u : Int)) != 0) = true := by rw [bne_iff_ne]; omega
        have HN : Hid (digs u0 = digs (u / 10) ++ (UInt8.ofNat (48 + u % 10) :: bs)) := by rw [Hid, HG.out, digs_step u (by omega)]; simp
        clear hrb
        obtain ⟨dd, hdd⟩ : ∃ dd : Int, dd = (u : Int) % 10 := ⟨_, rfl⟩
        have hd0 : 0 ≤ dd := by omega
        have hd1 : dd < 10 := by omega
        have hbv : byteV (UInt8.ofNat (48 + u % 10)) = .int .u8 (48 + dd) := by rw [byte48 u, hdd]
        have hl1 := OwnB.lit1 wr (UInt8.ofNat (48 + u % 10)) w.heap.size hbr.size
        have t1 := tmod_neg10 u
        have t2 := tdiv_neg10 u
        have t4 : ((u : Int)) % 10 = dd := hdd.symm
        have t5 : (((u % 10 : Nat)) : Int) = dd := by omega
        rw [t5] at t1
        clear t5
        have HDD := Lib.hid hdd; clear hdd
        rcases Int.lt_or_eq_of_le hd0 with hpos | hzero
        rotate_right 1
        · subst hzero
          skip
          have hbv : byteV (UInt8.ofNat (48 + u % 10)) = .int .u8 48 := hbv
          rw [hbv] at hl1
          have hcs := (World.ownsRow.alloc hown (.cells #[.int .u8 48] 5)).cells (g := g) rfl
          clear hbv
          go_wp2_with (at_builtin; refine appG tpB rfl _ _ rfl w.heap.size (.slice (some ⟨wr.heap.size, 0, none⟩) 1 1) 1 ([UInt8.ofNat (48 + u % 10)].map byteV) rfl hl1 ⟨g, 0, none⟩ bs.length c (bs.map byteV) rfl (by simp) hcs (byteV_one bs) (by omega) (by omega) (by have := hbr.size; simp; omega) ?_; intro v1 w1 hown1 hg1 hat1)
          obtain ⟨g', c', hv', hbg', hlt'⟩ := hown1.form (by omega)
          subst hv'
          have hbz : Below w.heap.size w w1 := (hbr.alloc hbr.size _).grown hg1 (Nat.le_trans hbr.size (by simp)) (fun k hk => Nat.le_trans hbr.size (Nat.le_of_eq (by simpa [Value.ownBlock] using hk)))
          have hown2 : OwnB w1 w.heap.size (.slice (some ⟨g', 0, none⟩) (UInt8.ofNat (48 + u % 10) :: bs).length c') (UInt8.ofNat (48 + u % 10) :: bs) := by unfold OwnB; rw [List.length_cons, Nat.add_comm]; exact hown1
          clear hown1 hl1 hcs
          go_roundw
          case rel => exact ⟨u / 10, UInt8.ofNat (48 + u % 10) :: bs, g', c', by omega, by congr 1, by rw [List.length_cons, Nat.add_comm], hown2, HN.out, hbz⟩
          case measure => simp [intOf]; omega
        · skip
          rw [hbv] at hl1
          have hcs := (World.ownsRow.alloc hown (.cells #[.int .u8 (48 + dd)] 5)).cells (g := g) rfl
          clear hbv
          go_wp2_with (at_builtin; refine appG tpB rfl _ _ rfl w.heap.size (.slice (some ⟨wr.heap.size, 0, none⟩) 1 1) 1 ([UInt8.ofNat (48 + u % 10)].map byteV) rfl hl1 ⟨g, 0, none⟩ bs.length c (bs.map byteV) rfl (by simp) hcs (byteV_one bs) (by omega) (by omega) (by have := hbr.size; simp; omega) ?_; intro v1 w1 hown1 hg1 hat1)
          obtain ⟨g', c', hv', hbg', hlt'⟩ := hown1.form (by omega)
          subst hv'
          have hbz : Below w.heap.size w w1 := (hbr.alloc hbr.size _).grown hg1 (Nat.le_trans hbr.size (by simp)) (fun k hk => Nat.le_trans hbr.size (Nat.le_of_eq (by simpa [Value.ownBlock] using hk)))
          have hown2 : OwnB w1 w.heap.size (.slice (some ⟨g', 0, none⟩) (UInt8.ofNat (48 + u % 10) :: bs).length c') (UInt8.ofNat (48 + u % 10) :: bs) := by unfold OwnB; rw [List.length_cons, Nat.add_comm]; exact hown1
          clear hown1 hl1 hcs
          go_roundw
          case rel => exact ⟨u / 10, UInt8.ofNat (48 + u % 10) :: bs, g', c', by omega, by congr 1, by rw [List.length_cons, Nat.add_comm], hown2, HN.out, hbz⟩
          case measure => simp [intOf]; omega
end Go.Proofs.YtcngeifkddhkmaaDoor
