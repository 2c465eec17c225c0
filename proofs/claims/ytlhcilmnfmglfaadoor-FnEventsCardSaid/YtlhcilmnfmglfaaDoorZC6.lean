/- Part 6: lemmas and contracts of the claim's functions. -/
import Derived.Test.YtlhcilmnfmglfaaDoorZC1
import Derived.Test.YtlhcilmnfmglfaaDoorZC2
import Derived.Test.YtlhcilmnfmglfaaDoorZC3
import Derived.Test.YtlhcilmnfmglfaaDoorZC4
import Derived.Test.YtlhcilmnfmglfaaDoorZC5
import Derived.Lib.ItoaLen
import Derived.Test.YtlhcilmnfmglfaaDoorShelf
namespace Go.Proofs.YtlhcilmnfmglfaaDoor
open Go.RowKit
/-- the decimal form -/
def dec (n : Int) : List UInt8 := Lib.itoa n
def digs (u : Nat) : List UInt8 := if u = 0 then [] else Lib.decDigits u
theorem digs_step (u : Nat) (h : u ≠ 0) : digs u = digs (u / 10) ++ [UInt8.ofNat (48 + u % 10)] := by
  unfold digs
  rw [if_neg h]
  by_cases h1 : u < 10
  · rw [if_pos (by omega), Lib.decDigits_one h1, Nat.mod_eq_of_lt h1]; rfl
  · rw [if_neg (by omega)]
    conv => lhs; rw [Lib.decDigits, dif_neg h1]
theorem digs_len (n : Int) (h0 : -9223372036854775808 ≤ n) (h1 : n ≤ 9223372036854775807) : (digs n.natAbs).length ≤ 21 := by
  have h := Lib.itoa_length_le n h0 h1
  unfold digs
  split
  · simp
  · by_cases hn : n < 0
    · unfold Lib.itoa at h; rw [if_pos hn] at h; simp at h; omega
    · unfold Lib.itoa at h; rw [if_neg hn] at h
      have : n.natAbs = n.toNat := by omega
      rw [this]; omega
theorem dec_of (n : Int) : dec n = if n = 0 then [48] else if n < 0 then 45 :: digs n.natAbs else digs n.natAbs := by
  unfold dec Lib.itoa digs
  by_cases h0 : n = 0
  · subst h0; rw [if_pos rfl]; simp [Lib.decDigits_one]
  · rw [if_neg h0, if_neg (by omega : ¬ n.natAbs = 0)]
    by_cases hn : n < 0
    · rw [if_pos hn, if_pos hn]
    · rw [if_neg hn, if_neg hn, show n.natAbs = n.toNat by omega]
theorem ofNat_toNat48 (d : Nat) (h : d < 10) : ((UInt8.ofNat (48 + d)).toNat : Int) = 48 + (d : Int) := by
  simp [UInt8.toNat_ofNat]; omega
theorem tmod_neg10 (u : Nat) : (-(u : Int)).tmod 10 = -((u % 10 : Nat) : Int) := by
  rw [Int.neg_tmod]; rfl
theorem tdiv_neg10 (u : Nat) : (-(u : Int)).tdiv 10 = -((u / 10 : Nat) : Int) := by
  rw [Int.neg_tdiv]; rfl
theorem OwnB.lit1 (w : World) (b : UInt8) (base : Nat) (hb : base ≤ w.heap.size) : OwnB (w.alloc (.cells #[byteV b] 5)) base (.slice (some ⟨w.heap.size, 0, none⟩) 1 1) [b] := World.ownsRow_lit w #[byteV b] 1 hb (by decide) rfl
theorem OwnB.cells_at {w : World} {base g c n : Nat} {ds : List UInt8} (h : OwnB w base (.slice (some ⟨g, 0, none⟩) n c) ds) : RB w (some ⟨g, 0, none⟩) ds.length ds ∧ g < w.heap.size := by
  rcases h.2 with ⟨h1, _⟩ | ⟨g', cap, cur, h1, hb, hg, hnc, _, hcs, htake⟩
  · cases h1
  · injection h1 with h1 h2 h3; injection h1 with h1; injection h1 with h1; subst h1
    exact ⟨⟨rfl, fun _ => ⟨_, rfl, (Array.getElem?_eq_some_iff.1 hg).1, fun j u hu => h.cells (g := g) rfl j (byteV u) (by simp [hu])⟩⟩, (Array.getElem?_eq_some_iff.1 hg).1⟩
theorem byteV_one (bs : List UInt8) : ∀ u ∈ bs.map byteV, u.oneCell' = true := by
  intro u hu; obtain ⟨b, -, rfl⟩ := List.mem_map.1 hu; rfl
theorem byte48 (u : Nat) : byteV (UInt8.ofNat (48 + u % 10)) = .int .u8 (48 + (u : Int) % 10) := by
  unfold byteV; rw [ofNat_toNat48 (u % 10) (by omega)]; rfl
theorem ret_str {a b : ByteArray} (h : a = b) : Ending.returned (.string a) = .returned (.string b) := by rw [h]
set_option maxRecDepth 100000 in
set_option maxHeartbeats 800000 in
theorem l01Dec_any (n : Int) (w : World) (h0 : -9223372036854775808 ≤ n) (h1 : n ≤ 9223372036854775807) :
    Calls Tryd.prog 214 #[.int .i64 n] w fun e w' => e = .returned (.string ⟨(dec n).toArray⟩) ∧ Below w.heap.size w w' := by
  have hlen := digs_len n h0 h1
  rcases Int.lt_or_le n 0 with hn | hn
  · obtain ⟨u0, rfl⟩ : ∃ u : Nat, n = -(u : Int) := ⟨n.natAbs, by omega⟩
    have HD := Lib.hid (dec_of (-(u0 : Int)))
    have hu0 : (-(u0 : Int)).natAbs = u0 := by omega
    rw [hu0] at hlen
    have HU := Lib.hid hu0; clear hu0
    go_enter Tryd.func214, Tryd.ntmps214
    go_wp2
    go_loopw [3, 4, 5] (fun v k _ wr => ∃ (u : Nat) (bs : List UInt8) (g c : Nat), u ≤ u0 ∧ k = .int .i64 (-(u : Int)) ∧ v = .slice (some ⟨g, 0, none⟩) bs.length c ∧ OwnB wr w.heap.size (.slice (some ⟨g, 0, none⟩) bs.length c) bs ∧ digs u0 = digs u ++ bs ∧ Below w.heap.size w wr) (fun _ k _ _ => (intOf k).natAbs)
    case atStart => exact ⟨u0, [], w.heap.size, 0, Nat.le_refl _, rfl, rfl, World.ownsRow_lit w #[] 0 (Nat.le_refl _) (by decide) rfl, by simp, (Below.refl _ _).alloc (Nat.le_refl _) _⟩
    case round =>
      obtain ⟨u, bs, g, c, hu, rfl, rfl, hown, hdg, hbr⟩ := hrel
      have hbl : bs.length ≤ 21 := by rw [hdg] at hlen; simp at hlen; omega
      obtain ⟨hrb, hgl⟩ := hown.cells_at
      have HG := Lib.hid hdg; clear hdg
      rcases Nat.eq_zero_or_pos u with hu1 | hu1
      · subst hu1
        have HE : Hid (digs u0 = bs) := HG.out
        have hcv := conv_bytes wr (some ⟨g, 0, none⟩) bs.length c bs hrb
        by_cases hz : bs.length = 0
        · have hzz : ((bs.length : Int) == 0) = true := by simp [hz]
          have HF : Hid (dec (-(u0 : Int)) = [48]) := by
            have h1 := HE.out
            have : u0 = 0 := by
              rcases Nat.eq_zero_or_pos u0 with h | h
              · exact h
              · rw [digs_step u0 (by omega)] at h1; rw [← h1] at hz; simp at hz
            rw [Hid, HD.out, if_pos (by omega)]
          have Hz := Lib.hid hz; clear hz
          go_wp2
          go_ret
          exact ⟨ret_str (by rw [HF.out]), hbr⟩
        · have hzz : ((bs.length : Int) == 0) = false := by rw [beq_eq_false_iff_ne]; omega
          have h0 : u0 ≠ 0 := by rintro rfl; have h1 := HE.out; simp [digs] at h1; exact hz (by rw [h1]; rfl)
          have HF : Hid (dec (-(u0 : Int)) = if (-(u0 : Int)) < 0 then 45 :: bs else bs) := by rw [Hid, HD.out, if_neg (by omega), HU.out, HE.out]
          clear hz
          first
            | (have hnn : (-(u0 : Int)) < 0 := by omega
               go_wp2
               go_ret
               exact ⟨ret_str (by rw [HF.out, if_pos hnn]; rfl), hbr⟩)
            | (have hnn : ¬ (-(u0 : Int)) < 0 := by omega
               go_wp2
               go_ret
               exact ⟨ret_str (by rw [HF.out, if_neg (by omega)]), hbr⟩)
      · have t3 : ((-(u : Int)) != 0) = true := by rw [bne_iff_ne]; omega
        have HN : Hid (digs u0 = digs (u / 10) ++ (UInt8.ofNat (48 + u % 10) :: bs)) := by rw [Hid, HG.out, digs_step u (by omega)]; simp
        clear hrb
        obtain ⟨dd, hdd⟩ : ∃ dd : Int, dd = (u : Int) % 10 := ⟨_, rfl⟩
        have hd0 : 0 ≤ dd := by omega
        have hd1 : dd < 10 := by omega
        have hbv : byteV (UInt8.ofNat (48 + u % 10)) = .int .u8 (48 + dd) := by rw [byte48 u, hdd]
        have hl1 := OwnB.lit1 wr (UInt8.ofNat (48 + u % 10)) w.heap.size hbr.size
        have t1 := tmod_neg10 u
        have t2 := tdiv_neg10 u
        have t4 : ((u : Int)) % 10 = dd := hdd.symm
        have t5 : (((u % 10 : Nat)) : Int) = dd := by omega
        rw [t5] at t1
        clear t5
        have HDD := Lib.hid hdd; clear hdd
        rcases Int.lt_or_eq_of_le hd0 with hpos | hzero
        rotate_right 1
        · subst hzero
          rw [Int.neg_zero] at t1
          have hbv : byteV (UInt8.ofNat (48 + u % 10)) = .int .u8 48 := hbv
          rw [hbv] at hl1
          have hcs := (World.ownsRow.alloc hown (.cells #[.int .u8 48] 5)).cells (g := g) rfl
          clear hbv
          go_wp2_with (at_builtin; refine appG tpB rfl _ _ rfl w.heap.size (.slice (some ⟨wr.heap.size, 0, none⟩) 1 1) 1 ([UInt8.ofNat (48 + u % 10)].map byteV) rfl hl1 ⟨g, 0, none⟩ bs.length c (bs.map byteV) rfl (by simp) hcs (byteV_one bs) (by omega) (by omega) (by have := hbr.size; simp; omega) ?_; intro v1 w1 hown1 hg1 hat1)
          obtain ⟨g', c', hv', hbg', hlt'⟩ := hown1.form (by omega)
          subst hv'
          have hbz : Below w.heap.size w w1 := (hbr.alloc hbr.size _).grown hg1 (Nat.le_trans hbr.size (by simp)) (fun k hk => Nat.le_trans hbr.size (Nat.le_of_eq (by simpa [Value.ownBlock] using hk)))
          have hown2 : OwnB w1 w.heap.size (.slice (some ⟨g', 0, none⟩) (UInt8.ofNat (48 + u % 10) :: bs).length c') (UInt8.ofNat (48 + u % 10) :: bs) := by unfold OwnB; rw [List.length_cons, Nat.add_comm]; exact hown1
          clear hown1 hl1 hcs
          go_roundw
          case rel => exact ⟨u / 10, UInt8.ofNat (48 + u % 10) :: bs, g', c', by omega, by congr 1, by rw [List.length_cons, Nat.add_comm], hown2, HN.out, hbz⟩
          case measure => simp [intOf]; omega
        · skip
          rw [hbv] at hl1
          have hcs := (World.ownsRow.alloc hown (.cells #[.int .u8 (48 + dd)] 5)).cells (g := g) rfl
          clear hbv
          go_wp2_with (at_builtin; refine appG tpB rfl _ _ rfl w.heap.size (.slice (some ⟨wr.heap.size, 0, none⟩) 1 1) 1 ([UInt8.ofNat (48 + u % 10)].map byteV) rfl hl1 ⟨g, 0, none⟩ bs.length c (bs.map byteV) rfl (by simp) hcs (byteV_one bs) (by omega) (by omega) (by have := hbr.size; simp; omega) ?_; intro v1 w1 hown1 hg1 hat1)
          obtain ⟨g', c', hv', hbg', hlt'⟩ := hown1.form (by omega)
          subst hv'
          have hbz : Below w.heap.size w w1 := (hbr.alloc hbr.size _).grown hg1 (Nat.le_trans hbr.size (by simp)) (fun k hk => Nat.le_trans hbr.size (Nat.le_of_eq (by simpa [Value.ownBlock] using hk)))
          have hown2 : OwnB w1 w.heap.size (.slice (some ⟨g', 0, none⟩) (UInt8.ofNat (48 + u % 10) :: bs).length c') (UInt8.ofNat (48 + u % 10) :: bs) := by unfold OwnB; rw [List.length_cons, Nat.add_comm]; exact hown1
          clear hown1 hl1 hcs
          go_roundw
          case rel => exact ⟨u / 10, UInt8.ofNat (48 + u % 10) :: bs, g', c', by omega, by congr 1, by rw [List.length_cons, Nat.add_comm], hown2, HN.out, hbz⟩
          case measure => simp [intOf]; omega
  · obtain ⟨u0, rfl⟩ : ∃ u : Nat, n = (u : Int) := ⟨n.natAbs, by omega⟩
    have HD := Lib.hid (dec_of (u0 : Int))
    have hu0 : ((u0 : Int)).natAbs = u0 := by omega
    rw [hu0] at hlen
    have HU := Lib.hid hu0; clear hu0
    go_enter Tryd.func214, Tryd.ntmps214
    go_wp2
    go_loopw [3, 4, 5] (fun v k _ wr => ∃ (u : Nat) (bs : List UInt8) (g c : Nat), u ≤ u0 ∧ k = .int .i64 ((u : Int)) ∧ v = .slice (some ⟨g, 0, none⟩) bs.length c ∧ OwnB wr w.heap.size (.slice (some ⟨g, 0, none⟩) bs.length c) bs ∧ digs u0 = digs u ++ bs ∧ Below w.heap.size w wr) (fun _ k _ _ => (intOf k).natAbs)
    case atStart => exact ⟨u0, [], w.heap.size, 0, Nat.le_refl _, rfl, rfl, World.ownsRow_lit w #[] 0 (Nat.le_refl _) (by decide) rfl, by simp, (Below.refl _ _).alloc (Nat.le_refl _) _⟩
    case round =>
      obtain ⟨u, bs, g, c, hu, rfl, rfl, hown, hdg, hbr⟩ := hrel
      have hbl : bs.length ≤ 21 := by rw [hdg] at hlen; simp at hlen; omega
      obtain ⟨hrb, hgl⟩ := hown.cells_at
      have HG := Lib.hid hdg; clear hdg
      rcases Nat.eq_zero_or_pos u with hu1 | hu1
      · subst hu1
        have HE : Hid (digs u0 = bs) := HG.out
        have hcv := conv_bytes wr (some ⟨g, 0, none⟩) bs.length c bs hrb
        by_cases hz : bs.length = 0
        · have hzz : ((bs.length : Int) == 0) = true := by simp [hz]
          have HF : Hid (dec ((u0 : Int)) = [48]) := by
            have h1 := HE.out
            have : u0 = 0 := by
              rcases Nat.eq_zero_or_pos u0 with h | h
              · exact h
              · rw [digs_step u0 (by omega)] at h1; rw [← h1] at hz; simp at hz
            rw [Hid, HD.out, if_pos (by omega)]
          have Hz := Lib.hid hz; clear hz
          go_wp2
          go_ret
          exact ⟨ret_str (by rw [HF.out]), hbr⟩
        · have hzz : ((bs.length : Int) == 0) = false := by rw [beq_eq_false_iff_ne]; omega
          have h0 : u0 ≠ 0 := by rintro rfl; have h1 := HE.out; simp [digs] at h1; exact hz (by rw [h1]; rfl)
          have HF : Hid (dec ((u0 : Int)) = if ((u0 : Int)) < 0 then 45 :: bs else bs) := by rw [Hid, HD.out, if_neg (by omega), HU.out, HE.out]
          clear hz
          first
            | (have hnn : ((u0 : Int)) < 0 := by omega
               go_wp2
               go_ret
               exact ⟨ret_str (by rw [HF.out, if_pos hnn]; rfl), hbr⟩)
            | (have hnn : ¬ ((u0 : Int)) < 0 := by omega
               go_wp2
               go_ret
               exact ⟨ret_str (by rw [HF.out, if_neg (by omega)]), hbr⟩)
      · have t3 : (((u : Int)) != 0) = true := by rw [bne_iff_ne]; omega
        have HN : Hid (digs u0 = digs (u / 10) ++ (UInt8.ofNat (48 + u % 10) :: bs)) := by rw [Hid, HG.out, digs_step u (by omega)]; simp
        clear hrb
        obtain ⟨dd, hdd⟩ : ∃ dd : Int, dd = (u : Int) % 10 := ⟨_, rfl⟩
        have hd0 : 0 ≤ dd := by omega
        have hd1 : dd < 10 := by omega
        have hbv : byteV (UInt8.ofNat (48 + u % 10)) = .int .u8 (48 + dd) := by rw [byte48 u, hdd]
        have hl1 := OwnB.lit1 wr (UInt8.ofNat (48 + u % 10)) w.heap.size hbr.size
        have t1 := tmod_neg10 u
        have t2 := tdiv_neg10 u
        have t4 : ((u : Int)) % 10 = dd := hdd.symm
        have t5 : (((u % 10 : Nat)) : Int) = dd := by omega
        rw [t5] at t1
        clear t5
        have HDD := Lib.hid hdd; clear hdd
        rcases Int.lt_or_eq_of_le hd0 with hpos | hzero
        rotate_right 1
        · subst hzero
          skip
          have hbv : byteV (UInt8.ofNat (48 + u % 10)) = .int .u8 48 := hbv
          rw [hbv] at hl1
          have hcs := (World.ownsRow.alloc hown (.cells #[.int .u8 48] 5)).cells (g := g) rfl
          clear hbv
          go_wp2_with (at_builtin; refine appG tpB rfl _ _ rfl w.heap.size (.slice (some ⟨wr.heap.size, 0, none⟩) 1 1) 1 ([UInt8.ofNat (48 + u % 10)].map byteV) rfl hl1 ⟨g, 0, none⟩ bs.length c (bs.map byteV) rfl (by simp) hcs (byteV_one bs) (by omega) (by omega) (by have := hbr.size; simp; omega) ?_; intro v1 w1 hown1 hg1 hat1)
          obtain ⟨g', c', hv', hbg', hlt'⟩ := hown1.form (by omega)
          subst hv'
          have hbz : Below w.heap.size w w1 := (hbr.alloc hbr.size _).grown hg1 (Nat.le_trans hbr.size (by simp)) (fun k hk => Nat.le_trans hbr.size (Nat.le_of_eq (by simpa [Value.ownBlock] using hk)))
          have hown2 : OwnB w1 w.heap.size (.slice (some ⟨g', 0, none⟩) (UInt8.ofNat (48 + u % 10) :: bs).length c') (UInt8.ofNat (48 + u % 10) :: bs) := by unfold OwnB; rw [List.length_cons, Nat.add_comm]; exact hown1
          clear hown1 hl1 hcs
          go_roundw
          case rel => exact ⟨u / 10, UInt8.ofNat (48 + u % 10) :: bs, g', c', by omega, by congr 1, by rw [List.length_cons, Nat.add_comm], hown2, HN.out, hbz⟩
          case measure => simp [intOf]; omega
        · skip
          rw [hbv] at hl1
          have hcs := (World.ownsRow.alloc hown (.cells #[.int .u8 (48 + dd)] 5)).cells (g := g) rfl
          clear hbv
          go_wp2_with (at_builtin; refine appG tpB rfl _ _ rfl w.heap.size (.slice (some ⟨wr.heap.size, 0, none⟩) 1 1) 1 ([UInt8.ofNat (48 + u % 10)].map byteV) rfl hl1 ⟨g, 0, none⟩ bs.length c (bs.map byteV) rfl (by simp) hcs (byteV_one bs) (by omega) (by omega) (by have := hbr.size; simp; omega) ?_; intro v1 w1 hown1 hg1 hat1)
          obtain ⟨g', c', hv', hbg', hlt'⟩ := hown1.form (by omega)
          subst hv'
          have hbz : Below w.heap.size w w1 := (hbr.alloc hbr.size _).grown hg1 (Nat.le_trans hbr.size (by simp)) (fun k hk => Nat.le_trans hbr.size (Nat.le_of_eq (by simpa [Value.ownBlock] using hk)))
          have hown2 : OwnB w1 w.heap.size (.slice (some ⟨g', 0, none⟩) (UInt8.ofNat (48 + u % 10) :: bs).length c') (UInt8.ofNat (48 + u % 10) :: bs) := by unfold OwnB; rw [List.length_cons, Nat.add_comm]; exact hown1
          clear hown1 hl1 hcs
          go_roundw
          case rel => exact ⟨u / 10, UInt8.ofNat (48 + u % 10) :: bs, g', c', by omega, by congr 1, by rw [List.length_cons, Nat.add_comm], hown2, HN.out, hbz⟩
          case measure => simp [intOf]; omega
end Go.Proofs.YtlhcilmnfmglfaaDoor

namespace Go.Proofs.YtlhcilmnfmglfaaDoor
open Go.RowKit Go.Sort
/-- strconv's table stands in memory -/
def TB (w : World) : Prop := Lib.TabIs Tryd.prog w "internal/strconv.uint64pow10" .u64 Lib.pow10Tab
theorem TB.below {w w' : World} (h : TB w) (hb : Below w.heap.size w w') : TB w' := by
  unfold TB Lib.TabIs World.var? at *
  cases hg : Tryd.prog.globalNamed "internal/strconv.uint64pow10" with
  | none => rw [hg] at h; cases h
  | some g =>
    rw [hg] at h
    simp only [Option.bind_some] at h ⊢
    have hl : g < w.heap.size := by
      rcases Nat.lt_or_ge g w.heap.size with h1 | h1
      · exact h1
      · rw [Array.getElem?_eq_none h1] at h; cases h
    rw [hb.block g hl]; exact h
theorem cat_bytes (a b : List UInt8) : (⟨a.toArray⟩ : ByteArray) ++ (⟨b.toArray⟩ : ByteArray) = ⟨(a ++ b).toArray⟩ := by
  apply ByteArray.ext; simp
theorem dec_len (n : Int) (h0 : -9223372036854775808 ≤ n) (h1 : n ≤ 9223372036854775807) : (dec n).length ≤ 21 := Lib.itoa_length_le n h0 h1
theorem Decimal_any (n : Int) (w : World) (h0 : -9223372036854775808 ≤ n) (h1 : n ≤ 9223372036854775807) (ht : TB w) :
    Calls Tryd.prog 83 #[.int .i64 n] w fun e w' => e = .returned (.string ⟨(dec n).toArray⟩) ∧ Below w.heap.size w w' := by
  go_enter Tryd.func83, Tryd.ntmps83
  go_wp2_with (go_at_call 147; refine (Tryd.strconv_FormatInt_10 n h0 h1 _ ht).mono ?_; rintro e w' ⟨rfl, k, os, rfl⟩)
  go_ret
  exact ⟨rfl, by rw [show grow (w.drewN k) os = grow (redrawn w (w.drawn + k)) os from rfl]; exact below_regrown w _ _⟩
/-- the character of a digit -/
def dch (d : Int) : UInt8 := if d < 10 then UInt8.ofNat (48 + d.toNat) else UInt8.ofNat (87 + d.toNat)
def rtextL (b : Int) (ds : List Int) : List UInt8 := dec b ++ [58] ++ (ds.reverse.map dch)
def rtS (b : Int) (ds : List Int) : ByteArray := ⟨(rtextL b ds).toArray⟩
theorem rtS_nil (b : Int) : rtS b [] = (⟨(dec b).toArray⟩ : ByteArray) ++ (⟨#[58]⟩ : ByteArray) := by
  rw [show (#[58] : Array UInt8) = [58].toArray from rfl, cat_bytes]; simp [rtS, rtextL]
theorem rtS_step (b : Int) (ds : List Int) (k : Nat) (h : k < ds.length) : rtS b (ds.drop k) = rtS b (ds.drop (k + 1)) ++ (⟨[dch ds[k]].toArray⟩ : ByteArray) := by
  unfold rtS; rw [cat_bytes, List.drop_eq_getElem_cons h]; unfold rtextL; rw [List.reverse_cons, List.map_append, List.append_assoc (dec b ++ [58])]; rfl
theorem rtS_len (b : Int) (ds : List Int) : (rtS b ds).size = (dec b).length + 1 + ds.length := by
  unfold rtS rtextL; simp [ByteArray.size]; omega
theorem piece (d : Int) (h0 : 0 ≤ d) (h1 : d < 16) : (⟨#[48, 49, 50, 51, 52, 53, 54, 55, 56, 57, 97, 98, 99, 100, 101, 102]⟩ : ByteArray).extract d.toNat (d + 1).toNat = ⟨[dch d].toArray⟩ := by
  obtain ⟨m, rfl⟩ : ∃ m : Nat, d = (m : Int) := ⟨d.toNat, by omega⟩
  have hm : m < 16 := by omega
  have : ∀ m : Fin 16, (⟨#[48, 49, 50, 51, 52, 53, 54, 55, 56, 57, 97, 98, 99, 100, 101, 102]⟩ : ByteArray).extract ((m.val : Int)).toNat ((m.val : Int) + 1).toNat = ⟨[dch m.val].toArray⟩ := by decide
  exact this ⟨m, hm⟩
def rtext (r : Reg) : List UInt8 := if r.ok then rtextL r.base r.digits else []
set_option maxHeartbeats 800000 in
theorem RegisterText_any (b : Int) (A : Option Addr) (n c : Nat) (ds : List Int) (w : World) (hr : RI w A n ds) (hm : n ≤ 9223372036854775807) (ht : TB w) :
    Calls Tryd.prog 95 #[.agg #[.int .i64 b, .slice A n c]] w fun e w' => e = .returned (.string ⟨(rtext ⟨b, ds⟩).toArray⟩) ∧ Below w.heap.size w w' := by
  have HL := Lib.hid hr.1
  have hb0 : Below w.heap.size w (w.alloc (.cells #[.int .i64 b, .slice A n c] 33)) := (Below.refl _ _).alloc (Nat.le_refl _) _
  rcases hv : vreg b ds with _ | _
  · have HF : Hid (rtext ⟨b, ds⟩ = []) := by simp [Hid, rtext, Reg.ok, hv]
    go_enter Tryd.func95, Tryd.ntmps95
    go_wp2_with (go_at_call 104; refine (ValidRegister_any b A n c ds _ (hr.below hb0) (by omega)).mono ?_; rintro e w1 ⟨rfl, hw1⟩; rw [hv])
    go_ret
    exact ⟨ret_str (by rw [HF.out]), hb0.trans (hw1.mono (by simp))⟩
  · have HF : Hid (rtext ⟨b, ds⟩ = rtextL b ds) := by simp [Hid, rtext, Reg.ok, hv]
    obtain ⟨⟨hb1, hb2⟩, ⟨hl1, hl2⟩, hd, -⟩ := vreg_iff.1 hv
    go_enter Tryd.func95, Tryd.ntmps95
    go_wp2_with fail
    refine (ValidRegister_any b A n c ds _ (hr.below hb0) (by omega)).mono ?_; rintro e w1 ⟨rfl, hw1⟩; rw [hv]
    obtain ⟨hc1, -⟩ := bcellB (B := w.heap.size + 1) (hw1.mono (by simp))
    go_wp2_with fail
    refine (Decimal_any b _ (by omega) (by omega) ((ht.below hb0).below hw1)).mono ?_
    rintro e w2 ⟨rfl, hw2⟩
    have hW2 : Below (w.heap.size + 1) (w.alloc (.cells #[.int .i64 b, .slice A n c] 33)) w2 := (hw1.mono (by simp)).trans (hw2.mono (by have := hw1.size; simpa using this))
    obtain ⟨hc2, -⟩ := bcellB hW2
    clear hc1
    have hdl := dec_len b (by omega) (by omega)
    go_wp2_with fail
    go_loopw [3, 4] (fun v i wr => ∃ k : Nat, k ≤ n ∧ i = .int .i64 ((k : Int) - 1) ∧ v = .string (rtS b (ds.drop k)) ∧ Below (w.heap.size + 1) (w.alloc (.cells #[.int .i64 b, .slice A n c] 33)) wr) (fun _ i _ => (intOf i + 1).toNat)
    case atStart => exact ⟨n, Nat.le_refl _, rfl, by rw [List.drop_of_length_le (by have := HL.out; omega), rtS_nil], hW2⟩
    case round =>
      obtain ⟨k, hk, rfl, rfl, hbl⟩ := hrel
      clear hc2
      rcases Nat.eq_zero_or_pos k with hk0 | hk0
      · subst hk0
        go_wp2
        go_ret
        exact ⟨ret_str (by rw [HF.out]; rfl), hb0.trans (hbl.mono (by omega))⟩
      · obtain ⟨ad, hA, hlt, hkl, hc⟩ := hr.at_ (show k - 1 < n by omega)
        rw [← World.cell?_alloc_lt w (.cells #[.int .i64 b, .slice A n c] 33) (ad.add (k - 1)) (by rw [block_of_add]; omega), ← hbl.cell (by rw [block_of_add]; omega)] at hc
        have hb0' : wr.cell? ⟨w.heap.size, 0, none⟩ = some (.int .i64 b) := by rw [hbl.cell (by simp)]; go_simp
        have hb1' : wr.cell? ⟨w.heap.size, 1, none⟩ = some (.slice A n c) := by rw [hbl.cell (by simp)]; go_simp
        obtain ⟨hd0, hd1⟩ := hd ds[k-1] (List.getElem_mem _)
        have hll : (rtS b (ds.drop k)).size ≤ 40 := by rw [rtS_len]; simp; omega
        have HS : Hid (rtS b (ds.drop (k - 1)) = rtS b (ds.drop k) ++ (⟨[dch ds[k-1]].toArray⟩ : ByteArray)) := by
          have := rtS_step b ds (k - 1) hkl; rwa [show k - 1 + 1 = k by omega] at this
        subst hA
        go_wp2
        go_quiet (fail)
        go_wp2
        go_roundw
        case rel => exact ⟨k - 1, by omega, by congr 1; omega, by rw [HS.out, piece _ hd0 (by omega)], hbl.trans (below_drewN (Below.refl _ _) _)⟩
        case measure => simp [intOf]; omega
set_option maxHeartbeats 800000 in
theorem l02Text_any (p : Addr) (r : Reg) (w : World) (hp : RegM w p r) (hv : r.ok = true) (hpb : p.block < w.heap.size) :
    Calls Tryd.prog 218 #[.pointer (some p)] w fun e w' => e = .returned (.string ⟨(rtext r).toArray⟩) ∧ Below w.heap.size w w' := by
  obtain ⟨b, ds⟩ := r
  obtain ⟨A, c, ⟨hc0, hc1⟩, hr⟩ := hp
  simp only at hc0 hc1 hr
  have HF : Hid (rtext ⟨b, ds⟩ = rtextL b ds) := by simp [Hid, rtext, hv]
  obtain ⟨⟨hb1, hb2⟩, ⟨hl1, hl2⟩, hd, -⟩ := vreg_iff.1 hv
  obtain ⟨n, hn⟩ : ∃ n, n = ds.length := ⟨_, rfl⟩
  rw [← hn] at hc1 hr
  have HL := Lib.hid hn
  rw [← hn] at hl1 hl2
  clear hn
  go_enter Tryd.func218, Tryd.ntmps218
  go_wp2_with fail
  refine (l01Dec_any b _ (by omega) (by omega)).mono ?_
  rintro e w2 ⟨rfl, hw2⟩
  have hdl := dec_len b (by omega) (by omega)
  have hc0' : w2.cell? p = some (.int .i64 b) := by rw [hw2.cell hpb]; exact hc0
  have hc1' : w2.cell? ⟨p.block, p.off + 1, none⟩ = some (.slice A n c) := by rw [hw2.cell (by exact hpb)]; exact hc1
  go_wp2_with fail
  go_loopw [4, 5] (fun v i wr => ∃ k : Nat, k ≤ n ∧ i = .int .i64 ((k : Int) - 1) ∧ v = .string (rtS b (ds.drop k)) ∧ Below w.heap.size w wr) (fun _ i _ => (intOf i + 1).toNat)
  case atStart => exact ⟨n, Nat.le_refl _, rfl, by rw [List.drop_of_length_le (by have := HL.out; omega), rtS_nil], hw2⟩
  case round =>
    obtain ⟨k, hk, rfl, rfl, hbl⟩ := hrel
    clear hc0' hc1'
    rcases Nat.eq_zero_or_pos k with hk0 | hk0
    · subst hk0
      go_wp2
      go_ret
      exact ⟨ret_str (by rw [HF.out]; rfl), hbl⟩
    · obtain ⟨ad, hA, hlt, hkl, hc⟩ := hr.at_ (show k - 1 < n by omega)
      rw [← hbl.cell (by rw [block_of_add]; omega)] at hc
      have hc0' : wr.cell? p = some (.int .i64 b) := by rw [hbl.cell hpb]; exact hc0
      have hc1' : wr.cell? ⟨p.block, p.off + 1, none⟩ = some (.slice A n c) := by rw [hbl.cell (by exact hpb)]; exact hc1
      obtain ⟨hd0, hd1⟩ := hd ds[k-1] (List.getElem_mem _)
      have hll : (rtS b (ds.drop k)).size ≤ 40 := by rw [rtS_len]; have := HL.out; simp; omega
      have HS : Hid (rtS b (ds.drop (k - 1)) = rtS b (ds.drop k) ++ (⟨[dch ds[k-1]].toArray⟩ : ByteArray)) := by
        have := rtS_step b ds (k - 1) hkl; rwa [show k - 1 + 1 = k by omega] at this
      subst hA
      go_wp2
      go_quiet (fail)
      go_wp2
      go_roundw
      case rel => exact ⟨k - 1, by omega, by congr 1; omega, by rw [HS.out, piece _ hd0 (by omega)], hbl.trans (below_drewN (Below.refl _ _) _)⟩
      case measure => simp [intOf]; omega
end Go.Proofs.YtlhcilmnfmglfaaDoor

namespace Go.Proofs.YtlhcilmnfmglfaaDoor
open Go.RowKit Go.Sort
/-! rows of bools, read -/
def BlM (w : World) (p : Addr) (b : Bool) : Prop := w.cell? p = some (.bool b)
theorem steady_BlM : Steady BlM := by
  intro w w' p s hp hb h
  unfold BlM at *
  rw [hb.cell hp]; exact h
theorem Kn.rlBl {w0 w : World} {m : List Ent} {A : Option Addr} {c : Nat} {bs : List Bool} (h : Kn w0 (rowBl A c bs :: m) w) : RL BlM 1 w A bs.length bs := by
  have h0 : w.ownsRow 0 4 1 (.slice A bs.length c) bs.length (bs.map Value.bool) := h.at0
  refine ⟨rfl, fun hn => ?_⟩
  rcases h0.2 with ⟨hv, hn'⟩ | ⟨g, cap, cur, hv, -, hg, -⟩
  · omega
  · injection hv with h1 h2 h3
    refine ⟨_, h1, (Array.getElem?_eq_some_iff.1 hg).1, fun k hk => ?_⟩
    rw [h1] at h0
    have := h0.cells (g := g) rfl k _ (by rw [List.getElem?_map, List.getElem?_eq_getElem hk]; rfl)
    rw [Nat.mul_one]
    exact this
theorem cat_size (A B : ByteArray) : (A ++ B).size = A.size + B.size := by
  simp [← ByteArray.size_data, ByteArray.data_append]
set_option maxRecDepth 100000 in
set_option maxHeartbeats 1600000 in
theorem EventText_some (k a s : Int) (w : World) (h1 : 1 ≤ k) (h2 : k ≤ 3) (a1 : -9223372036854775808 ≤ a) (a2 : a ≤ 9223372036854775807) (s1 : -9223372036854775808 ≤ s) (s2 : s ≤ 9223372036854775807) (ht : TB w) :
    Calls Tryd.prog 36 #[.agg #[.int .i64 k, .int .i64 a, .int .i64 s]] w fun e w' => ∃ T : ByteArray, e = .returned (.string T) ∧ 5 ≤ T.size ∧ Below w.heap.size w w' := by
  obtain ⟨T, hT⟩ : ∃ T : ByteArray, ⟨(dec a).toArray⟩ = T := ⟨_, rfl⟩
  obtain ⟨U, hU⟩ : ∃ T : ByteArray, ⟨(dec s).toArray⟩ = T := ⟨_, rfl⟩
  have KA := (fun W (hW : TB W) => Decimal_any a W a1 a2 hW)
  have KS := (fun W (hW : TB W) => Decimal_any s W s1 s2 hW)
  have hTs : T.size ≤ 21 := by rw [← hT]; show (dec a).toArray.size ≤ 21; rw [List.size_toArray]; exact dec_len a a1 a2
  have hUs : U.size ≤ 21 := by rw [← hU]; show (dec s).toArray.size ≤ 21; rw [List.size_toArray]; exact dec_len s s1 s2
  rw [hT] at KA
  rw [hU] at KS
  have HTB := Lib.hid (fun W (hW : Below w.heap.size w W) => ht.below hW)
  replace KA := Lib.hid KA
  replace KS := Lib.hid KS
  clear hT hU
  have hcat : ¬ 9223372036854775807 < 5 + T.size := by omega
  obtain ⟨g, hg⟩ : ∃ g, w.heap.size = g := ⟨_, rfl⟩
  have K0 := (Kn.nil w).al [.int .i64 k, .int .i64 a, .int .i64 s] 74
  rw [hg] at K0
  have hk : k = 1 ∨ k = 2 ∨ k = 3 := by omega
  rcases hk with rfl | rfl | rfl
  · go_enter Tryd.func36, Tryd.ntmps36
    go_upto_region 3 with fail
    try rw [hg]
    refine Code.wp.kn K0 ?_; clear K0; intro w1 K1
    have x1 := cell_regrown (show w1.cell? ⟨g, 1, none⟩ = some (.int .i64 a) from K1.blkAt.1 1)
    have x2 := cell_regrown (show w1.cell? ⟨g, 2, none⟩ = some (.int .i64 s) from K1.blkAt.1 2)
    have hc2 : ¬ 9223372036854775807 < 5 + T.size + 4 := by omega
    have hc3 : ¬ 9223372036854775807 < 5 + T.size + 4 + U.size := by omega
    have R1 := Lib.hid (fun W (hW : Below w1.heap.size w1 W) => KA.out W (HTB.out _ (K1.keep hW).below))
    have R2 := Lib.hid (fun W (hW : Below w1.heap.size w1 W) => KS.out W (HTB.out _ (K1.keep hW).below))
    refine wp_region_quiet_below (by kernel_rfl) (by kernel_rfl) ?_
    repeat (go_big_quiet_step ((go_at_call 83; first | exact quietB R1.out | exact quietB R2.out)))
    refine wpQuiet_nil ?_
    intro _ hw'
    obtain ⟨⟨dq, osq⟩, hw''⟩ := hw'
    subst hw''
    obtain ⟨w2, hw3⟩ : ∃ W, grow (redrawn w1 dq) osq = W := ⟨_, rfl⟩
    have K2 := K1.keep (below_regrown w1 dq osq)
    dsimp only
    rw [hw3] at K2 ⊢
    clear x1 x2 hw3
    go_wp2_with fail
    go_ret
    refine ⟨_, rfl, ?_, K2.below⟩
    rw [cat_size, cat_size, cat_size]
    exact Nat.le_trans (Nat.le_add_right 5 _) (Nat.le_trans (Nat.le_add_right _ _) (Nat.le_add_right _ _))
  · go_enter Tryd.func36, Tryd.ntmps36
    go_wp2_with (go_at_call 83; refine Calls.kn K0 ?_; intro w1 K1; refine (KA.out _ (HTB.out _ K1.below)).mono ?_; rintro e w2 ⟨rfl, hw⟩; have K2 := K1.keep hw)
    go_ret
    exact ⟨_, rfl, by rw [cat_size]; exact Nat.le_add_right 5 _, K2.below⟩
  · go_enter Tryd.func36, Tryd.ntmps36
    go_wp2_with (go_at_call 83; refine Calls.kn K0 ?_; intro w1 K1; refine (KA.out _ (HTB.out _ K1.below)).mono ?_; rintro e w2 ⟨rfl, hw⟩; have K2 := K1.keep hw)
    go_ret
    exact ⟨_, rfl, by rw [cat_size]; exact Nat.le_add_right 5 _, K2.below⟩
end Go.Proofs.YtlhcilmnfmglfaaDoor

namespace Go.Proofs.YtlhcilmnfmglfaaDoor
open Go.RowKit Go.Sort
theorem lastCarry_any (C : Option Addr) (n c : Nat) (bs : List Bool) (w : World) (hr : RL BlM 1 w C (n + 1) bs) (hn : n ≤ 1000) :
    Calls Tryd.prog 111 #[.slice C (n + 1) c] w fun e w' => e = .returned (.int .i64 (if bs.getD n false then 1 else 0)) ∧ Below w.heap.size w w' := by
  obtain ⟨ad, hA, hlt, hk, f1⟩ := hr.at_ (show n < n + 1 by omega)
  unfold BlM at f1
  rw [Nat.mul_one] at f1
  have e : bs.getD n false = bs[n] := by simp [List.getD_eq_getElem?_getD, hk]
  rw [e]
  obtain ⟨b, hb⟩ : ∃ b, bs[n] = b := ⟨_, rfl⟩
  rw [hb] at f1 ⊢
  subst hA
  have q1 : IntKind.i64.wrap ((n : Int) + 1 - 1) = (n : Int) := by rw [wrapI64 (by omega)]; omega
  have q2 : ((n : Int) + 1 - 1) = (n : Int) := by omega
  have i0 : (0 : Int) ≤ (n : Int) := by omega
  have i1 : (n : Int) < (n : Int) + 1 := by omega
  clear hb e hr
  cases b
  all_goals
    go_enter Tryd.func111, Tryd.ntmps111
    go_wp2_with fail
    go_ret
    exact ⟨by rfl, Below.refl _ _⟩
section
variable {ops : Array Oper} {o : Oper} {a : Act} {Q : Exit → Act → World → Prop} {w0 w : World} {m : List Ent}
/-- append(s, x..) in a drawn region, x a row that is only read -/
theorem kn_step_appC {K : Act → World → Prop} {E : Prop} {t e : TypeId} {z : Value} {size bytes : Nat} (T : TP t e z size bytes) (hgd : o.guard = none) (s x : Operand) (ho : o.op = .call { callee := .builtin .append, args := #[s, x], argTypes := #[t, t] })
    (v : Value) (n : Nat) (xs : List Value) (hs : a.eval s = v) {ad : Addr} {c k : Nat} {l : List Value} (hx : a.eval x = .slice (some ad) k c) (hc : ∀ j u, l[j]? = some u → w.cell? (ad.add j) = some u)
    (hK : Kn w0 (.row v e size n xs :: m) w) (hl : l.length = k * size) (h1 : ∀ u ∈ l, u.oneCell' = true)
    (h63 : n + k ≤ 1000000000000000) (hb : (n + k) * bytes ≤ 140737488355328)
    (h : ∀ v' w', Kn w0 (.row v' e size (n + k) (xs ++ l) :: m) w' → K (a.put o.dst v') w') : if Region.wanted o (yielded ops a.tmps) = true then Oper.wp Tryd.prog o a w K Q else E := by
  have hw : Region.wanted o (yielded ops a.tmps) = true := by simp [Region.wanted, hgd]
  rw [if_pos hw]
  obtain ⟨i0, hi, hz0, hz1, hz2⟩ := info_parts T.info
  obtain ⟨v', w', hrun, h2, h3, _, h5⟩ := run_append_own_at (P := Tryd.prog) w 0 t o.type e i0 z size bytes T.under hi hz0 hz1 hz2 T.zc T.pos v n xs hK.at0 ad k c l hl hc h1 (by simp only [maxLen]; omega) hb (Nat.zero_le _)
  unfold Oper.wp execOp
  simp only [ho, resolve, invoke, builtin, Sem.run_bind, Sem.run_pure, Result.andThen_ok, List.map_toArray, List.map_cons, List.map_nil, hs, hx, hrun]
  exact h v' w' (hK.grow h3 h2 h5)
end
end Go.Proofs.YtlhcilmnfmglfaaDoor

namespace Go.Proofs.YtlhcilmnfmglfaaDoor
open Go.RowKit Go.Sort
/-- an event of an addition -/
structure Cev where
  kind : Int
  wheel : Int
  steps : Int
def EvM (w : World) (p : Addr) (x : Cev) : Prop := w.cell? p = some (.int .i64 x.kind) ∧ w.cell? ⟨p.block, p.off + 1, none⟩ = some (.int .i64 x.wheel) ∧ w.cell? ⟨p.block, p.off + 2, none⟩ = some (.int .i64 x.steps)
theorem steady_EvM : Steady EvM := by
  rintro w w' p f hp hb ⟨h1, h2, h3⟩
  exact ⟨by rw [hb.cell hp]; exact h1, by rw [hb.cell (by exact hp)]; exact h2, by rw [hb.cell (by exact hp)]; exact h3⟩
def cellsEv (xs : List Cev) : List Value := xs.flatMap fun x => [.int .i64 x.kind, .int .i64 x.wheel, .int .i64 x.steps]
theorem cellsEv_len (xs : List Cev) : (cellsEv xs).length = xs.length * 3 := by
  induction xs with
  | nil => rfl
  | cons x xs ih => unfold cellsEv at *; rw [List.flatMap_cons, List.length_append, ih]; simp; omega
theorem cellsEv_snoc (xs : List Cev) (x : Cev) : cellsEv (xs ++ [x]) = cellsEv xs ++ [.int .i64 x.kind, .int .i64 x.wheel, .int .i64 x.steps] := by simp [cellsEv]
theorem cellsEv_get : ∀ (xs : List Cev) (k : Nat) (h : k < xs.length), (cellsEv xs)[k * 3]? = some (.int .i64 xs[k].kind) ∧ (cellsEv xs)[k * 3 + 1]? = some (.int .i64 xs[k].wheel) ∧ (cellsEv xs)[k * 3 + 2]? = some (.int .i64 xs[k].steps)
  | [], k, h => by simp at h
  | x :: xs, 0, h => by simp [cellsEv]
  | x :: xs, k + 1, h => by
    have h1 := cellsEv_get xs k (by simpa using h)
    have h2 : cellsEv (x :: xs) = .int .i64 x.kind :: .int .i64 x.wheel :: .int .i64 x.steps :: cellsEv xs := by simp [cellsEv]
    rw [h2, show (k + 1) * 3 = k * 3 + 1 + 1 + 1 by omega]
    simp only [List.getElem?_cons_succ, List.getElem_cons_succ]
    exact h1
theorem cellsEv_one (xs : List Cev) : ∀ u ∈ cellsEv xs, u.oneCell' = true := by
  intro u hu
  obtain ⟨x, -, h⟩ := List.mem_flatMap.1 hu
  simp at h
  rcases h with rfl | rfl | rfl <;> rfl
def rowEv (v : Value) (xs : List Cev) : Ent := .row v 74 3 xs.length (cellsEv xs)
theorem tpEv : TP 64 74 (.agg #[.int .i64 0, .int .i64 0, .int .i64 0]) 3 24 := ⟨Tryd.underlying64, by kernel_rfl, rfl, by decide⟩
theorem Kn.rlEv {w0 w : World} {m : List Ent} {A : Option Addr} {n c : Nat} {xs : List Cev} (h : Kn w0 (rowEv (.slice A n c) xs :: m) w) : n = xs.length ∧ RL EvM 3 w A n xs := by
  have h0 : w.ownsRow 0 74 3 (.slice A n c) xs.length (cellsEv xs) := h.at0
  rcases h0.2 with ⟨hv, hn⟩ | ⟨g, cap, cur, hv, -, hg, -⟩
  · injection hv with h1 h2 h3
    exact ⟨by omega, by omega, fun h => by omega⟩
  · injection hv with h1 h2 h3
    refine ⟨h2, h2.symm, fun h => ⟨_, h1, (Array.getElem?_eq_some_iff.1 hg).1, fun k hk => ?_⟩⟩
    obtain ⟨c1, c2, c3⟩ := cellsEv_get xs k hk
    rw [h1] at h0
    have d1 := h0.cells (g := g) rfl _ _ c1
    have d2 := h0.cells (g := g) rfl _ _ c2
    have d3 := h0.cells (g := g) rfl _ _ c3
    refine ⟨d1, ?_, ?_⟩
    · rw [add_zero_block] at d2 ⊢
      exact d2
    · rw [add_zero_block] at d3 ⊢
      exact d3
theorem Kn.nilEv {w0 w : World} {m : List Ent} (h : Kn w0 m w) : Kn w0 (rowEv (.slice none 0 0) [] :: m) w := h.nilRow _ _
theorem kn_pushEv {ops : Array Oper} {rest : List Oper} {o : Oper} {a : Act} {Q : Exit → Act → World → Prop} {w0 w : World} {m : List Ent} (hgd : o.guard = none) (s x : Operand) (ho : o.op = .call { callee := .builtin .append, args := #[s, x], argTypes := #[64, 64] })
    (v : Value) (xs : List Cev) (hs : a.eval s = v) {g c : Nat} {T' : TypeId} {k i j : Int} (hx : a.eval x = .slice (some ⟨g, 0, none⟩) 1 c)
    (hK : Kn w0 (.blk g [.int .i64 k, .int .i64 i, .int .i64 j] T' :: rowEv v xs :: m) w) (hl : xs.length ≤ 10000000)
    (h : ∀ A c n w', Kn w0 (rowEv (.slice A n c) (xs ++ [⟨k, i, j⟩]) :: m) w' → wpList Tryd.prog ops Q rest (a.put o.dst (.slice A n c)) w') : wpList Tryd.prog ops Q (o :: rest) a w := by
  refine kn_app tpEv hgd s x ho v xs.length (cellsEv xs) hs hx hK rfl (by simp [Value.oneCell']) (by omega) (by omega) (fun v' w' hK' => ?_)
  obtain ⟨A, c, rfl⟩ := row_form hK'.at0
  refine h A c _ w' ?_
  unfold rowEv
  rw [List.length_append, cellsEv_snoc]
  exact hK'
/-! what events do to the digits -/
def evPut (b : Int) (ds : List Int) (i : Nat) (s : Int) : List Int := ds.set i ((ds.getD i 0 + s) % b)
def evStep (b : Int) (ds : List Int) (e : Cev) : List Int := if e.kind = 2 then ds else if e.kind = 3 then evPut b ds (e.wheel.toNat + 1) 1 else evPut b ds e.wheel.toNat e.steps
def evAll (b : Int) (ds : List Int) (L : List Cev) : List Int := L.foldl (evStep b) ds
/-- events that are in their range -/
def EvOk (b : Int) (n : Nat) (e : Cev) : Prop := (1 ≤ e.kind ∧ e.kind ≤ 3) ∧ (0 ≤ e.wheel ∧ e.wheel ≤ (n : Int) - 1) ∧ (0 ≤ e.steps ∧ e.steps ≤ b - 1)
def EvsOk (b : Int) (n : Nat) (L : List Cev) : Prop := ∀ e ∈ L, EvOk b n e
def evPush (L : List Cev) : Nat := (L.filter fun e => e.kind == 3).length
theorem EvsOk.nil (b : Int) (n : Nat) : EvsOk b n [] := fun _ h => (nomatch h)
theorem EvsOk.snoc {b : Int} {n : Nat} {L : List Cev} {e : Cev} (h : EvsOk b n L) (he : EvOk b n e) : EvsOk b n (L ++ [e]) := by
  intro x hx
  rcases List.mem_append.1 hx with hx | hx
  · exact h x hx
  · rw [List.mem_singleton.1 hx]; exact he
theorem evAll_snoc (b : Int) (ds : List Int) (L : List Cev) (e : Cev) : evAll b ds (L ++ [e]) = evStep b (evAll b ds L) e := by unfold evAll; rw [List.foldl_append]; rfl
theorem evPush_snoc (L : List Cev) (e : Cev) : evPush (L ++ [e]) = evPush L + (if e.kind = 3 then 1 else 0) := by
  unfold evPush
  rw [List.filter_append, List.length_append]
  by_cases h : e.kind = 3
  · rw [if_pos h]; simp [h]
  · rw [if_neg h]; simp [h]
theorem evPut_len (b : Int) (ds : List Int) (i : Nat) (s : Int) : (evPut b ds i s).length = ds.length := by simp [evPut]
theorem evStep_len (b : Int) (ds : List Int) (e : Cev) : (evStep b ds e).length = ds.length := by
  unfold evStep
  split
  · rfl
  · split <;> exact evPut_len _ _ _ _
theorem evAll_len (b : Int) (ds : List Int) : ∀ L : List Cev, (evAll b ds L).length = ds.length := by
  intro L
  induction L generalizing ds with
  | nil => rfl
  | cons e L ih => exact (ih (evStep b ds e)).trans (evStep_len b ds e)
theorem evPut_digs {b : Int} (hb : 2 ≤ b) {ds : List Int} (h : Digs b ds) (i : Nat) (s : Int) : Digs b (evPut b ds i s) := by
  intro d hd
  rcases List.mem_or_eq_of_mem_set hd with hd | rfl
  · exact h d hd
  · exact ⟨Int.emod_nonneg _ (by omega), Int.emod_lt_of_pos _ (by omega)⟩
theorem evStep_digs {b : Int} (hb : 2 ≤ b) {ds : List Int} (h : Digs b ds) (e : Cev) : Digs b (evStep b ds e) := by
  unfold evStep
  split
  · exact h
  · split <;> exact evPut_digs hb h _ _
theorem evAll_digs {b : Int} (hb : 2 ≤ b) {ds : List Int} (h : Digs b ds) : ∀ L : List Cev, Digs b (evAll b ds L) := by
  intro L
  induction L generalizing ds with
  | nil => exact h
  | cons e L ih => exact ih (evStep_digs hb h e)
/-- the first k wheels are turned -/
def tuP (b : Int) (xs ys : List Int) (k i : Nat) : Int := if i < k then turnK b xs ys i else xs.getD i 0
def tuPL (b : Int) (xs ys : List Int) (n k : Nat) : List Int := (List.range n).map (tuP b xs ys k)
theorem tuPL_zero (b : Int) (xs ys : List Int) : tuPL b xs ys xs.length 0 = xs := by
  apply List.ext_getElem (by simp [tuPL])
  intro i h1 h2
  simp [tuPL, tuP, List.getD_eq_getElem?_getD, h2]
theorem tuPL_end (b : Int) (xs ys : List Int) (n : Nat) : tuPL b xs ys n n = turnD b xs ys n := by
  unfold tuPL turnD
  refine List.map_congr_left fun i hi => ?_
  rw [tuP, if_pos (List.mem_range.1 hi)]
theorem tuPL_getD {b : Int} {xs ys : List Int} {n k i : Nat} (h : i < n) : (tuPL b xs ys n k).getD i 0 = tuP b xs ys k i := by
  simp [tuPL, List.getD_eq_getElem?_getD, h]
theorem tuPL_set {b : Int} {xs ys : List Int} {n k : Nat} (h : k < n) : evPut b (tuPL b xs ys n k) k (ys.getD k 0) = tuPL b xs ys n (k + 1) := by
  unfold evPut
  rw [tuPL_getD h]
  apply List.ext_getElem (by simp [tuPL])
  intro i h1 h2
  rw [List.getElem_set]
  simp only [tuPL, List.getElem_map, List.getElem_range, tuP]
  by_cases e : k = i
  · subst e; simp [turnK]
  · rw [if_neg e]
    by_cases h3 : i < k
    · rw [if_pos h3, if_pos (by omega)]
    · rw [if_neg h3, if_neg (by omega)]
section
variable {b : Int} {xs ys : List Int} (hb : 2 ≤ b) (hdx : Digs b xs) (hdy : Digs b ys)
include hb hdx
theorem tuPL_keep {n k : Nat} (_h : k < n) (h0 : ys.getD k 0 = 0) : tuPL b xs ys n (k + 1) = tuPL b xs ys n k := by
  apply List.ext_getElem (by simp [tuPL])
  intro i h1 h2
  simp only [tuPL, List.getElem_map, List.getElem_range, tuP]
  by_cases e : k = i
  · subst e
    rw [if_pos (by omega), if_neg (by omega), turnK, h0, Int.add_zero]
    have := hdx.at hb k
    exact Int.emod_eq_of_lt this.1 this.2
  · by_cases h3 : i < k
    · rw [if_pos h3, if_pos (by omega)]
    · rw [if_neg h3, if_neg (by omega)]
include hdy
theorem car_one (k : Nat) : carK b xs ys k = 0 ∨ carK b xs ys k = 1 := by
  have := carK_bd hb hdx hdy k
  omega
theorem cock_lev {k : Nat} (h : cockK b xs ys k = true) : carK b xs ys (k + 1) = 1 := by
  have h1 := hdx.at hb k
  have h2 := hdy.at hb k
  have h3 := car_one hb hdx hdy k
  have h4 : b ≤ xs.getD k 0 + ys.getD k 0 := of_decide_eq_true h
  rw [carK]
  rcases divmod2 (b := b) (u := xs.getD k 0 + ys.getD k 0 + carK b xs ys k) (by omega) (by omega) (by omega) with ⟨a1, a2, a3⟩ | ⟨a1, a2, a3⟩
  · omega
  · exact a3
omit hb hdx hdy in
/-- a lever that is pushed turns the next wheel -/
theorem push_set {n k : Nat} (h : k + 1 < n) (hc : carK b xs ys (k + 1) = 1) : evPut b (digPL b xs ys n k) (k + 1) 1 = digPL b xs ys n (k + 1) := by
  rw [digPL_set n k h]
  unfold evPut
  congr 1
  have hg : (digPL b xs ys n k).getD (k + 1) 0 = turnK b xs ys (k + 1) := by
    simp only [digPL, List.getD_eq_getElem?_getD, List.getElem?_map, List.getElem?_range h, Option.map_some, Option.getD_some]
    unfold digP; rw [if_neg (by omega)]
  rw [hg, turnK, sumK, hc, Int.emod_add_emod]
omit hb hdx hdy in
theorem push_last {n k : Nat} (h : ¬ k + 1 < n) (hk : k < n) : evPut b (digPL b xs ys n k) (k + 1) 1 = digPL b xs ys n (k + 1) := by
  unfold evPut
  rw [List.set_eq_of_length_le (by rw [digPL_len]; omega)]
  refine List.map_congr_left fun i hi => ?_
  have := List.mem_range.1 hi
  unfold digP
  rw [if_pos (by omega), if_pos (by omega)]
omit hb hdx hdy in
theorem push_any {n k : Nat} (hk : k < n) (hc : carK b xs ys (k + 1) = 1) : evPut b (digPL b xs ys n k) (k + 1) 1 = digPL b xs ys n (k + 1) := by
  by_cases h : k + 1 < n
  · exact push_set h hc
  · exact push_last h hk
end
/-- how many of the first levers are pushed -/
def levN (b : Int) (xs ys : List Int) : Nat → Nat
  | 0 => 0
  | k + 1 => levN b xs ys k + (if carK b xs ys (k + 1) = 1 then 1 else 0)
theorem levN_le (b : Int) (xs ys : List Int) (k : Nat) : levN b xs ys k ≤ k := by
  induction k with
  | zero => exact Nat.le_refl _
  | succ k ih => rw [levN]; split <;> omega
theorem levL_get {b : Int} {xs ys : List Int} {n k : Nat} (h : k < n) : (levL b xs ys n)[k]? = some (decide (carK b xs ys (k + 1) = 1)) := by
  simp [levL, h]
theorem cockL_get {b : Int} {xs ys : List Int} {n k : Nat} (h : k < n) : (cockL b xs ys n)[k]? = some (cockK b xs ys k) := by
  simp [cockL, h]
end Go.Proofs.YtlhcilmnfmglfaaDoor

namespace Go.Proofs.YtlhcilmnfmglfaaDoor
open Go.RowKit Go.Sort
theorem PL_last (b : Int) (xs ys : List Int) {n k : Nat} (h : n ≤ k + 1) : digPL b xs ys n (k + 1) = digPL b xs ys n k ∧ levPL b xs ys n (k + 1) = levPL b xs ys n k := by
  constructor
  · refine List.map_congr_left fun i hi => ?_
    have := List.mem_range.1 hi
    unfold digP
    rw [if_pos (by omega), if_pos (by omega)]
  · refine List.map_congr_left fun i hi => ?_
    have := List.mem_range.1 hi
    unfold levP
    rw [if_pos (by omega), if_pos (by omega)]
theorem digPL_at (b : Int) (xs ys : List Int) {n k i : Nat} (h : i < n) : (digPL b xs ys n k)[i]? = some (digP b xs ys k i) := by simp [digPL, h]
theorem levPL_at (b : Int) (xs ys : List Int) {n k i : Nat} (h : i < n) : (levPL b xs ys n k)[i]? = some (levP b xs ys k i) := by simp [levPL, h]
theorem set_id {α : Type} {l : List α} {i : Nat} {v : α} (h : l[i]? = some v) : l.set i v = l := by
  apply List.ext_getElem?
  intro k
  rw [List.getElem?_set]
  split
  · rename_i hk
    subst hk
    split
    · exact h.symm
    · rename_i hl
      rw [List.getElem?_eq_none (by omega)] at h
      cases h
  · rfl
theorem bl_one (cs : List Bool) : ∀ u ∈ cs.map Value.bool, u.oneCell' = true := by
  intro u hu
  obtain ⟨x, -, rfl⟩ := List.mem_map.1 hu
  rfl
def PRet (b : Int) (n : Nat) (ds : List Int) (bs : List Bool) (w : World) (e : Ending) (w' : World) : Prop := ∃ E ec C cc, e = .returned (.tuple #[.agg #[.int .i64 b, .slice E n ec], .slice C n cc]) ∧ ds.length = n ∧ bs.length = n ∧ Kn w [rowI E ec ds, rowBl C cc bs] w'
set_option maxRecDepth 100000 in
set_option maxHeartbeats 6400000 in
theorem pushed_any (b : Int) (xs ys : List Int) (hb : 2 ≤ b) (hb16 : b ≤ 16) (hdx : Digs b xs) (hdy : Digs b ys) (n : Nat) (ts : List Int) (cs : List Bool) (hts : digPL b xs ys n 0 = ts) (hcs : levPL b xs ys n 0 = cs) (XA : Option Addr) (xc : Nat) (C : Option Addr) (cc : Nat) (w : World) (hx : RI w XA n ts) (hc : RL BlM 1 w C n cs) (h0 : 0 < n) (hn : n ≤ 16) :
    Calls Tryd.prog 100 #[.agg #[.int .i64 b, .slice XA n xc], .slice C n cc] w (PRet b n (addD b xs ys n) (levL b xs ys n) w) := by
  unfold PRet
  have hnl : ts.length = n := by rw [← hts, digPL_len]
  have hcl : cs.length = n := by rw [← hcs, levPL_len]
  have HTS := Lib.hid hts
  have HCS := Lib.hid hcs
  have HNL := Lib.hid hnl
  have HCL := Lib.hid hcl
  have KC := Lib.hid (fun W (hW : Below w.heap.size w W) => copyNumbers_any XA n xc ts W (hx.below hW) h0 (by omega))
  obtain ⟨adC, hAC, hltC, -⟩ := hc.at_ h0
  have HCC := Lib.hid (fun W (hW : Below w.heap.size w W) => (show ∀ (j : Nat) (u : Value), (cs.map Value.bool)[j]? = some u → W.cell? (adC.add j) = some u from fun j u hu => by
    rw [List.getElem?_map] at hu
    obtain ⟨x, hx1, rfl⟩ := Option.map_eq_some_iff.1 hu
    obtain ⟨hj, rfl⟩ := List.getElem?_eq_some_iff.1 hx1
    obtain ⟨ad2, hA2, _, _, h2⟩ := (hc.below steady_BlM hW).at_ (show j < n by omega)
    rw [hAC] at hA2
    injection hA2 with hA2
    subst hA2
    unfold BlM at h2
    rw [Nat.mul_one] at h2
    exact h2))
  have HPN := Lib.hid (fun k (h : carK b xs ys (k + 1) = 0) => PL_no (n := n) hb hdx hdy h)
  have HPY := Lib.hid (fun k (h : carK b xs ys (k + 1) = 1) => pp_yes (k := k) hb hdx hdy h)
  have HC1 := Lib.hid (fun k => car_one hb hdx hdy k)
  have HTB := Lib.hid (fun k => (show 0 ≤ turnK b xs ys k ∧ turnK b xs ys k < b from ⟨Int.emod_nonneg _ (by omega), Int.emod_lt_of_pos _ (by omega)⟩))
  subst hAC
  clear hts hcs hdx hdy hx hc hcl hltC hnl
  obtain ⟨g, hg⟩ : ∃ g, w.heap.size = g := ⟨_, rfl⟩
  have K0 := ((Kn.nil w).al [.int .i64 b, .slice XA n xc] 33).al [.int .i64 0, .slice none 0 0] 33
  simp only [World.size_alloc, hg] at K0
  go_enter Tryd.func100, Tryd.ntmps100
  go_upto_region 1 with fail
  try rw [hg]
  refine Code.wp.kn K0 ?_; clear K0; intro w1 K1
  have HF := Lib.hid (fun W (h : Kn w [.blk g [.int .i64 b, .slice XA n xc] 33] W) => box2 h)
  have hKd := K1.drew
  have HG := Lib.hid (HF.out _ (hKd.sel [1] 99 (by decide) (by decide)))
  go_cut [6, 7] (fun pp oo wx => ∃ (gO : Nat) (E : Option Addr) (ec : Nat) (C : Option Addr) (cc : Nat), pp = .pointer (some ⟨gO, 0, none⟩) ∧ oo = .slice C n cc ∧ Kn w [.blk gO [.int .i64 b, .slice E n ec] 33, rowI E ec ts, .row (.slice C n cc) 4 1 n (cs.map Value.bool), .blk (g + 1) [.int .i64 0, .slice none 0 0] 33, .blk g [.int .i64 b, .slice XA n xc] 33] wx)
  case first =>
    refine wp_region_held_drew (S := fun W => W.cell? ⟨g, 0, none⟩ = some (.int .i64 b) ∧ W.cell? ⟨g, 1, none⟩ = some (.slice XA n xc)) (by kernel_rfl) ?_ (fun hHeld => ?_)
    · exact HG.out
    try dsimp only
    generalize w1.drew = wd at hKd HG hHeld ⊢
    clear K1
    refine wpAnyH_take (i := 0) (v := ?_) rfl (by kernel_rfl) (by kernel_rfl) (by kernel_rfl) (fun _ _ _ h => h) (Or.inl ⟨by rfl, ?_⟩) hHeld ?_
    rotate_left
    · (intro w hSw; (try dsimp only at hSw); go_simp; try with_reducible rfl)
    try simp only [Act.put, List.setIfInBounds_toArray, List.set_cons_zero, List.set_cons_succ, List.getElem_toArray, List.getElem_cons_succ, List.getElem_cons_zero]
    refine wpAnyH_take (i := 1) (v := ?_) rfl (by kernel_rfl) (by kernel_rfl) (by kernel_rfl) (fun _ _ _ h => h) (Or.inl ⟨by rfl, ?_⟩) hHeld ?_
    rotate_left
    · (intro w hSw; (try dsimp only at hSw); go_simp; try with_reducible rfl)
    try simp only [Act.put, List.setIfInBounds_toArray, List.set_cons_zero, List.set_cons_succ, List.getElem_toArray, List.getElem_cons_succ, List.getElem_cons_zero]
    refine wpAnyH_take (i := 2) (v := ?_) rfl (by kernel_rfl) (by kernel_rfl) (by kernel_rfl) (fun _ _ _ h => h) (Or.inl ⟨by rfl, ?_⟩) hHeld ?_
    rotate_left
    · (intro w hSw; (try dsimp only at hSw); go_simp; try with_reducible rfl)
    try simp only [Act.put, List.setIfInBounds_toArray, List.set_cons_zero, List.set_cons_succ, List.getElem_toArray, List.getElem_cons_succ, List.getElem_cons_zero]
    refine wpAnyH_take (i := 3) (v := ?_) rfl (by kernel_rfl) (by kernel_rfl) (by kernel_rfl) (fun _ _ _ h => h) (Or.inl ⟨by rfl, ?_⟩) hHeld ?_
    rotate_left
    · (intro w hSw; (try dsimp only at hSw); go_simp; try with_reducible rfl)
    try simp only [Act.put, List.setIfInBounds_toArray, List.set_cons_zero, List.set_cons_succ, List.getElem_toArray, List.getElem_cons_succ, List.getElem_cons_zero]
    refine wpAnyH_take (i := 7) (v := ?_) rfl (by kernel_rfl) (by kernel_rfl) (by kernel_rfl) (fun _ _ _ h => h) (Or.inl ⟨by rfl, ?_⟩) hHeld ?_
    rotate_left
    · (intro w hSw; (try dsimp only at hSw); go_simp; try with_reducible rfl)
    try simp only [Act.put, List.setIfInBounds_toArray, List.set_cons_zero, List.set_cons_succ, List.getElem_toArray, List.getElem_cons_succ, List.getElem_cons_zero]
    refine wpAnyH_ready (rs := [4, 6, 9]) (by kernel_rfl) (by decide) (AllReadyH.cons (o := _) rfl (fun K hK' => ?_) (AllReadyH.cons (o := _) rfl (fun K hK' => ?_) (AllReadyH.cons (o := _) rfl (fun K hK' => ?_) AllReadyH.nil)))
    · skip
      go_simp
      go_at_call 107
      refine (KC.out _ hKd.below).mono ?_
      rintro e wo1 ⟨E1, ec1, rfl, hK⟩
      have KO1 := hKd.join hK
      clear hK
      have HG := Lib.hid (HF.out _ (KO1.sel [2] 99 (by decide) (by decide)))
      refine hK'.out _ _ HG.out (fun hHeld2 => ?_)
      clear hK' K hHeld
      have hHeld := hHeld2
      clear hHeld2
      try simp only [Act.put, List.setIfInBounds_toArray]
      refine wpAnyH_take (i := 5) (v := ?_) rfl (by kernel_rfl) (by kernel_rfl) (by kernel_rfl) (fun _ _ _ h => h) (Or.inl ⟨by rfl, ?_⟩) hHeld ?_
      rotate_left
      · (intro w hSw; (try dsimp only at hSw); go_simp; try with_reducible rfl)
      try simp only [Act.put, List.setIfInBounds_toArray, List.set_cons_zero, List.set_cons_succ, List.getElem_toArray, List.getElem_cons_succ, List.getElem_cons_zero]
      refine wpAnyH_ready (rs := [6, 9]) (by kernel_rfl) (by decide) (AllReadyH.cons (o := _) rfl (fun K hK' => ?_) (AllReadyH.cons (o := _) rfl (fun K hK' => ?_) AllReadyH.nil))
      · skip
        go_simp
        have KO2 := KO1.al [] 4
        have HG := Lib.hid (HF.out _ (KO2.sel [3] 99 (by decide) (by decide)))
        refine hK'.out _ _ HG.out (fun hHeld2 => ?_)
        clear hK' K hHeld
        have hHeld := hHeld2
        clear hHeld2
        try simp only [Act.put, List.setIfInBounds_toArray]
        generalize wo1.alloc (.cells #[] 4) = wo2 at KO2 hHeld ⊢
        obtain ⟨gs2, hgs2⟩ : ∃ g, wo1.heap.size = g := ⟨_, rfl⟩
        rw [hgs2] at KO2 ⊢
        clear hgs2
        refine wpAnyH_ready (rs := [8, 9]) (by kernel_rfl) (by decide) (AllReadyH.cons (o := _) rfl (fun K hK' => ?_) (AllReadyH.cons (o := _) rfl (fun K hK' => ?_) AllReadyH.nil))
        · skip
          have KO3 := (KO2.front 0 rfl).litRow (size := 1) (n := 0) rfl (by decide)
          refine kn_step_appC tpBl (by rfl) _ _ (by rfl) _ 0 [] (by rfl) (by rfl) (HCC.out _ KO3.below) KO3 (by rw [List.length_map, HCL.out, Nat.mul_one]) (bl_one _) (by omega) (by omega) ?_
          intro v' wo3 KO3
          rw [Nat.zero_add, List.nil_append] at KO3
          obtain ⟨C3, cc3, rfl⟩ := row_form KO3.at0
          have HG := Lib.hid (HF.out _ (KO3.sel [3] 99 (by decide) (by decide)))
          refine hK'.out _ _ HG.out (fun hHeld2 => ?_)
          clear hK' K hHeld
          have hHeld := hHeld2
          clear hHeld2
          try simp only [Act.put, List.setIfInBounds_toArray]
          refine wpAnyH_ready (rs := [9]) (by kernel_rfl) (by decide) (AllReadyH.cons (o := _) rfl (fun K hK' => ?_) AllReadyH.nil)
          go_simp
          have KO4 := KO3.al [.int .i64 0, .slice none 0 0] 33
          have HG := Lib.hid (HF.out _ (KO4.sel [4] 99 (by decide) (by decide)))
          refine hK'.out _ _ HG.out (fun hHeld2 => ?_)
          clear hK' K hHeld
          have hHeld := hHeld2
          clear hHeld2
          try simp only [Act.put, List.setIfInBounds_toArray]
          generalize wo3.alloc (.cells #[.int .i64 0, .slice none 0 0] 33) = wo4 at KO4 hHeld ⊢
          obtain ⟨go4, hgo4⟩ : ∃ g, wo3.heap.size = g := ⟨_, rfl⟩
          rw [hgo4] at KO4 ⊢
          clear hgo4
          refine wpAnyH_ready (rs := [10]) (by kernel_rfl) (by decide) (AllReadyH.cons (o := _) rfl (fun K hK' => ?_) AllReadyH.nil)
          obtain ⟨s1, s2, s3⟩ := (KO4.front 0 rfl).blkAt
          have KO5 := (((KO4.front 0 rfl).st 0 (.int .i64 b)).st 1 (.slice E1 n ec1))
          go_simp
          clear s1 s2 s3
          have HG := Lib.hid (HF.out _ (KO5.sel [4] 99 (by decide) (by decide)))
          refine hK'.out _ _ HG.out (fun hHeld2 => ?_)
          clear hK' K hHeld
          have hHeld := hHeld2
          clear hHeld2
          try simp only [Act.put, List.setIfInBounds_toArray]
          refine wpAnyH_take (i := 11) (v := ?_) rfl (by kernel_rfl) (by kernel_rfl) (by kernel_rfl) (fun _ _ _ h => h) (Or.inl ⟨by rfl, ?_⟩) hHeld ?_
          rotate_left
          · (intro w hSw; (try dsimp only at hSw); go_simp; try with_reducible rfl)
          try simp only [Act.put, List.setIfInBounds_toArray, List.set_cons_zero, List.set_cons_succ, List.getElem_toArray, List.getElem_cons_succ, List.getElem_cons_zero]
          refine wpAnyH_done (by kernel_rfl) ?_ _
          go_wp2_with fail
          go_meet
          exact ⟨_, _, _, _, _, rfl, rfl, (KO5.sel [0, 2, 1, 3, 4] 99 (by decide) (by decide))⟩
        · skip
          go_simp
          have KO6 := KO2.al [.int .i64 0, .slice none 0 0] 33
          have HG := Lib.hid (HF.out _ (KO6.sel [4] 99 (by decide) (by decide)))
          refine hK'.out _ _ HG.out (fun hHeld2 => ?_)
          clear hK' K hHeld
          have hHeld := hHeld2
          clear hHeld2
          try simp only [Act.put, List.setIfInBounds_toArray]
          generalize wo2.alloc (.cells #[.int .i64 0, .slice none 0 0] 33) = wo6 at KO6 hHeld ⊢
          obtain ⟨go6, hgo6⟩ : ∃ g, wo2.heap.size = g := ⟨_, rfl⟩
          rw [hgo6] at KO6 ⊢
          clear hgo6
          refine wpAnyH_ready (rs := [8]) (by kernel_rfl) (by decide) (AllReadyH.cons (o := _) rfl (fun K hK' => ?_) AllReadyH.nil)
          have KO7 := (KO6.front 1 rfl).litRow (size := 1) (n := 0) rfl (by decide)
          refine kn_step_appC tpBl (by rfl) _ _ (by rfl) _ 0 [] (by rfl) (by rfl) (HCC.out _ KO7.below) KO7 (by rw [List.length_map, HCL.out, Nat.mul_one]) (bl_one _) (by omega) (by omega) ?_
          intro v' wo7 KO7
          rw [Nat.zero_add, List.nil_append] at KO7
          obtain ⟨C7, cc7, rfl⟩ := row_form KO7.at0
          have HG := Lib.hid (HF.out _ (KO7.sel [4] 99 (by decide) (by decide)))
          refine hK'.out _ _ HG.out (fun hHeld2 => ?_)
          clear hK' K hHeld
          have hHeld := hHeld2
          clear hHeld2
          try simp only [Act.put, List.setIfInBounds_toArray]
          refine wpAnyH_ready (rs := [10]) (by kernel_rfl) (by decide) (AllReadyH.cons (o := _) rfl (fun K hK' => ?_) AllReadyH.nil)
          obtain ⟨s1, s2, s3⟩ := (KO7.front 1 rfl).blkAt
          have KO8 := (((KO7.front 1 rfl).st 0 (.int .i64 b)).st 1 (.slice E1 n ec1))
          go_simp
          clear s1 s2 s3
          have HG := Lib.hid (HF.out _ (KO8.sel [4] 99 (by decide) (by decide)))
          refine hK'.out _ _ HG.out (fun hHeld2 => ?_)
          clear hK' K hHeld
          have hHeld := hHeld2
          clear hHeld2
          try simp only [Act.put, List.setIfInBounds_toArray]
          refine wpAnyH_take (i := 11) (v := ?_) rfl (by kernel_rfl) (by kernel_rfl) (by kernel_rfl) (fun _ _ _ h => h) (Or.inl ⟨by rfl, ?_⟩) hHeld ?_
          rotate_left
          · (intro w hSw; (try dsimp only at hSw); go_simp; try with_reducible rfl)
          try simp only [Act.put, List.setIfInBounds_toArray, List.set_cons_zero, List.set_cons_succ, List.getElem_toArray, List.getElem_cons_succ, List.getElem_cons_zero]
          refine wpAnyH_done (by kernel_rfl) ?_ _
          go_wp2_with fail
          go_meet
          exact ⟨_, _, _, _, _, rfl, rfl, (KO8.sel [0, 2, 1, 3, 4] 99 (by decide) (by decide))⟩
      · skip
        go_simp
        have KO9 := KO1.al [.int .i64 0, .slice none 0 0] 33
        have HG := Lib.hid (HF.out _ (KO9.sel [3] 99 (by decide) (by decide)))
        refine hK'.out _ _ HG.out (fun hHeld2 => ?_)
        clear hK' K hHeld
        have hHeld := hHeld2
        clear hHeld2
        try simp only [Act.put, List.setIfInBounds_toArray]
        generalize wo1.alloc (.cells #[.int .i64 0, .slice none 0 0] 33) = wo9 at KO9 hHeld ⊢
        obtain ⟨go9, hgo9⟩ : ∃ g, wo1.heap.size = g := ⟨_, rfl⟩
        rw [hgo9] at KO9 ⊢
        clear hgo9
        refine wpAnyH_ready (rs := [6]) (by kernel_rfl) (by decide) (AllReadyH.cons (o := _) rfl (fun K hK' => ?_) AllReadyH.nil)
        go_simp
        have KO10 := KO9.al [] 4
        have HG := Lib.hid (HF.out _ (KO10.sel [4] 99 (by decide) (by decide)))
        refine hK'.out _ _ HG.out (fun hHeld2 => ?_)
        clear hK' K hHeld
        have hHeld := hHeld2
        clear hHeld2
        try simp only [Act.put, List.setIfInBounds_toArray]
        generalize wo9.alloc (.cells #[] 4) = wo10 at KO10 hHeld ⊢
        obtain ⟨gs10, hgs10⟩ : ∃ g, wo9.heap.size = g := ⟨_, rfl⟩
        rw [hgs10] at KO10 ⊢
        clear hgs10
        refine wpAnyH_ready (rs := [8]) (by kernel_rfl) (by decide) (AllReadyH.cons (o := _) rfl (fun K hK' => ?_) AllReadyH.nil)
        have KO11 := (KO10.front 0 rfl).litRow (size := 1) (n := 0) rfl (by decide)
        refine kn_step_appC tpBl (by rfl) _ _ (by rfl) _ 0 [] (by rfl) (by rfl) (HCC.out _ KO11.below) KO11 (by rw [List.length_map, HCL.out, Nat.mul_one]) (bl_one _) (by omega) (by omega) ?_
        intro v' wo11 KO11
        rw [Nat.zero_add, List.nil_append] at KO11
        obtain ⟨C11, cc11, rfl⟩ := row_form KO11.at0
        have HG := Lib.hid (HF.out _ (KO11.sel [4] 99 (by decide) (by decide)))
        refine hK'.out _ _ HG.out (fun hHeld2 => ?_)
        clear hK' K hHeld
        have hHeld := hHeld2
        clear hHeld2
        try simp only [Act.put, List.setIfInBounds_toArray]
        refine wpAnyH_ready (rs := [10]) (by kernel_rfl) (by decide) (AllReadyH.cons (o := _) rfl (fun K hK' => ?_) AllReadyH.nil)
        obtain ⟨s1, s2, s3⟩ := (KO11.front 1 rfl).blkAt
        have KO12 := (((KO11.front 1 rfl).st 0 (.int .i64 b)).st 1 (.slice E1 n ec1))
        go_simp
        clear s1 s2 s3
        have HG := Lib.hid (HF.out _ (KO12.sel [4] 99 (by decide) (by decide)))
        refine hK'.out _ _ HG.out (fun hHeld2 => ?_)
        clear hK' K hHeld
        have hHeld := hHeld2
        clear hHeld2
        try simp only [Act.put, List.setIfInBounds_toArray]
        refine wpAnyH_take (i := 11) (v := ?_) rfl (by kernel_rfl) (by kernel_rfl) (by kernel_rfl) (fun _ _ _ h => h) (Or.inl ⟨by rfl, ?_⟩) hHeld ?_
        rotate_left
        · (intro w hSw; (try dsimp only at hSw); go_simp; try with_reducible rfl)
        try simp only [Act.put, List.setIfInBounds_toArray, List.set_cons_zero, List.set_cons_succ, List.getElem_toArray, List.getElem_cons_succ, List.getElem_cons_zero]
        refine wpAnyH_done (by kernel_rfl) ?_ _
        go_wp2_with fail
        go_meet
        exact ⟨_, _, _, _, _, rfl, rfl, (KO12.sel [0, 2, 1, 3, 4] 99 (by decide) (by decide))⟩
    · skip
      go_simp
      have KO13 := hKd.al [] 4
      have HG := Lib.hid (HF.out _ (KO13.sel [2] 99 (by decide) (by decide)))
      refine hK'.out _ _ HG.out (fun hHeld2 => ?_)
      clear hK' K hHeld
      have hHeld := hHeld2
      clear hHeld2
      try simp only [Act.put, List.setIfInBounds_toArray]
      generalize wd.alloc (.cells #[] 4) = wo13 at KO13 hHeld ⊢
      obtain ⟨gs13, hgs13⟩ : ∃ g, wd.heap.size = g := ⟨_, rfl⟩
      rw [hgs13] at KO13 ⊢
      clear hgs13
      refine wpAnyH_ready (rs := [4, 9]) (by kernel_rfl) (by decide) (AllReadyH.cons (o := _) rfl (fun K hK' => ?_) (AllReadyH.cons (o := _) rfl (fun K hK' => ?_) AllReadyH.nil))
      · skip
        go_simp
        go_at_call 107
        refine (KC.out _ KO13.below).mono ?_
        rintro e wo14 ⟨E14, ec14, rfl, hK⟩
        have KO14 := KO13.join hK
        clear hK
        have HG := Lib.hid (HF.out _ (KO14.sel [3] 99 (by decide) (by decide)))
        refine hK'.out _ _ HG.out (fun hHeld2 => ?_)
        clear hK' K hHeld
        have hHeld := hHeld2
        clear hHeld2
        try simp only [Act.put, List.setIfInBounds_toArray]
        refine wpAnyH_take (i := 5) (v := ?_) rfl (by kernel_rfl) (by kernel_rfl) (by kernel_rfl) (fun _ _ _ h => h) (Or.inl ⟨by rfl, ?_⟩) hHeld ?_
        rotate_left
        · (intro w hSw; (try dsimp only at hSw); go_simp; try with_reducible rfl)
        try simp only [Act.put, List.setIfInBounds_toArray, List.set_cons_zero, List.set_cons_succ, List.getElem_toArray, List.getElem_cons_succ, List.getElem_cons_zero]
        refine wpAnyH_ready (rs := [8, 9]) (by kernel_rfl) (by decide) (AllReadyH.cons (o := _) rfl (fun K hK' => ?_) (AllReadyH.cons (o := _) rfl (fun K hK' => ?_) AllReadyH.nil))
        · skip
          have KO15 := (KO14.front 1 rfl).litRow (size := 1) (n := 0) rfl (by decide)
          refine kn_step_appC tpBl (by rfl) _ _ (by rfl) _ 0 [] (by rfl) (by rfl) (HCC.out _ KO15.below) KO15 (by rw [List.length_map, HCL.out, Nat.mul_one]) (bl_one _) (by omega) (by omega) ?_
          intro v' wo15 KO15
          rw [Nat.zero_add, List.nil_append] at KO15
          obtain ⟨C15, cc15, rfl⟩ := row_form KO15.at0
          have HG := Lib.hid (HF.out _ (KO15.sel [3] 99 (by decide) (by decide)))
          refine hK'.out _ _ HG.out (fun hHeld2 => ?_)
          clear hK' K hHeld
          have hHeld := hHeld2
          clear hHeld2
          try simp only [Act.put, List.setIfInBounds_toArray]
          refine wpAnyH_ready (rs := [9]) (by kernel_rfl) (by decide) (AllReadyH.cons (o := _) rfl (fun K hK' => ?_) AllReadyH.nil)
          go_simp
          have KO16 := KO15.al [.int .i64 0, .slice none 0 0] 33
          have HG := Lib.hid (HF.out _ (KO16.sel [4] 99 (by decide) (by decide)))
          refine hK'.out _ _ HG.out (fun hHeld2 => ?_)
          clear hK' K hHeld
          have hHeld := hHeld2
          clear hHeld2
          try simp only [Act.put, List.setIfInBounds_toArray]
          generalize wo15.alloc (.cells #[.int .i64 0, .slice none 0 0] 33) = wo16 at KO16 hHeld ⊢
          obtain ⟨go16, hgo16⟩ : ∃ g, wo15.heap.size = g := ⟨_, rfl⟩
          rw [hgo16] at KO16 ⊢
          clear hgo16
          refine wpAnyH_ready (rs := [10]) (by kernel_rfl) (by decide) (AllReadyH.cons (o := _) rfl (fun K hK' => ?_) AllReadyH.nil)
          obtain ⟨s1, s2, s3⟩ := (KO16.front 0 rfl).blkAt
          have KO17 := (((KO16.front 0 rfl).st 0 (.int .i64 b)).st 1 (.slice E14 n ec14))
          go_simp
          clear s1 s2 s3
          have HG := Lib.hid (HF.out _ (KO17.sel [4] 99 (by decide) (by decide)))
          refine hK'.out _ _ HG.out (fun hHeld2 => ?_)
          clear hK' K hHeld
          have hHeld := hHeld2
          clear hHeld2
          try simp only [Act.put, List.setIfInBounds_toArray]
          refine wpAnyH_take (i := 11) (v := ?_) rfl (by kernel_rfl) (by kernel_rfl) (by kernel_rfl) (fun _ _ _ h => h) (Or.inl ⟨by rfl, ?_⟩) hHeld ?_
          rotate_left
          · (intro w hSw; (try dsimp only at hSw); go_simp; try with_reducible rfl)
          try simp only [Act.put, List.setIfInBounds_toArray, List.set_cons_zero, List.set_cons_succ, List.getElem_toArray, List.getElem_cons_succ, List.getElem_cons_zero]
          refine wpAnyH_done (by kernel_rfl) ?_ _
          go_wp2_with fail
          go_meet
          exact ⟨_, _, _, _, _, rfl, rfl, (KO17.sel [0, 2, 1, 3, 4] 99 (by decide) (by decide))⟩
        · skip
          go_simp
          have KO18 := KO14.al [.int .i64 0, .slice none 0 0] 33
          have HG := Lib.hid (HF.out _ (KO18.sel [4] 99 (by decide) (by decide)))
          refine hK'.out _ _ HG.out (fun hHeld2 => ?_)
          clear hK' K hHeld
          have hHeld := hHeld2
          clear hHeld2
          try simp only [Act.put, List.setIfInBounds_toArray]
          generalize wo14.alloc (.cells #[.int .i64 0, .slice none 0 0] 33) = wo18 at KO18 hHeld ⊢
          obtain ⟨go18, hgo18⟩ : ∃ g, wo14.heap.size = g := ⟨_, rfl⟩
          rw [hgo18] at KO18 ⊢
          clear hgo18
          refine wpAnyH_ready (rs := [8]) (by kernel_rfl) (by decide) (AllReadyH.cons (o := _) rfl (fun K hK' => ?_) AllReadyH.nil)
          have KO19 := (KO18.front 2 rfl).litRow (size := 1) (n := 0) rfl (by decide)
          refine kn_step_appC tpBl (by rfl) _ _ (by rfl) _ 0 [] (by rfl) (by rfl) (HCC.out _ KO19.below) KO19 (by rw [List.length_map, HCL.out, Nat.mul_one]) (bl_one _) (by omega) (by omega) ?_
          intro v' wo19 KO19
          rw [Nat.zero_add, List.nil_append] at KO19
          obtain ⟨C19, cc19, rfl⟩ := row_form KO19.at0
          have HG := Lib.hid (HF.out _ (KO19.sel [4] 99 (by decide) (by decide)))
          refine hK'.out _ _ HG.out (fun hHeld2 => ?_)
          clear hK' K hHeld
          have hHeld := hHeld2
          clear hHeld2
          try simp only [Act.put, List.setIfInBounds_toArray]
          refine wpAnyH_ready (rs := [10]) (by kernel_rfl) (by decide) (AllReadyH.cons (o := _) rfl (fun K hK' => ?_) AllReadyH.nil)
          obtain ⟨s1, s2, s3⟩ := (KO19.front 1 rfl).blkAt
          have KO20 := (((KO19.front 1 rfl).st 0 (.int .i64 b)).st 1 (.slice E14 n ec14))
          go_simp
          clear s1 s2 s3
          have HG := Lib.hid (HF.out _ (KO20.sel [4] 99 (by decide) (by decide)))
          refine hK'.out _ _ HG.out (fun hHeld2 => ?_)
          clear hK' K hHeld
          have hHeld := hHeld2
          clear hHeld2
          try simp only [Act.put, List.setIfInBounds_toArray]
          refine wpAnyH_take (i := 11) (v := ?_) rfl (by kernel_rfl) (by kernel_rfl) (by kernel_rfl) (fun _ _ _ h => h) (Or.inl ⟨by rfl, ?_⟩) hHeld ?_
          rotate_left
          · (intro w hSw; (try dsimp only at hSw); go_simp; try with_reducible rfl)
          try simp only [Act.put, List.setIfInBounds_toArray, List.set_cons_zero, List.set_cons_succ, List.getElem_toArray, List.getElem_cons_succ, List.getElem_cons_zero]
          refine wpAnyH_done (by kernel_rfl) ?_ _
          go_wp2_with fail
          go_meet
          exact ⟨_, _, _, _, _, rfl, rfl, (KO20.sel [0, 2, 1, 3, 4] 99 (by decide) (by decide))⟩
      · skip
        go_simp
        have KO21 := KO13.al [.int .i64 0, .slice none 0 0] 33
        have HG := Lib.hid (HF.out _ (KO21.sel [3] 99 (by decide) (by decide)))
        refine hK'.out _ _ HG.out (fun hHeld2 => ?_)
        clear hK' K hHeld
        have hHeld := hHeld2
        clear hHeld2
        try simp only [Act.put, List.setIfInBounds_toArray]
        generalize wo13.alloc (.cells #[.int .i64 0, .slice none 0 0] 33) = wo21 at KO21 hHeld ⊢
        obtain ⟨go21, hgo21⟩ : ∃ g, wo13.heap.size = g := ⟨_, rfl⟩
        rw [hgo21] at KO21 ⊢
        clear hgo21
        refine wpAnyH_ready (rs := [4]) (by kernel_rfl) (by decide) (AllReadyH.cons (o := _) rfl (fun K hK' => ?_) AllReadyH.nil)
        go_simp
        go_at_call 107
        refine (KC.out _ KO21.below).mono ?_
        rintro e wo22 ⟨E22, ec22, rfl, hK⟩
        have KO22 := KO21.join hK
        clear hK
        have HG := Lib.hid (HF.out _ (KO22.sel [4] 99 (by decide) (by decide)))
        refine hK'.out _ _ HG.out (fun hHeld2 => ?_)
        clear hK' K hHeld
        have hHeld := hHeld2
        clear hHeld2
        try simp only [Act.put, List.setIfInBounds_toArray]
        refine wpAnyH_take (i := 5) (v := ?_) rfl (by kernel_rfl) (by kernel_rfl) (by kernel_rfl) (fun _ _ _ h => h) (Or.inl ⟨by rfl, ?_⟩) hHeld ?_
        rotate_left
        · (intro w hSw; (try dsimp only at hSw); go_simp; try with_reducible rfl)
        try simp only [Act.put, List.setIfInBounds_toArray, List.set_cons_zero, List.set_cons_succ, List.getElem_toArray, List.getElem_cons_succ, List.getElem_cons_zero]
        refine wpAnyH_ready (rs := [8]) (by kernel_rfl) (by decide) (AllReadyH.cons (o := _) rfl (fun K hK' => ?_) AllReadyH.nil)
        have KO23 := (KO22.front 2 rfl).litRow (size := 1) (n := 0) rfl (by decide)
        refine kn_step_appC tpBl (by rfl) _ _ (by rfl) _ 0 [] (by rfl) (by rfl) (HCC.out _ KO23.below) KO23 (by rw [List.length_map, HCL.out, Nat.mul_one]) (bl_one _) (by omega) (by omega) ?_
        intro v' wo23 KO23
        rw [Nat.zero_add, List.nil_append] at KO23
        obtain ⟨C23, cc23, rfl⟩ := row_form KO23.at0
        have HG := Lib.hid (HF.out _ (KO23.sel [4] 99 (by decide) (by decide)))
        refine hK'.out _ _ HG.out (fun hHeld2 => ?_)
        clear hK' K hHeld
        have hHeld := hHeld2
        clear hHeld2
        try simp only [Act.put, List.setIfInBounds_toArray]
        refine wpAnyH_ready (rs := [10]) (by kernel_rfl) (by decide) (AllReadyH.cons (o := _) rfl (fun K hK' => ?_) AllReadyH.nil)
        obtain ⟨s1, s2, s3⟩ := (KO23.front 2 rfl).blkAt
        have KO24 := (((KO23.front 2 rfl).st 0 (.int .i64 b)).st 1 (.slice E22 n ec22))
        go_simp
        clear s1 s2 s3
        have HG := Lib.hid (HF.out _ (KO24.sel [4] 99 (by decide) (by decide)))
        refine hK'.out _ _ HG.out (fun hHeld2 => ?_)
        clear hK' K hHeld
        have hHeld := hHeld2
        clear hHeld2
        try simp only [Act.put, List.setIfInBounds_toArray]
        refine wpAnyH_take (i := 11) (v := ?_) rfl (by kernel_rfl) (by kernel_rfl) (by kernel_rfl) (fun _ _ _ h => h) (Or.inl ⟨by rfl, ?_⟩) hHeld ?_
        rotate_left
        · (intro w hSw; (try dsimp only at hSw); go_simp; try with_reducible rfl)
        try simp only [Act.put, List.setIfInBounds_toArray, List.set_cons_zero, List.set_cons_succ, List.getElem_toArray, List.getElem_cons_succ, List.getElem_cons_zero]
        refine wpAnyH_done (by kernel_rfl) ?_ _
        go_wp2_with fail
        go_meet
        exact ⟨_, _, _, _, _, rfl, rfl, (KO24.sel [0, 2, 1, 3, 4] 99 (by decide) (by decide))⟩
    · skip
      go_simp
      have KO25 := hKd.al [.int .i64 0, .slice none 0 0] 33
      have HG := Lib.hid (HF.out _ (KO25.sel [2] 99 (by decide) (by decide)))
      refine hK'.out _ _ HG.out (fun hHeld2 => ?_)
      clear hK' K hHeld
      have hHeld := hHeld2
      clear hHeld2
      try simp only [Act.put, List.setIfInBounds_toArray]
      generalize wd.alloc (.cells #[.int .i64 0, .slice none 0 0] 33) = wo25 at KO25 hHeld ⊢
      obtain ⟨go25, hgo25⟩ : ∃ g, wd.heap.size = g := ⟨_, rfl⟩
      rw [hgo25] at KO25 ⊢
      clear hgo25
      refine wpAnyH_ready (rs := [4, 6]) (by kernel_rfl) (by decide) (AllReadyH.cons (o := _) rfl (fun K hK' => ?_) (AllReadyH.cons (o := _) rfl (fun K hK' => ?_) AllReadyH.nil))
      · skip
        go_simp
        go_at_call 107
        refine (KC.out _ KO25.below).mono ?_
        rintro e wo26 ⟨E26, ec26, rfl, hK⟩
        have KO26 := KO25.join hK
        clear hK
        have HG := Lib.hid (HF.out _ (KO26.sel [3] 99 (by decide) (by decide)))
        refine hK'.out _ _ HG.out (fun hHeld2 => ?_)
        clear hK' K hHeld
        have hHeld := hHeld2
        clear hHeld2
        try simp only [Act.put, List.setIfInBounds_toArray]
        refine wpAnyH_take (i := 5) (v := ?_) rfl (by kernel_rfl) (by kernel_rfl) (by kernel_rfl) (fun _ _ _ h => h) (Or.inl ⟨by rfl, ?_⟩) hHeld ?_
        rotate_left
        · (intro w hSw; (try dsimp only at hSw); go_simp; try with_reducible rfl)
        try simp only [Act.put, List.setIfInBounds_toArray, List.set_cons_zero, List.set_cons_succ, List.getElem_toArray, List.getElem_cons_succ, List.getElem_cons_zero]
        refine wpAnyH_ready (rs := [6]) (by kernel_rfl) (by decide) (AllReadyH.cons (o := _) rfl (fun K hK' => ?_) AllReadyH.nil)
        go_simp
        have KO27 := KO26.al [] 4
        have HG := Lib.hid (HF.out _ (KO27.sel [4] 99 (by decide) (by decide)))
        refine hK'.out _ _ HG.out (fun hHeld2 => ?_)
        clear hK' K hHeld
        have hHeld := hHeld2
        clear hHeld2
        try simp only [Act.put, List.setIfInBounds_toArray]
        generalize wo26.alloc (.cells #[] 4) = wo27 at KO27 hHeld ⊢
        obtain ⟨gs27, hgs27⟩ : ∃ g, wo26.heap.size = g := ⟨_, rfl⟩
        rw [hgs27] at KO27 ⊢
        clear hgs27
        refine wpAnyH_ready (rs := [8]) (by kernel_rfl) (by decide) (AllReadyH.cons (o := _) rfl (fun K hK' => ?_) AllReadyH.nil)
        have KO28 := (KO27.front 0 rfl).litRow (size := 1) (n := 0) rfl (by decide)
        refine kn_step_appC tpBl (by rfl) _ _ (by rfl) _ 0 [] (by rfl) (by rfl) (HCC.out _ KO28.below) KO28 (by rw [List.length_map, HCL.out, Nat.mul_one]) (bl_one _) (by omega) (by omega) ?_
        intro v' wo28 KO28
        rw [Nat.zero_add, List.nil_append] at KO28
        obtain ⟨C28, cc28, rfl⟩ := row_form KO28.at0
        have HG := Lib.hid (HF.out _ (KO28.sel [4] 99 (by decide) (by decide)))
        refine hK'.out _ _ HG.out (fun hHeld2 => ?_)
        clear hK' K hHeld
        have hHeld := hHeld2
        clear hHeld2
        try simp only [Act.put, List.setIfInBounds_toArray]
        refine wpAnyH_ready (rs := [10]) (by kernel_rfl) (by decide) (AllReadyH.cons (o := _) rfl (fun K hK' => ?_) AllReadyH.nil)
        obtain ⟨s1, s2, s3⟩ := (KO28.front 2 rfl).blkAt
        have KO29 := (((KO28.front 2 rfl).st 0 (.int .i64 b)).st 1 (.slice E26 n ec26))
        go_simp
        clear s1 s2 s3
        have HG := Lib.hid (HF.out _ (KO29.sel [4] 99 (by decide) (by decide)))
        refine hK'.out _ _ HG.out (fun hHeld2 => ?_)
        clear hK' K hHeld
        have hHeld := hHeld2
        clear hHeld2
        try simp only [Act.put, List.setIfInBounds_toArray]
        refine wpAnyH_take (i := 11) (v := ?_) rfl (by kernel_rfl) (by kernel_rfl) (by kernel_rfl) (fun _ _ _ h => h) (Or.inl ⟨by rfl, ?_⟩) hHeld ?_
        rotate_left
        · (intro w hSw; (try dsimp only at hSw); go_simp; try with_reducible rfl)
        try simp only [Act.put, List.setIfInBounds_toArray, List.set_cons_zero, List.set_cons_succ, List.getElem_toArray, List.getElem_cons_succ, List.getElem_cons_zero]
        refine wpAnyH_done (by kernel_rfl) ?_ _
        go_wp2_with fail
        go_meet
        exact ⟨_, _, _, _, _, rfl, rfl, (KO29.sel [0, 2, 1, 3, 4] 99 (by decide) (by decide))⟩
      · skip
        go_simp
        have KO30 := KO25.al [] 4
        have HG := Lib.hid (HF.out _ (KO30.sel [3] 99 (by decide) (by decide)))
        refine hK'.out _ _ HG.out (fun hHeld2 => ?_)
        clear hK' K hHeld
        have hHeld := hHeld2
        clear hHeld2
        try simp only [Act.put, List.setIfInBounds_toArray]
        generalize wo25.alloc (.cells #[] 4) = wo30 at KO30 hHeld ⊢
        obtain ⟨gs30, hgs30⟩ : ∃ g, wo25.heap.size = g := ⟨_, rfl⟩
        rw [hgs30] at KO30 ⊢
        clear hgs30
        refine wpAnyH_ready (rs := [4]) (by kernel_rfl) (by decide) (AllReadyH.cons (o := _) rfl (fun K hK' => ?_) AllReadyH.nil)
        go_simp
        go_at_call 107
        refine (KC.out _ KO30.below).mono ?_
        rintro e wo31 ⟨E31, ec31, rfl, hK⟩
        have KO31 := KO30.join hK
        clear hK
        have HG := Lib.hid (HF.out _ (KO31.sel [4] 99 (by decide) (by decide)))
        refine hK'.out _ _ HG.out (fun hHeld2 => ?_)
        clear hK' K hHeld
        have hHeld := hHeld2
        clear hHeld2
        try simp only [Act.put, List.setIfInBounds_toArray]
        refine wpAnyH_take (i := 5) (v := ?_) rfl (by kernel_rfl) (by kernel_rfl) (by kernel_rfl) (fun _ _ _ h => h) (Or.inl ⟨by rfl, ?_⟩) hHeld ?_
        rotate_left
        · (intro w hSw; (try dsimp only at hSw); go_simp; try with_reducible rfl)
        try simp only [Act.put, List.setIfInBounds_toArray, List.set_cons_zero, List.set_cons_succ, List.getElem_toArray, List.getElem_cons_succ, List.getElem_cons_zero]
        refine wpAnyH_ready (rs := [8]) (by kernel_rfl) (by decide) (AllReadyH.cons (o := _) rfl (fun K hK' => ?_) AllReadyH.nil)
        have KO32 := (KO31.front 1 rfl).litRow (size := 1) (n := 0) rfl (by decide)
        refine kn_step_appC tpBl (by rfl) _ _ (by rfl) _ 0 [] (by rfl) (by rfl) (HCC.out _ KO32.below) KO32 (by rw [List.length_map, HCL.out, Nat.mul_one]) (bl_one _) (by omega) (by omega) ?_
        intro v' wo32 KO32
        rw [Nat.zero_add, List.nil_append] at KO32
        obtain ⟨C32, cc32, rfl⟩ := row_form KO32.at0
        have HG := Lib.hid (HF.out _ (KO32.sel [4] 99 (by decide) (by decide)))
        refine hK'.out _ _ HG.out (fun hHeld2 => ?_)
        clear hK' K hHeld
        have hHeld := hHeld2
        clear hHeld2
        try simp only [Act.put, List.setIfInBounds_toArray]
        refine wpAnyH_ready (rs := [10]) (by kernel_rfl) (by decide) (AllReadyH.cons (o := _) rfl (fun K hK' => ?_) AllReadyH.nil)
        obtain ⟨s1, s2, s3⟩ := (KO32.front 2 rfl).blkAt
        have KO33 := (((KO32.front 2 rfl).st 0 (.int .i64 b)).st 1 (.slice E31 n ec31))
        go_simp
        clear s1 s2 s3
        have HG := Lib.hid (HF.out _ (KO33.sel [4] 99 (by decide) (by decide)))
        refine hK'.out _ _ HG.out (fun hHeld2 => ?_)
        clear hK' K hHeld
        have hHeld := hHeld2
        clear hHeld2
        try simp only [Act.put, List.setIfInBounds_toArray]
        refine wpAnyH_take (i := 11) (v := ?_) rfl (by kernel_rfl) (by kernel_rfl) (by kernel_rfl) (fun _ _ _ h => h) (Or.inl ⟨by rfl, ?_⟩) hHeld ?_
        rotate_left
        · (intro w hSw; (try dsimp only at hSw); go_simp; try with_reducible rfl)
        try simp only [Act.put, List.setIfInBounds_toArray, List.set_cons_zero, List.set_cons_succ, List.getElem_toArray, List.getElem_cons_succ, List.getElem_cons_zero]
        refine wpAnyH_done (by kernel_rfl) ?_ _
        go_wp2_with fail
        go_meet
        exact ⟨_, _, _, _, _, rfl, rfl, (KO33.sel [0, 2, 1, 3, 4] 99 (by decide) (by decide))⟩
  case rest =>
    obtain ⟨gO, E, ec, C', cc', rfl, rfl, K3⟩ := hcut
    clear KC HCC HF HG hKd K1
    unfold rowI at K3
    rw [HNL.out] at K3
    obtain ⟨gd, d1, hE⟩ := Kn.rowForm (K3.front 1 rfl) h0
    injection hE with hE hE2 hE3
    subst hE hE3
    obtain ⟨gc, d2, hC⟩ := Kn.rowForm (K3.front 2 rfl) h0
    injection hC with hC hC2 hC3
    subst hC hC3
    rw [← HTS.out, ← HCS.out] at K3
    have K4 := K3.sel [1, 2, 0, 3, 4] 99 (by decide) (by decide)
    clear K3
    go_wp2_with fail
    go_loopw [20] (fun ii wr => ∃ (k : Nat), k ≤ n ∧ ii = .int .i64 (k : Int) ∧ Kn w [.row (.slice (some ⟨gd, 0, none⟩) n ec) 2 1 n ((digPL b xs ys n k).map (Value.int .i64)), .row (.slice (some ⟨gc, 0, none⟩) n cc') 4 1 n ((levPL b xs ys n k).map Value.bool), .blk gO [.int .i64 b, .slice (some ⟨gd, 0, none⟩) n ec] 33, .blk (g + 1) [.int .i64 0, .slice none 0 0] 33, .blk g [.int .i64 b, .slice XA n xc] 33] wr) (fun ii _ => n - (intOf ii).toNat)
    case atStart => exact ⟨0, Nat.zero_le _, rfl, K4⟩
    case round =>
      clear K4
      obtain ⟨k, hk, rfl, KR⟩ := hrel
      by_cases hkn : k < n
      · have i1 : (k : Int) < (n : Int) := by omega
        have i0 : (0 : Int) ≤ (k : Int) := by omega
        obtain ⟨l1, l2⟩ := Kn.rowCell (KR.front 1 rfl) (j := k) (u := .bool (levP b xs ys k k)) (by rw [List.getElem?_map, levPL_at b xs ys hkn]; rfl)
        have hlv : levP b xs ys k k = decide (carK b xs ys (k + 1) = 1) := by unfold levP; rw [if_pos (Nat.le_refl _)]
        rw [hlv] at l1
        clear hlv
        rcases HC1.out (k + 1) with hc | hc
        · have hN := Lib.hid (HPN.out k hc)
          rw [hc, show decide ((0 : Int) = 1) = false from rfl] at l1
          clear hc
          go_wp2_with fail
          go_roundw
          case rel => exact ⟨k + 1, by omega, by go_num, by rw [hN.out.1, hN.out.2]; exact KR⟩
          case measure => simp [intOf]; omega
        · rw [hc, show decide ((1 : Int) = 1) = true from rfl] at l1
          have hY := HPY.out k hc
          clear hc
          obtain ⟨j, hj⟩ : ∃ j : Nat, k + 1 = j := ⟨_, rfl⟩
          have q1 : IntKind.i64.wrap ((k : Int) + 1) = (j : Int) := by rw [wrapI64 (by omega)]; omega
          by_cases hk2 : k + 1 < n
          · have i2 : ¬ (j : Int) = (n : Int) := by omega
            have i3 : ((j : Int) == (n : Int)) = false := beq_eq_false_iff_ne.2 i2
            have i4 : (0 : Int) ≤ (j : Int) := by omega
            have i5 : (j : Int) < (n : Int) := by omega
            obtain ⟨x1, x2⟩ := Kn.rowCell KR (j := j) (u := .int .i64 (turnK b xs ys (k + 1))) (by rw [← hj, List.getElem?_map, digPL_at b xs ys hk2]; unfold digP; rw [if_neg (by omega)]; rfl)
            have hset := Lib.hid (digPL_set (b := b) (xs := xs) (ys := ys) n k hk2)
            have hset2 := Lib.hid (levPL_set (b := b) (xs := xs) (ys := ys) n k hk2)
            have hat := levPL_at b xs ys (k := k) hk2
            have htb := HTB.out (k + 1)
            have hle : levP b xs ys k (k + 1) = cockK b xs ys (k + 1) := by unfold levP; rw [if_neg (by omega)]
            rw [hle] at hat
            have HAT := Lib.hid hat
            clear hat hle
            obtain ⟨t, ht⟩ : ∃ t, turnK b xs ys (k + 1) = t := ⟨_, rfl⟩
            rw [ht] at x1 hY htb
            obtain ⟨v, hv⟩ : ∃ v, t + 1 = v := ⟨_, rfl⟩
            have q2 : IntKind.i64.wrap (t + 1) = v := by rw [wrapI64 (by omega)]; exact hv
            rw [hv] at hY
            have HY := Lib.hid hY
            have HJ := Lib.hid hj
            clear ht hv hY hj
            obtain ⟨p1, p2, p3, -⟩ := (KR.front 2 rfl).cells
            go_upto_region 7 with fail
            have KS := Kn.rowSt KR j (.int .i64 v)
            refine Code.wp.kn KS ?_; clear KS x1 x2 l1 l2 p1 p2 p3 q2; intro wx KS
            clear KR
            obtain ⟨p1, p2, p3, -⟩ := (KS.front 2 rfl).cells
            obtain ⟨r1, r2, r3, -⟩ := (KS.front 4 rfl).cells
            obtain ⟨x1, x2⟩ := Kn.rowCell KS (j := j) (u := .int .i64 v) (by rw [List.getElem?_set_self (by rw [List.length_map, digPL_len, ← HJ.out]; exact hk2)])
            obtain ⟨y1, y2⟩ := Kn.rowCell (KS.front 1 rfl) (j := j) (u := .bool (cockK b xs ys (k + 1))) (by rw [List.getElem?_map, ← HJ.out, HAT.out]; rfl)
            by_cases hvb : v = b
            · have HS := HY.out.resolve_right (fun h => h.1 hvb)
              have hD : digPL b xs ys n j = ((digPL b xs ys n k).set j v).set j 0 := by rw [List.set_set, ← HJ.out, hset.out, HS.2.1]
              have hL : levPL b xs ys n j = (levPL b xs ys n k).set j true := by rw [← HJ.out, hset2.out, HS.2.2]; rfl
              have HD := Lib.hid hD
              have HL := Lib.hid hL
              clear hset hset2 HY HS hD hL HAT
              subst hvb
              go_quiet (fail)
              go_upto_region 9 with fail
              refine Code.wp.kn (Kn.rowSt (KS.drewN _) j (.int .i64 0)) ?_; clear KS x1 x2 y1 y2 p1 p2 p3 r1 r2 r3; intro wz KZ
              obtain ⟨y1, y2⟩ := Kn.rowCell (KZ.front 1 rfl) (j := j) (u := .bool (cockK v xs ys (k + 1))) (by rw [List.getElem?_map, ← HJ.out, levPL_at v xs ys hk2]; unfold levP; rw [if_neg (by omega)]; rfl)
              go_wp2_with fail
              have KB := (Kn.rowSt (KZ.front 1 rfl) j (.bool true)).sel [1, 0, 2, 3, 4] 99 (by decide) (by decide)
              go_roundw
              case rel => exact ⟨j, by have := HJ.out; omega, rfl, by rw [HD.out, HL.out, List.map_set, List.map_set, List.map_set]; exact KB⟩
              case measure => have := HJ.out; simp [intOf]; omega
            · have HS := HY.out.resolve_left (fun h => hvb h.1)
              have hD : digPL b xs ys n j = (digPL b xs ys n k).set j v := by rw [← HJ.out, hset.out, HS.2.1]
              have hL : levPL b xs ys n j = levPL b xs ys n k := by rw [← HJ.out, hset2.out, HS.2.2]; exact set_id HAT.out
              have HD := Lib.hid hD
              have HL := Lib.hid hL
              clear hset hset2 HY HS hD hL HAT
              have v1 : (v == b) = false := beq_eq_false_iff_ne.2 hvb
              go_quiet (fail)
              go_wp2_with fail
              go_roundw
              case rel => exact ⟨j, by have := HJ.out; omega, rfl, by rw [HD.out, HL.out, List.map_set]; exact KS.drewN _⟩
              case measure => have := HJ.out; simp [intOf]; omega
          · have i2 : (j : Int) = (n : Int) := by omega
            have hN := Lib.hid (PL_last b xs ys (n := n) (k := k) (by omega))
            go_wp2_with fail
            go_roundw
            case rel => exact ⟨k + 1, by omega, by go_num, by rw [hN.out.1, hN.out.2]; exact KR⟩
            case measure => simp [intOf]; omega
      · have i1 : ¬ (k : Int) < (n : Int) := by omega
        obtain rfl : k = n := by omega
        obtain ⟨e1, e2⟩ := digPL_end (b := b) (xs := xs) (ys := ys) k
        rw [e1, e2] at KR
        have HE1 := Lib.hid (show (addD b xs ys k).length = k by rw [← e1, digPL_len])
        have HE2 := Lib.hid (show (levL b xs ys k).length = k by rw [levL_len])
        clear e1 e2
        obtain ⟨a1, a2, a3, c1, c2, c3, -⟩ := (KR.front 2 rfl).cells
        go_wp2_with fail
        have K9 := ((KR.front 3 rfl).st 0 (.int .i64 b)).st 1 (.slice (some ⟨gd, 0, none⟩) k ec)
        refine bodyPost.kn K9 ?_; clear K9 KR a1 a2 a3 c1 c2 c3; intro w9 K9
        obtain ⟨a1, a2, a3, -⟩ := K9.cells
        refine bodyPost_ret (v := .tuple #[.agg #[.int .i64 b, .slice (some ⟨gd, 0, none⟩) k ec], .slice (some ⟨gc, 0, none⟩) k cc']) (by simp [results, Tryd.results100, go_sem, a1]) rfl ⟨_, ec, _, cc', rfl, HE1.out, HE2.out, ?_⟩
        unfold rowI rowBl
        rw [HE1.out, HE2.out]
        exact K9.sel [1, 2] 99 (by decide) (by decide)
end Go.Proofs.YtlhcilmnfmglfaaDoor

namespace Go.Proofs.YtlhcilmnfmglfaaDoor
open Go.RowKit Go.Sort
theorem Kn.rivN {w0 w : World} {m : List Ent} {A : Option Addr} {c n : Nat} {ds : List Int} (h : Kn w0 (rowI A c ds :: m) w) (hn : ds.length = n) : RI w A n ds := by
  subst hn; exact h.riv
theorem Kn.rlBlN {w0 w : World} {m : List Ent} {A : Option Addr} {c n : Nat} {bs : List Bool} (h : Kn w0 (rowBl A c bs :: m) w) (hn : bs.length = n) : RL BlM 1 w A n bs := by
  subst hn; exact h.rlBl
theorem pushed_ok (b : Int) (xs ys : List Int) (hv1 : vreg b xs = true) (hv2 : vreg b ys = true) (n : Nat) (h0 : 0 < n) (hn : n ≤ 16) (E : Option Addr) (ec : Nat) (C : Option Addr) (cc : Nat) (w : World) (hx : RI w E n (turnD b xs ys n)) (hc : RL BlM 1 w C n (cockL b xs ys n)) :
    Calls Tryd.prog 100 #[.agg #[.int .i64 b, .slice E n ec], .slice C n cc] w (PRet b n (addD b xs ys n) (levL b xs ys n) w) := by
  obtain ⟨⟨b1, b2⟩, -, hdx, -⟩ := vreg_iff.1 hv1
  have hdy := (vreg_iff.1 hv2).2.2.1
  exact pushed_any b xs ys b1 b2 hdx hdy n _ _ (digPL_zero b1 hdx hdy n) (levPL_zero b1 hdx hdy n) E ec C cc w hx hc h0 hn
set_option maxRecDepth 100000 in
set_option maxHeartbeats 3200000 in
theorem CountPushes_ok (b : Int) (XA : Option Addr) (xc : Nat) (xs : List Int) (YA : Option Addr) (yc : Nat) (ys : List Int) (w : World) (hx : RI w XA xs.length xs) (hy : RI w YA ys.length ys) (hv1 : vreg b xs = true) (hv2 : vreg b ys = true) (hl : xs.length = ys.length) :
    Calls Tryd.prog 34 #[.agg #[.int .i64 b, .slice XA xs.length xc], .agg #[.int .i64 b, .slice YA ys.length yc]] w fun e w' => e = .returned (.tuple #[.int .i64 (levN b xs ys xs.length : Int), .int .i64 0]) ∧ Below w.heap.size w w' := by
  obtain ⟨⟨b1, b2⟩, ⟨n1, n2⟩, hdx, -⟩ := vreg_iff.1 hv1
  have hdy := (vreg_iff.1 hv2).2.2.1
  have KP := Lib.hid (fun W (hW : Below w.heap.size w W) => pairCode_ok b XA xc xs YA yc ys W (hx.below hW) (hy.below hW) hv1 hv2 hl)
  have KT := (fun W (hW : Below w.heap.size w W) => turned_any b XA xc xs YA yc ys W (hx.below hW) (hy.below hW) b1 b2 hdx hdy hl n2)
  have KU := (fun E ec C cc W hx hc => pushed_ok b xs ys hv1 hv2 xs.length (by omega) n2 E ec C cc W hx hc)
  have HC1 := Lib.hid (fun k => car_one b1 hdx hdy k)
  have HCL := Lib.hid (fun k (h : cockK b xs ys k = true) => cock_lev (k := k) b1 hdx hdy h)
  unfold PRet at KU
  have hal := turnD_len b xs ys xs.length
  have hcl := cockL_len b xs ys xs.length
  obtain ⟨ss, hss⟩ : ∃ s, turnD b xs ys xs.length = s := ⟨_, rfl⟩
  obtain ⟨cs, hcs⟩ : ∃ s, cockL b xs ys xs.length = s := ⟨_, rfl⟩
  obtain ⟨ls, hls⟩ : ∃ s, levL b xs ys xs.length = s := ⟨_, rfl⟩
  obtain ⟨ds, hds⟩ : ∃ s, addD b xs ys xs.length = s := ⟨_, rfl⟩
  rw [hss] at hal
  rw [hcs] at hcl
  simp only [hss, hcs, hls, hds] at KT KU
  replace KT := Lib.hid KT
  replace KU := Lib.hid KU
  have HLS := Lib.hid (fun k (h : k < xs.length) => (show ls[k]? = some (decide (carK b xs ys (k + 1) = 1)) by rw [← hls]; exact levL_get h))
  have HCS := Lib.hid (fun k (h : k < xs.length) => (show cs[k]? = some (cockK b xs ys k) by rw [← hcs]; exact cockL_get h))
  have HAL := Lib.hid hal
  have HCC := Lib.hid hcl
  clear hss hcs hls hds hal hcl hdx hdy hv1 hv2 hl hx hy
  obtain ⟨g1, hg1⟩ : ∃ g, w.heap.size = g := ⟨_, rfl⟩
  have K0 := ((Kn.nil w).al [.int .i64 b, .slice XA xs.length xc] 33).al [.int .i64 b, .slice YA ys.length yc] 33
  simp only [World.size_alloc, hg1] at K0
  obtain ⟨n, hn⟩ : ∃ n, xs.length = n := ⟨_, rfl⟩
  rw [hn] at KP KT KU K0 HAL HCC HLS HCS n1 n2 ⊢
  have HN := Lib.hid hn
  clear hn
  have HLN := Lib.hid (fun k => levN_le b xs ys k)
  go_enter Tryd.func34, Tryd.ntmps34
  go_upto_region 5 with (first
    | (go_at_call 98; refine Calls.kn K0 ?_; intro w1 K1; refine (KP.out _ K1.below).mono ?_; rintro e w2 ⟨rfl, hw⟩; have K2 := K1.keep hw; clear hw K1; obtain ⟨a1, a2, a3, c1, c2, c3, -⟩ := K2.cells)
    | (go_at_call 99; refine (KT.out _ K2.below).mono ?_; rintro e w3 ⟨E, ec, C, cc, rfl, hK⟩; have K3 := K2.join hK; clear hK K2 a1 a2 a3 c1 c2 c3)
    | (go_at_call 100; refine (KU.out E ec C cc _ (K3.rivN HAL.out) ((K3.front 1 rfl).rlBlN HCC.out)).mono ?_; rintro e w4 ⟨F, fc, D, dc, rfl, hl1, hl2, hK⟩; have K4 := (K3.join hK).sel [1] 99 (by decide) (by decide); clear hK K3))
  refine Code.wp.kn (K4.al_ _) ?_; clear K4; intro w5 K5
  have HL2 := Lib.hid hl2
  clear hl1 hl2
  go_wp2_with fail
  go_loopw [9, 29] (fun nn ii wr => ∃ k : Nat, k ≤ n ∧ ii = .int .i64 (k : Int) ∧ nn = .int .i64 (levN b xs ys k : Int) ∧ Kn w [rowBl D dc ls] wr) (fun _ ii _ => n - (intOf ii).toNat)
  case atStart => exact ⟨0, Nat.zero_le _, rfl, rfl, K5⟩
  case round =>
    clear K5
    obtain ⟨k, hk, rfl, rfl, KR⟩ := hrel
    by_cases hkn : k < n
    · have i1 : (k : Int) < (n : Int) := by omega
      have i0 : (0 : Int) ≤ (k : Int) := by omega
      obtain ⟨ad, hA, hlt, hkx, hcx⟩ := (KR.rlBlN HL2.out).at_ hkn
      have hv := HLS.out k hkn
      rw [List.getElem?_eq_getElem hkx] at hv
      injection hv with hv
      unfold BlM at hcx
      rw [hv, Nat.mul_one] at hcx
      have hle := HLN.out k
      have hs : levN b xs ys (k + 1) = levN b xs ys k + (if carK b xs ys (k + 1) = 1 then 1 else 0) := rfl
      obtain ⟨q, hq⟩ : ∃ q, levN b xs ys k = q := ⟨_, rfl⟩
      rw [hq] at hs hle ⊢
      subst hA
      clear hq hkx hv
      rcases HC1.out (k + 1) with hc | hc
      · rw [hc, show decide ((0 : Int) = 1) = false from rfl] at hcx
        rw [hc, if_neg (by decide)] at hs
        have HS := Lib.hid hs
        clear hc hs
        go_wp2_with fail
        go_roundw
        case rel => exact ⟨k + 1, by omega, by go_num, by rw [HS.out]; rfl, KR⟩
        case measure => simp [intOf] <;> omega
      · rw [hc, show decide ((1 : Int) = 1) = true from rfl] at hcx
        rw [hc, if_pos rfl] at hs
        have HS := Lib.hid hs
        clear hc hs
        go_wp2_with fail
        go_roundw
        case rel => exact ⟨k + 1, by omega, by go_num, by rw [HS.out]; go_num, KR⟩
        case measure => simp [intOf] <;> omega
    · have i1 : ¬ (k : Int) < (n : Int) := by omega
      obtain rfl : k = n := by omega
      go_wp2_with fail
      go_ret2
      exact ⟨rfl, by first | exact KR.below | (have h := KR.below; rw [hg1] at h; exact h)⟩
set_option maxRecDepth 100000 in
set_option maxHeartbeats 3200000 in
theorem RippleOf_ok (b : Int) (XA : Option Addr) (xc : Nat) (xs : List Int) (YA : Option Addr) (yc : Nat) (ys : List Int) (w : World) (hx : RI w XA xs.length xs) (hy : RI w YA ys.length ys) (hv1 : vreg b xs = true) (hv2 : vreg b ys = true) (hl : xs.length = ys.length) :
    Calls Tryd.prog 35 #[.agg #[.int .i64 b, .slice XA xs.length xc], .agg #[.int .i64 b, .slice YA ys.length yc]] w fun e w' => (∃ r : Int, e = .returned (.tuple #[.int .i64 r, .int .i64 0]) ∧ r ≤ (levN b xs ys xs.length : Int) ∧ (r = 0 ↔ levN b xs ys xs.length = 0)) ∧ Below w.heap.size w w' := by
  obtain ⟨⟨b1, b2⟩, ⟨n1, n2⟩, hdx, -⟩ := vreg_iff.1 hv1
  have hdy := (vreg_iff.1 hv2).2.2.1
  have KP := Lib.hid (fun W (hW : Below w.heap.size w W) => pairCode_ok b XA xc xs YA yc ys W (hx.below hW) (hy.below hW) hv1 hv2 hl)
  have KT := (fun W (hW : Below w.heap.size w W) => turned_any b XA xc xs YA yc ys W (hx.below hW) (hy.below hW) b1 b2 hdx hdy hl n2)
  have KU := (fun E ec C cc W hx hc => pushed_ok b xs ys hv1 hv2 xs.length (by omega) n2 E ec C cc W hx hc)
  have HC1 := Lib.hid (fun k => car_one b1 hdx hdy k)
  have HCL := Lib.hid (fun k (h : cockK b xs ys k = true) => cock_lev (k := k) b1 hdx hdy h)
  unfold PRet at KU
  have hal := turnD_len b xs ys xs.length
  have hcl := cockL_len b xs ys xs.length
  obtain ⟨ss, hss⟩ : ∃ s, turnD b xs ys xs.length = s := ⟨_, rfl⟩
  obtain ⟨cs, hcs⟩ : ∃ s, cockL b xs ys xs.length = s := ⟨_, rfl⟩
  obtain ⟨ls, hls⟩ : ∃ s, levL b xs ys xs.length = s := ⟨_, rfl⟩
  obtain ⟨ds, hds⟩ : ∃ s, addD b xs ys xs.length = s := ⟨_, rfl⟩
  rw [hss] at hal
  rw [hcs] at hcl
  simp only [hss, hcs, hls, hds] at KT KU
  replace KT := Lib.hid KT
  replace KU := Lib.hid KU
  have HLS := Lib.hid (fun k (h : k < xs.length) => (show ls[k]? = some (decide (carK b xs ys (k + 1) = 1)) by rw [← hls]; exact levL_get h))
  have HCS := Lib.hid (fun k (h : k < xs.length) => (show cs[k]? = some (cockK b xs ys k) by rw [← hcs]; exact cockL_get h))
  have HAL := Lib.hid hal
  have HCC := Lib.hid hcl
  clear hss hcs hls hds hal hcl hdx hdy hv1 hv2 hl hx hy
  obtain ⟨g1, hg1⟩ : ∃ g, w.heap.size = g := ⟨_, rfl⟩
  have K0 := ((Kn.nil w).al [.int .i64 b, .slice XA xs.length xc] 33).al [.int .i64 b, .slice YA ys.length yc] 33
  simp only [World.size_alloc, hg1] at K0
  obtain ⟨n, hn⟩ : ∃ n, xs.length = n := ⟨_, rfl⟩
  rw [hn] at KP KT KU K0 HAL HCC HLS HCS n1 n2 ⊢
  have HN := Lib.hid hn
  clear hn
  have HLN := Lib.hid (fun k => levN_le b xs ys k)
  go_enter Tryd.func35, Tryd.ntmps35
  go_upto_region 5 with (first
    | (go_at_call 98; refine Calls.kn K0 ?_; intro w1 K1; refine (KP.out _ K1.below).mono ?_; rintro e w2 ⟨rfl, hw⟩; have K2 := K1.keep hw; clear hw K1; obtain ⟨a1, a2, a3, c1, c2, c3, -⟩ := K2.cells)
    | (go_at_call 99; refine (KT.out _ K2.below).mono ?_; rintro e w3 ⟨E, ec, C, cc, rfl, hK⟩; have K3 := K2.join hK; clear hK K2 a1 a2 a3 c1 c2 c3))
  obtain ⟨g7, hg7⟩ : ∃ g, w3.heap.size = g := ⟨_, rfl⟩
  have K4 := K3.al [.int .i64 b, .slice E n ec] 33
  rw [hg7] at K4
  try rw [hg7]
  refine Code.wp.kn K4 ?_; clear K3 K4 hg7; intro w4 K4
  obtain ⟨a1, a2, a3, -⟩ := K4.cells
  go_upto_region 6 with (go_at_call 100; refine (KU.out E ec C cc _ ((K4.front 1 rfl).rivN HAL.out) ((K4.front 2 rfl).rlBlN HCC.out)).mono ?_; rintro e w5 ⟨F, fc, D, dc, rfl, hl1, hl2, hK⟩; have K5 := (K4.join hK).sel [1, 4] 99 (by decide) (by decide); clear hK K4 a1 a2 a3)
  refine Code.wp.kn (K5.al_ _) ?_; clear K5; intro w6 K6
  have HL2 := Lib.hid hl2
  clear hl1 hl2
  go_wp2_with fail
  go_loopw [11, 12, 34] (fun rr mm ii wr => ∃ (k : Nat) (r m : Int), k ≤ n ∧ ii = .int .i64 (k : Int) ∧ rr = .int .i64 r ∧ mm = .int .i64 m ∧ Hid ((0 ≤ r ∧ r ≤ (levN b xs ys k : Int)) ∧ (0 ≤ m ∧ m ≤ (levN b xs ys k : Int)) ∧ (m = 0 → levN b xs ys k = 0)) ∧ Kn w [rowBl D dc ls, rowBl C cc cs] wr) (fun _ _ ii _ => n - (intOf ii).toNat)
  case atStart => exact ⟨0, 0, 0, Nat.zero_le _, rfl, rfl, rfl, Lib.hid ⟨⟨Int.le_refl _, Int.le_refl _⟩, ⟨Int.le_refl _, Int.le_refl _⟩, fun _ => rfl⟩, K6⟩
  case round =>
    clear K6
    obtain ⟨k, r, m, hk, rfl, rfl, rfl, HI, KR⟩ := hrel
    by_cases hkn : k < n
    · have i1 : (k : Int) < (n : Int) := by omega
      have i0 : (0 : Int) ≤ (k : Int) := by omega
      obtain ⟨ad, hA, hlt, hkx, hcx⟩ := (KR.rlBlN HL2.out).at_ hkn
      obtain ⟨ad2, hA2, hlt2, hkx2, hcx2⟩ := ((KR.front 1 rfl).rlBlN HCC.out).at_ hkn
      have hv := HLS.out k hkn
      have hv2 := HCS.out k hkn
      have hcl := HCL.out k
      rw [List.getElem?_eq_getElem hkx] at hv
      rw [List.getElem?_eq_getElem hkx2] at hv2
      injection hv with hv
      injection hv2 with hv2
      unfold BlM at hcx hcx2
      rw [hv, Nat.mul_one] at hcx
      rw [hv2, Nat.mul_one] at hcx2
      have hle := HLN.out k
      have hs : levN b xs ys (k + 1) = levN b xs ys k + (if carK b xs ys (k + 1) = 1 then 1 else 0) := rfl
      obtain ⟨q, hq⟩ : ∃ q, levN b xs ys k = q := ⟨_, rfl⟩
      rw [hq] at hs hle HI
      have hi := HI.out
      subst hA hA2
      clear hq hkx hkx2 hv hv2
      obtain ⟨ck, hck⟩ : ∃ c, cockK b xs ys k = c := ⟨_, rfl⟩
      rw [hck] at hcx2 hcl
      clear hck
      cases ck with
      | true =>
        have hc := hcl rfl
        rw [hc, if_pos rfl] at hs
        have HS := Lib.hid hs
        clear hc hs hcx hcl hi
        by_cases hm : m < 1
        · have hm1 : ¬ 1 ≤ m := by omega
          go_wp2_with fail
          go_roundw
          case rel => exact ⟨k + 1, _, _, by omega, by go_num, rfl, rfl, Lib.hid (by rw [HS.out]; have := HI.out; omega), KR⟩
          case measure => simp [intOf] <;> omega
        · have hm1 : 1 ≤ m := by omega
          go_wp2_with fail
          go_roundw
          case rel => exact ⟨k + 1, _, _, by omega, by go_num, rfl, rfl, Lib.hid (by rw [HS.out]; have := HI.out; omega), KR⟩
          case measure => simp [intOf] <;> omega
      | false =>
        clear hcl
        rcases HC1.out (k + 1) with hc | hc
        · rw [hc, show decide ((0 : Int) = 1) = false from rfl] at hcx
          rw [hc, if_neg (by decide)] at hs
          have HS := Lib.hid hs
          clear hc hs
          obtain ⟨m0, -⟩ := hi.2.1
          have hm1 : ¬ m < 0 := by omega
          go_wp2_with fail
          go_roundw
          case rel => exact ⟨k + 1, _, _, by omega, by go_num, rfl, rfl, Lib.hid (by rw [HS.out]; have := HI.out; omega), KR⟩
          case measure => simp [intOf] <;> omega
        · rw [hc, show decide ((1 : Int) = 1) = true from rfl] at hcx
          rw [hc, if_pos rfl] at hs
          have HS := Lib.hid hs
          have hw1 : IntKind.i64.wrap (r + 1) = r + 1 := wrapI64 (by omega)
          clear hc hs hi
          by_cases hm : m < (r + 1)
          · have hm1 : ¬ (r + 1) ≤ m := by omega
            go_wp2_with fail
            go_roundw
            case rel => exact ⟨k + 1, _, _, by omega, by go_num, rfl, rfl, Lib.hid (by rw [HS.out]; have := HI.out; omega), KR⟩
            case measure => simp [intOf] <;> omega
          · have hm1 : (r + 1) ≤ m := by omega
            go_wp2_with fail
            go_roundw
            case rel => exact ⟨k + 1, _, _, by omega, by go_num, rfl, rfl, Lib.hid (by rw [HS.out]; have := HI.out; omega), KR⟩
            case measure => simp [intOf] <;> omega
    · have i1 : ¬ (k : Int) < (n : Int) := by omega
      obtain rfl : k = n := by omega
      go_wp2_with fail
      go_ret2
      exact ⟨⟨_, rfl, HI.out.2.1.2, ⟨HI.out.2.2, fun h => by have h1 := HI.out.2.1; rw [h] at h1; omega⟩⟩, by first | exact KR.below | (have h := KR.below; rw [hg1] at h; exact h)⟩
end Go.Proofs.YtlhcilmnfmglfaaDoor
