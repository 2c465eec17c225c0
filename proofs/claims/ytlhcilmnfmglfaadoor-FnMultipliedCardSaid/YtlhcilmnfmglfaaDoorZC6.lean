/- Part 6: lemmas and contracts of the claim's functions. -/
import Derived.Test.YtlhcilmnfmglfaaDoorZC1
import Derived.Test.YtlhcilmnfmglfaaDoorZC2
import Derived.Test.YtlhcilmnfmglfaaDoorZC3
import Derived.Test.YtlhcilmnfmglfaaDoorZC4
import Derived.Test.YtlhcilmnfmglfaaDoorZC5
import Derived.Lib.ItoaLen
import Derived.Test.YtlhcilmnfmglfaaDoorShelf
import Derived.Deep.DeepCutAuto
namespace Go.Proofs.YtlhcilmnfmglfaaDoor
open Go.RowKit
/-- the decimal form -/
def dec (n : Int) : List UInt8 := Lib.itoa n
def digs (u : Nat) : List UInt8 := if u = 0 then [] else Lib.decDigits u
theorem digs_step (u : Nat) (h : u ≠ 0) : digs u = digs (u / 10) ++ [UInt8.ofNat (48 + u % 10)] := by
  unfold digs
  rw [if_neg h]
  by_cases h1 : u < 10
  · rw [if_pos (by omega), Lib.decDigits_one h1, Nat.mod_eq_of_lt h1]; rfl
  · rw [if_neg (by omega)]
    conv => lhs; rw [Lib.decDigits, dif_neg h1]
theorem digs_len (n : Int) (h0 : -9223372036854775808 ≤ n) (h1 : n ≤ 9223372036854775807) : (digs n.natAbs).length ≤ 21 := by
  have h := Lib.itoa_length_le n h0 h1
  unfold digs
  split
  · simp
  · by_cases hn : n < 0
    · unfold Lib.itoa at h; rw [if_pos hn] at h; simp at h; omega
    · unfold Lib.itoa at h; rw [if_neg hn] at h
      have : n.natAbs = n.toNat := by omega
      rw [this]; omega
theorem dec_of (n : Int) : dec n = if n = 0 then [48] else if n < 0 then 45 :: digs n.natAbs else digs n.natAbs := by
  unfold dec Lib.itoa digs
  by_cases h0 : n = 0
  · subst h0; rw [if_pos rfl]; simp [Lib.decDigits_one]
  · rw [if_neg h0, if_neg (by omega : ¬ n.natAbs = 0)]
    by_cases hn : n < 0
    · rw [if_pos hn, if_pos hn]
    · rw [if_neg hn, if_neg hn, show n.natAbs = n.toNat by omega]
theorem ofNat_toNat48 (d : Nat) (h : d < 10) : ((UInt8.ofNat (48 + d)).toNat : Int) = 48 + (d : Int) := by
  simp [UInt8.toNat_ofNat]; omega
theorem tmod_neg10 (u : Nat) : (-(u : Int)).tmod 10 = -((u % 10 : Nat) : Int) := by
  rw [Int.neg_tmod]; rfl
theorem tdiv_neg10 (u : Nat) : (-(u : Int)).tdiv 10 = -((u / 10 : Nat) : Int) := by
  rw [Int.neg_tdiv]; rfl
theorem OwnB.lit1 (w : World) (b : UInt8) (base : Nat) (hb : base ≤ w.heap.size) : OwnB (w.alloc (.cells #[byteV b] 5)) base (.slice (some ⟨w.heap.size, 0, none⟩) 1 1) [b] := World.ownsRow_lit w #[byteV b] 1 hb (by decide) rfl
theorem OwnB.cells_at {w : World} {base g c n : Nat} {ds : List UInt8} (h : OwnB w base (.slice (some ⟨g, 0, none⟩) n c) ds) : RB w (some ⟨g, 0, none⟩) ds.length ds ∧ g < w.heap.size := by
  rcases h.2 with ⟨h1, _⟩ | ⟨g', cap, cur, h1, hb, hg, hnc, _, hcs, htake⟩
  · cases h1
  · injection h1 with h1 h2 h3; injection h1 with h1; injection h1 with h1; subst h1
    exact ⟨⟨rfl, fun _ => ⟨_, rfl, (Array.getElem?_eq_some_iff.1 hg).1, fun j u hu => h.cells (g := g) rfl j (byteV u) (by simp [hu])⟩⟩, (Array.getElem?_eq_some_iff.1 hg).1⟩
theorem byteV_one (bs : List UInt8) : ∀ u ∈ bs.map byteV, u.oneCell' = true := by
  intro u hu; obtain ⟨b, -, rfl⟩ := List.mem_map.1 hu; rfl
theorem byte48 (u : Nat) : byteV (UInt8.ofNat (48 + u % 10)) = .int .u8 (48 + (u : Int) % 10) := by
  unfold byteV; rw [ofNat_toNat48 (u % 10) (by omega)]; rfl
theorem ret_str {a b : ByteArray} (h : a = b) : Ending.returned (.string a) = .returned (.string b) := by rw [h]
set_option maxRecDepth 100000 in
set_option maxHeartbeats 800000 in
theorem l01Dec_any (n : Int) (w : World) (h0 : -9223372036854775808 ≤ n) (h1 : n ≤ 9223372036854775807) :
    Calls Tryd.prog 214 #[.int .i64 n] w fun e w' => e = .returned (.string ⟨(dec n).toArray⟩) ∧ Below w.heap.size w w' := by
  have hlen := digs_len n h0 h1
  rcases Int.lt_or_le n 0 with hn | hn
  · obtain ⟨u0, rfl⟩ : ∃ u : Nat, n = -(u : Int) := ⟨n.natAbs, by omega⟩
    have HD := Lib.hid (dec_of (-(u0 : Int)))
    have hu0 : (-(u0 : Int)).natAbs = u0 := by omega
    rw [hu0] at hlen
    have HU := Lib.hid hu0; clear hu0
    go_enter Tryd.func214, Tryd.ntmps214
    go_wp2
    go_loopw [3, 4, 5] (fun v k _ wr => ∃ (u : Nat) (bs : List UInt8) (g c : Nat), u ≤ u0 ∧ k = .int .i64 (-(u : Int)) ∧ v = .slice (some ⟨g, 0, none⟩) bs.length c ∧ OwnB wr w.heap.size (.slice (some ⟨g, 0, none⟩) bs.length c) bs ∧ digs u0 = digs u ++ bs ∧ Below w.heap.size w wr) (fun _ k _ _ => (intOf k).natAbs)
    case atStart => exact ⟨u0, [], w.heap.size, 0, Nat.le_refl _, rfl, rfl, World.ownsRow_lit w #[] 0 (Nat.le_refl _) (by decide) rfl, by simp, (Below.refl _ _).alloc (Nat.le_refl _) _⟩
    case round =>
      obtain ⟨u, bs, g, c, hu, rfl, rfl, hown, hdg, hbr⟩ := hrel
      have hbl : bs.length ≤ 21 := by rw [hdg] at hlen; simp at hlen; omega
      obtain ⟨hrb, hgl⟩ := hown.cells_at
      have HG := Lib.hid hdg; clear hdg
      rcases Nat.eq_zero_or_pos u with hu1 | hu1
      · subst hu1
        have HE : Hid (digs u0 = bs) := HG.out
        have hcv := conv_bytes wr (some ⟨g, 0, none⟩) bs.length c bs hrb
        by_cases hz : bs.length = 0
        · have hzz : ((bs.length : Int) == 0) = true := by simp [hz]
          have HF : Hid (dec (-(u0 : Int)) = [48]) := by
            have h1 := HE.out
            have : u0 = 0 := by
              rcases Nat.eq_zero_or_pos u0 with h | h
              · exact h
              · rw [digs_step u0 (by omega)] at h1; rw [← h1] at hz; simp at hz
            rw [Hid, HD.out, if_pos (by omega)]
          have Hz := Lib.hid hz; clear hz
          go_wp2
          go_ret
          exact ⟨ret_str (by rw [HF.out]), hbr⟩
        · have hzz : ((bs.length : Int) == 0) = false := by rw [beq_eq_false_iff_ne]; omega
          have h0 : u0 ≠ 0 := by rintro rfl; have h1 := HE.out; simp [digs] at h1; exact hz (by rw [h1]; rfl)
          have HF : Hid (dec (-(u0 : Int)) = if (-(u0 : Int)) < 0 then 45 :: bs else bs) := by rw [Hid, HD.out, if_neg (by omega), HU.out, HE.out]
          clear hz
          first
            | (have hnn : (-(u0 : Int)) < 0 := by omega
               go_wp2
               go_ret
               exact ⟨ret_str (by rw [HF.out, if_pos hnn]; rfl), hbr⟩)
            | (have hnn : ¬ (-(u0 : Int)) < 0 := by omega
               go_wp2
               go_ret
               exact ⟨ret_str (by rw [HF.out, if_neg (by omega)]), hbr⟩)
      · have t3 : ((-(u : Int)) != 0) = true := by rw [bne_iff_ne]; omega
        have HN : Hid (digs u0 = digs (u / 10) ++ (UInt8.ofNat (48 + u % 10) :: bs)) := by rw [Hid, HG.out, digs_step u (by omega)]; simp
        clear hrb
        obtain ⟨dd, hdd⟩ : ∃ dd : Int, dd = (u : Int) % 10 := ⟨_, rfl⟩
        have hd0 : 0 ≤ dd := by omega
        have hd1 : dd < 10 := by omega
        have hbv : byteV (UInt8.ofNat (48 + u % 10)) = .int .u8 (48 + dd) := by rw [byte48 u, hdd]
        have hl1 := OwnB.lit1 wr (UInt8.ofNat (48 + u % 10)) w.heap.size hbr.size
        have t1 := tmod_neg10 u
        have t2 := tdiv_neg10 u
        have t4 : ((u : Int)) % 10 = dd := hdd.symm
        have t5 : (((u % 10 : Nat)) : Int) = dd := by omega
        rw [t5] at t1
        clear t5
        have HDD := Lib.hid hdd; clear hdd
        rcases Int.lt_or_eq_of_le hd0 with hpos | hzero
        rotate_right 1
        · subst hzero
          rw [Int.neg_zero] at t1
          have hbv : byteV (UInt8.ofNat (48 + u % 10)) = .int .u8 48 := hbv
          rw [hbv] at hl1
          have hcs := (World.ownsRow.alloc hown (.cells #[.int .u8 48] 5)).cells (g := g) rfl
          clear hbv
          go_wp2_with (at_builtin; refine appG tpB rfl _ _ rfl w.heap.size (.slice (some ⟨wr.heap.size, 0, none⟩) 1 1) 1 ([UInt8.ofNat (48 + u % 10)].map byteV) rfl hl1 ⟨g, 0, none⟩ bs.length c (bs.map byteV) rfl (by simp) hcs (byteV_one bs) (by omega) (by omega) (by have := hbr.size; simp; omega) ?_; intro v1 w1 hown1 hg1 hat1)
          obtain ⟨g', c', hv', hbg', hlt'⟩ := hown1.form (by omega)
          subst hv'
          have hbz : Below w.heap.size w w1 := (hbr.alloc hbr.size _).grown hg1 (Nat.le_trans hbr.size (by simp)) (fun k hk => Nat.le_trans hbr.size (Nat.le_of_eq (by simpa [Value.ownBlock] using hk)))
          have hown2 : OwnB w1 w.heap.size (.slice (some ⟨g', 0, none⟩) (UInt8.ofNat (48 + u % 10) :: bs).length c') (UInt8.ofNat (48 + u % 10) :: bs) := by unfold OwnB; rw [List.length_cons, Nat.add_comm]; exact hown1
          clear hown1 hl1 hcs
          go_roundw
          case rel => exact ⟨u / 10, UInt8.ofNat (48 + u % 10) :: bs, g', c', by omega, by congr 1, by rw [List.length_cons, Nat.add_comm], hown2, HN.out, hbz⟩
          case measure => simp [intOf]; omega
        · skip
          rw [hbv] at hl1
          have hcs := (World.ownsRow.alloc hown (.cells #[.int .u8 (48 + dd)] 5)).cells (g := g) rfl
          clear hbv
          go_wp2_with (at_builtin; refine appG tpB rfl _ _ rfl w.heap.size (.slice (some ⟨wr.heap.size, 0, none⟩) 1 1) 1 ([UInt8.ofNat (48 + u % 10)].map byteV) rfl hl1 ⟨g, 0, none⟩ bs.length c (bs.map byteV) rfl (by simp) hcs (byteV_one bs) (by omega) (by omega) (by have := hbr.size; simp; omega) ?_; intro v1 w1 hown1 hg1 hat1)
          obtain ⟨g', c', hv', hbg', hlt'⟩ := hown1.form (by omega)
          subst hv'
          have hbz : Below w.heap.size w w1 := (hbr.alloc hbr.size _).grown hg1 (Nat.le_trans hbr.size (by simp)) (fun k hk => Nat.le_trans hbr.size (Nat.le_of_eq (by simpa [Value.ownBlock] using hk)))
          have hown2 : OwnB w1 w.heap.size (.slice (some ⟨g', 0, none⟩) (UInt8.ofNat (48 + u % 10) :: bs).length c') (UInt8.ofNat (48 + u % 10) :: bs) := by unfold OwnB; rw [List.length_cons, Nat.add_comm]; exact hown1
          clear hown1 hl1 hcs
          go_roundw
          case rel => exact ⟨u / 10, UInt8.ofNat (48 + u % 10) :: bs, g', c', by omega, by congr 1, by rw [List.length_cons, Nat.add_comm], hown2, HN.out, hbz⟩
          case measure => simp [intOf]; omega
  · obtain ⟨u0, rfl⟩ : ∃ u : Nat, n = (u : Int) := ⟨n.natAbs, by omega⟩
    have HD := Lib.hid (dec_of (u0 : Int))
    have hu0 : ((u0 : Int)).natAbs = u0 := by omega
    rw [hu0] at hlen
    have HU := Lib.hid hu0; clear hu0
    go_enter Tryd.func214, Tryd.ntmps214
    go_wp2
    go_loopw [3, 4, 5] (fun v k _ wr => ∃ (u : Nat) (bs : List UInt8) (g c : Nat), u ≤ u0 ∧ k = .int .i64 ((u : Int)) ∧ v = .slice (some ⟨g, 0, none⟩) bs.length c ∧ OwnB wr w.heap.size (.slice (some ⟨g, 0, none⟩) bs.length c) bs ∧ digs u0 = digs u ++ bs ∧ Below w.heap.size w wr) (fun _ k _ _ => (intOf k).natAbs)
    case atStart => exact ⟨u0, [], w.heap.size, 0, Nat.le_refl _, rfl, rfl, World.ownsRow_lit w #[] 0 (Nat.le_refl _) (by decide) rfl, by simp, (Below.refl _ _).alloc (Nat.le_refl _) _⟩
    case round =>
      obtain ⟨u, bs, g, c, hu, rfl, rfl, hown, hdg, hbr⟩ := hrel
      have hbl : bs.length ≤ 21 := by rw [hdg] at hlen; simp at hlen; omega
      obtain ⟨hrb, hgl⟩ := hown.cells_at
      have HG := Lib.hid hdg; clear hdg
      rcases Nat.eq_zero_or_pos u with hu1 | hu1
      · subst hu1
        have HE : Hid (digs u0 = bs) := HG.out
        have hcv := conv_bytes wr (some ⟨g, 0, none⟩) bs.length c bs hrb
        by_cases hz : bs.length = 0
        · have hzz : ((bs.length : Int) == 0) = true := by simp [hz]
          have HF : Hid (dec ((u0 : Int)) = [48]) := by
            have h1 := HE.out
            have : u0 = 0 := by
              rcases Nat.eq_zero_or_pos u0 with h | h
              · exact h
              · rw [digs_step u0 (by omega)] at h1; rw [← h1] at hz; simp at hz
            rw [Hid, HD.out, if_pos (by omega)]
          have Hz := Lib.hid hz; clear hz
          go_wp2
          go_ret
          exact ⟨ret_str (by rw [HF.out]), hbr⟩
        · have hzz : ((bs.length : Int) == 0) = false := by rw [beq_eq_false_iff_ne]; omega
          have h0 : u0 ≠ 0 := by rintro rfl; have h1 := HE.out; simp [digs] at h1; exact hz (by rw [h1]; rfl)
          have HF : Hid (dec ((u0 : Int)) = if ((u0 : Int)) < 0 then 45 :: bs else bs) := by rw [Hid, HD.out, if_neg (by omega), HU.out, HE.out]
          clear hz
          first
            | (have hnn : ((u0 : Int)) < 0 := by omega
               go_wp2
               go_ret
               exact ⟨ret_str (by rw [HF.out, if_pos hnn]; rfl), hbr⟩)
            | (have hnn : ¬ ((u0 : Int)) < 0 := by omega
               go_wp2
               go_ret
               exact ⟨ret_str (by rw [HF.out, if_neg (by omega)]), hbr⟩)
      · have t3 : (((u : Int)) != 0) = true := by rw [bne_iff_ne]; omega
        have HN : Hid (digs u0 = digs (u / 10) ++ (UInt8.ofNat (48 + u % 10) :: bs)) := by rw [Hid, HG.out, digs_step u (by omega)]; simp
        clear hrb
        obtain ⟨dd, hdd⟩ : ∃ dd : Int, dd = (u : Int) % 10 := ⟨_, rfl⟩
        have hd0 : 0 ≤ dd := by omega
        have hd1 : dd < 10 := by omega
        have hbv : byteV (UInt8.ofNat (48 + u % 10)) = .int .u8 (48 + dd) := by rw [byte48 u, hdd]
        have hl1 := OwnB.lit1 wr (UInt8.ofNat (48 + u % 10)) w.heap.size hbr.size
        have t1 := tmod_neg10 u
        have t2 := tdiv_neg10 u
        have t4 : ((u : Int)) % 10 = dd := hdd.symm
        have t5 : (((u % 10 : Nat)) : Int) = dd := by omega
        rw [t5] at t1
        clear t5
        have HDD := Lib.hid hdd; clear hdd
        rcases Int.lt_or_eq_of_le hd0 with hpos | hzero
        rotate_right 1
        · subst hzero
          skip
          have hbv : byteV (UInt8.ofNat (48 + u % 10)) = .int .u8 48 := hbv
          rw [hbv] at hl1
          have hcs := (World.ownsRow.alloc hown (.cells #[.int .u8 48] 5)).cells (g := g) rfl
          clear hbv
          go_wp2_with (at_builtin; refine appG tpB rfl _ _ rfl w.heap.size (.slice (some ⟨wr.heap.size, 0, none⟩) 1 1) 1 ([UInt8.ofNat (48 + u % 10)].map byteV) rfl hl1 ⟨g, 0, none⟩ bs.length c (bs.map byteV) rfl (by simp) hcs (byteV_one bs) (by omega) (by omega) (by have := hbr.size; simp; omega) ?_; intro v1 w1 hown1 hg1 hat1)
          obtain ⟨g', c', hv', hbg', hlt'⟩ := hown1.form (by omega)
          subst hv'
          have hbz : Below w.heap.size w w1 := (hbr.alloc hbr.size _).grown hg1 (Nat.le_trans hbr.size (by simp)) (fun k hk => Nat.le_trans hbr.size (Nat.le_of_eq (by simpa [Value.ownBlock] using hk)))
          have hown2 : OwnB w1 w.heap.size (.slice (some ⟨g', 0, none⟩) (UInt8.ofNat (48 + u % 10) :: bs).length c') (UInt8.ofNat (48 + u % 10) :: bs) := by unfold OwnB; rw [List.length_cons, Nat.add_comm]; exact hown1
          clear hown1 hl1 hcs
          go_roundw
          case rel => exact ⟨u / 10, UInt8.ofNat (48 + u % 10) :: bs, g', c', by omega, by congr 1, by rw [List.length_cons, Nat.add_comm], hown2, HN.out, hbz⟩
          case measure => simp [intOf]; omega
        · skip
          rw [hbv] at hl1
          have hcs := (World.ownsRow.alloc hown (.cells #[.int .u8 (48 + dd)] 5)).cells (g := g) rfl
          clear hbv
          go_wp2_with (at_builtin; refine appG tpB rfl _ _ rfl w.heap.size (.slice (some ⟨wr.heap.size, 0, none⟩) 1 1) 1 ([UInt8.ofNat (48 + u % 10)].map byteV) rfl hl1 ⟨g, 0, none⟩ bs.length c (bs.map byteV) rfl (by simp) hcs (byteV_one bs) (by omega) (by omega) (by have := hbr.size; simp; omega) ?_; intro v1 w1 hown1 hg1 hat1)
          obtain ⟨g', c', hv', hbg', hlt'⟩ := hown1.form (by omega)
          subst hv'
          have hbz : Below w.heap.size w w1 := (hbr.alloc hbr.size _).grown hg1 (Nat.le_trans hbr.size (by simp)) (fun k hk => Nat.le_trans hbr.size (Nat.le_of_eq (by simpa [Value.ownBlock] using hk)))
          have hown2 : OwnB w1 w.heap.size (.slice (some ⟨g', 0, none⟩) (UInt8.ofNat (48 + u % 10) :: bs).length c') (UInt8.ofNat (48 + u % 10) :: bs) := by unfold OwnB; rw [List.length_cons, Nat.add_comm]; exact hown1
          clear hown1 hl1 hcs
          go_roundw
          case rel => exact ⟨u / 10, UInt8.ofNat (48 + u % 10) :: bs, g', c', by omega, by congr 1, by rw [List.length_cons, Nat.add_comm], hown2, HN.out, hbz⟩
          case measure => simp [intOf]; omega
end Go.Proofs.YtlhcilmnfmglfaaDoor

namespace Go.Proofs.YtlhcilmnfmglfaaDoor
open Go.RowKit Go.Sort
/-- strconv's table stands in memory -/
def TB (w : World) : Prop := Lib.TabIs Tryd.prog w "internal/strconv.uint64pow10" .u64 Lib.pow10Tab
theorem TB.below {w w' : World} (h : TB w) (hb : Below w.heap.size w w') : TB w' := by
  unfold TB Lib.TabIs World.var? at *
  cases hg : Tryd.prog.globalNamed "internal/strconv.uint64pow10" with
  | none => rw [hg] at h; cases h
  | some g =>
    rw [hg] at h
    simp only [Option.bind_some] at h ⊢
    have hl : g < w.heap.size := by
      rcases Nat.lt_or_ge g w.heap.size with h1 | h1
      · exact h1
      · rw [Array.getElem?_eq_none h1] at h; cases h
    rw [hb.block g hl]; exact h
theorem cat_bytes (a b : List UInt8) : (⟨a.toArray⟩ : ByteArray) ++ (⟨b.toArray⟩ : ByteArray) = ⟨(a ++ b).toArray⟩ := by
  apply ByteArray.ext; simp
theorem dec_len (n : Int) (h0 : -9223372036854775808 ≤ n) (h1 : n ≤ 9223372036854775807) : (dec n).length ≤ 21 := Lib.itoa_length_le n h0 h1
theorem Decimal_any (n : Int) (w : World) (h0 : -9223372036854775808 ≤ n) (h1 : n ≤ 9223372036854775807) (ht : TB w) :
    Calls Tryd.prog 83 #[.int .i64 n] w fun e w' => e = .returned (.string ⟨(dec n).toArray⟩) ∧ Below w.heap.size w w' := by
  go_enter Tryd.func83, Tryd.ntmps83
  go_wp2_with (go_at_call 147; refine (Tryd.strconv_FormatInt_10 n h0 h1 _ ht).mono ?_; rintro e w' ⟨rfl, k, os, rfl⟩)
  go_ret
  exact ⟨rfl, by rw [show grow (w.drewN k) os = grow (redrawn w (w.drawn + k)) os from rfl]; exact below_regrown w _ _⟩
/-- the character of a digit -/
def dch (d : Int) : UInt8 := if d < 10 then UInt8.ofNat (48 + d.toNat) else UInt8.ofNat (87 + d.toNat)
def rtextL (b : Int) (ds : List Int) : List UInt8 := dec b ++ [58] ++ (ds.reverse.map dch)
def rtS (b : Int) (ds : List Int) : ByteArray := ⟨(rtextL b ds).toArray⟩
theorem rtS_nil (b : Int) : rtS b [] = (⟨(dec b).toArray⟩ : ByteArray) ++ (⟨#[58]⟩ : ByteArray) := by
  rw [show (#[58] : Array UInt8) = [58].toArray from rfl, cat_bytes]; simp [rtS, rtextL]
theorem rtS_step (b : Int) (ds : List Int) (k : Nat) (h : k < ds.length) : rtS b (ds.drop k) = rtS b (ds.drop (k + 1)) ++ (⟨[dch ds[k]].toArray⟩ : ByteArray) := by
  unfold rtS; rw [cat_bytes, List.drop_eq_getElem_cons h]; unfold rtextL; rw [List.reverse_cons, List.map_append, List.append_assoc (dec b ++ [58])]; rfl
theorem rtS_len (b : Int) (ds : List Int) : (rtS b ds).size = (dec b).length + 1 + ds.length := by
  unfold rtS rtextL; simp [ByteArray.size]; omega
theorem piece (d : Int) (h0 : 0 ≤ d) (h1 : d < 16) : (⟨#[48, 49, 50, 51, 52, 53, 54, 55, 56, 57, 97, 98, 99, 100, 101, 102]⟩ : ByteArray).extract d.toNat (d + 1).toNat = ⟨[dch d].toArray⟩ := by
  obtain ⟨m, rfl⟩ : ∃ m : Nat, d = (m : Int) := ⟨d.toNat, by omega⟩
  have hm : m < 16 := by omega
  have : ∀ m : Fin 16, (⟨#[48, 49, 50, 51, 52, 53, 54, 55, 56, 57, 97, 98, 99, 100, 101, 102]⟩ : ByteArray).extract ((m.val : Int)).toNat ((m.val : Int) + 1).toNat = ⟨[dch m.val].toArray⟩ := by decide
  exact this ⟨m, hm⟩
def rtext (r : Reg) : List UInt8 := if r.ok then rtextL r.base r.digits else []
set_option maxHeartbeats 800000 in
theorem RegisterText_any (b : Int) (A : Option Addr) (n c : Nat) (ds : List Int) (w : World) (hr : RI w A n ds) (hm : n ≤ 9223372036854775807) (ht : TB w) :
    Calls Tryd.prog 95 #[.agg #[.int .i64 b, .slice A n c]] w fun e w' => e = .returned (.string ⟨(rtext ⟨b, ds⟩).toArray⟩) ∧ Below w.heap.size w w' := by
  have HL := Lib.hid hr.1
  have hb0 : Below w.heap.size w (w.alloc (.cells #[.int .i64 b, .slice A n c] 33)) := (Below.refl _ _).alloc (Nat.le_refl _) _
  rcases hv : vreg b ds with _ | _
  · have HF : Hid (rtext ⟨b, ds⟩ = []) := by simp [Hid, rtext, Reg.ok, hv]
    go_enter Tryd.func95, Tryd.ntmps95
    go_wp2_with (go_at_call 104; refine (ValidRegister_any b A n c ds _ (hr.below hb0) (by omega)).mono ?_; rintro e w1 ⟨rfl, hw1⟩; rw [hv])
    go_ret
    exact ⟨ret_str (by rw [HF.out]), hb0.trans (hw1.mono (by simp))⟩
  · have HF : Hid (rtext ⟨b, ds⟩ = rtextL b ds) := by simp [Hid, rtext, Reg.ok, hv]
    obtain ⟨⟨hb1, hb2⟩, ⟨hl1, hl2⟩, hd, -⟩ := vreg_iff.1 hv
    go_enter Tryd.func95, Tryd.ntmps95
    go_wp2_with fail
    refine (ValidRegister_any b A n c ds _ (hr.below hb0) (by omega)).mono ?_; rintro e w1 ⟨rfl, hw1⟩; rw [hv]
    obtain ⟨hc1, -⟩ := bcellB (B := w.heap.size + 1) (hw1.mono (by simp))
    go_wp2_with fail
    refine (Decimal_any b _ (by omega) (by omega) ((ht.below hb0).below hw1)).mono ?_
    rintro e w2 ⟨rfl, hw2⟩
    have hW2 : Below (w.heap.size + 1) (w.alloc (.cells #[.int .i64 b, .slice A n c] 33)) w2 := (hw1.mono (by simp)).trans (hw2.mono (by have := hw1.size; simpa using this))
    obtain ⟨hc2, -⟩ := bcellB hW2
    clear hc1
    have hdl := dec_len b (by omega) (by omega)
    go_wp2_with fail
    go_loopw [3, 4] (fun v i wr => ∃ k : Nat, k ≤ n ∧ i = .int .i64 ((k : Int) - 1) ∧ v = .string (rtS b (ds.drop k)) ∧ Below (w.heap.size + 1) (w.alloc (.cells #[.int .i64 b, .slice A n c] 33)) wr) (fun _ i _ => (intOf i + 1).toNat)
    case atStart => exact ⟨n, Nat.le_refl _, rfl, by rw [List.drop_of_length_le (by have := HL.out; omega), rtS_nil], hW2⟩
    case round =>
      obtain ⟨k, hk, rfl, rfl, hbl⟩ := hrel
      clear hc2
      rcases Nat.eq_zero_or_pos k with hk0 | hk0
      · subst hk0
        go_wp2
        go_ret
        exact ⟨ret_str (by rw [HF.out]; rfl), hb0.trans (hbl.mono (by omega))⟩
      · obtain ⟨ad, hA, hlt, hkl, hc⟩ := hr.at_ (show k - 1 < n by omega)
        rw [← World.cell?_alloc_lt w (.cells #[.int .i64 b, .slice A n c] 33) (ad.add (k - 1)) (by rw [block_of_add]; omega), ← hbl.cell (by rw [block_of_add]; omega)] at hc
        have hb0' : wr.cell? ⟨w.heap.size, 0, none⟩ = some (.int .i64 b) := by rw [hbl.cell (by simp)]; go_simp
        have hb1' : wr.cell? ⟨w.heap.size, 1, none⟩ = some (.slice A n c) := by rw [hbl.cell (by simp)]; go_simp
        obtain ⟨hd0, hd1⟩ := hd ds[k-1] (List.getElem_mem _)
        have hll : (rtS b (ds.drop k)).size ≤ 40 := by rw [rtS_len]; simp; omega
        have HS : Hid (rtS b (ds.drop (k - 1)) = rtS b (ds.drop k) ++ (⟨[dch ds[k-1]].toArray⟩ : ByteArray)) := by
          have := rtS_step b ds (k - 1) hkl; rwa [show k - 1 + 1 = k by omega] at this
        subst hA
        go_wp2
        go_quiet (fail)
        go_wp2
        go_roundw
        case rel => exact ⟨k - 1, by omega, by congr 1; omega, by rw [HS.out, piece _ hd0 (by omega)], hbl.trans (below_drewN (Below.refl _ _) _)⟩
        case measure => simp [intOf]; omega
set_option maxHeartbeats 800000 in
theorem l02Text_any (p : Addr) (r : Reg) (w : World) (hp : RegM w p r) (hv : r.ok = true) (hpb : p.block < w.heap.size) :
    Calls Tryd.prog 218 #[.pointer (some p)] w fun e w' => e = .returned (.string ⟨(rtext r).toArray⟩) ∧ Below w.heap.size w w' := by
  obtain ⟨b, ds⟩ := r
  obtain ⟨A, c, ⟨hc0, hc1⟩, hr⟩ := hp
  simp only at hc0 hc1 hr
  have HF : Hid (rtext ⟨b, ds⟩ = rtextL b ds) := by simp [Hid, rtext, hv]
  obtain ⟨⟨hb1, hb2⟩, ⟨hl1, hl2⟩, hd, -⟩ := vreg_iff.1 hv
  obtain ⟨n, hn⟩ : ∃ n, n = ds.length := ⟨_, rfl⟩
  rw [← hn] at hc1 hr
  have HL := Lib.hid hn
  rw [← hn] at hl1 hl2
  clear hn
  go_enter Tryd.func218, Tryd.ntmps218
  go_wp2_with fail
  refine (l01Dec_any b _ (by omega) (by omega)).mono ?_
  rintro e w2 ⟨rfl, hw2⟩
  have hdl := dec_len b (by omega) (by omega)
  have hc0' : w2.cell? p = some (.int .i64 b) := by rw [hw2.cell hpb]; exact hc0
  have hc1' : w2.cell? ⟨p.block, p.off + 1, none⟩ = some (.slice A n c) := by rw [hw2.cell (by exact hpb)]; exact hc1
  go_wp2_with fail
  go_loopw [4, 5] (fun v i wr => ∃ k : Nat, k ≤ n ∧ i = .int .i64 ((k : Int) - 1) ∧ v = .string (rtS b (ds.drop k)) ∧ Below w.heap.size w wr) (fun _ i _ => (intOf i + 1).toNat)
  case atStart => exact ⟨n, Nat.le_refl _, rfl, by rw [List.drop_of_length_le (by have := HL.out; omega), rtS_nil], hw2⟩
  case round =>
    obtain ⟨k, hk, rfl, rfl, hbl⟩ := hrel
    clear hc0' hc1'
    rcases Nat.eq_zero_or_pos k with hk0 | hk0
    · subst hk0
      go_wp2
      go_ret
      exact ⟨ret_str (by rw [HF.out]; rfl), hbl⟩
    · obtain ⟨ad, hA, hlt, hkl, hc⟩ := hr.at_ (show k - 1 < n by omega)
      rw [← hbl.cell (by rw [block_of_add]; omega)] at hc
      have hc0' : wr.cell? p = some (.int .i64 b) := by rw [hbl.cell hpb]; exact hc0
      have hc1' : wr.cell? ⟨p.block, p.off + 1, none⟩ = some (.slice A n c) := by rw [hbl.cell (by exact hpb)]; exact hc1
      obtain ⟨hd0, hd1⟩ := hd ds[k-1] (List.getElem_mem _)
      have hll : (rtS b (ds.drop k)).size ≤ 40 := by rw [rtS_len]; have := HL.out; simp; omega
      have HS : Hid (rtS b (ds.drop (k - 1)) = rtS b (ds.drop k) ++ (⟨[dch ds[k-1]].toArray⟩ : ByteArray)) := by
        have := rtS_step b ds (k - 1) hkl; rwa [show k - 1 + 1 = k by omega] at this
      subst hA
      go_wp2
      go_quiet (fail)
      go_wp2
      go_roundw
      case rel => exact ⟨k - 1, by omega, by congr 1; omega, by rw [HS.out, piece _ hd0 (by omega)], hbl.trans (below_drewN (Below.refl _ _) _)⟩
      case measure => simp [intOf]; omega
end Go.Proofs.YtlhcilmnfmglfaaDoor

namespace Go.Proofs.YtlhcilmnfmglfaaDoor
open Go.RowKit Go.Sort
def isD (b : UInt8) : Bool := decide (48 ≤ b.toNat ∧ b.toNat ≤ 57)
def foldD (l : List UInt8) : Nat := l.foldl (fun a b => 10 * a + (b.toNat - 48)) 0
def signOff : List UInt8 → List UInt8
  | [] => []
  | b :: tl => if b.toNat = 45 then tl else b :: tl
/-- the number that decimal digits say -/
def numOf (bs : List UInt8) : Int := if (signOff bs).length < bs.length then -(foldD (signOff bs) : Int) else (foldD (signOff bs) : Int)
def rdDec (bs : List UInt8) : Option Int := if decide (1 ≤ (signOff bs).length ∧ (signOff bs).length ≤ 18) && (signOff bs).all isD && decide (dec (numOf bs) = bs) then some (numOf bs) else none
theorem foldD_snoc (l : List UInt8) (b : UInt8) : foldD (l ++ [b]) = 10 * foldD l + (b.toNat - 48) := by simp [foldD]
theorem foldD_acc (l : List UInt8) (h : l.all isD = true) : ∀ acc : Nat, l.foldl (fun a b => 10 * a + (b.toNat - 48)) acc < (acc + 1) * 10 ^ l.length := by
  induction l with
  | nil => intro acc; simp
  | cons b l ih =>
    intro acc
    rw [List.all_cons, Bool.and_eq_true] at h
    have h3 := of_decide_eq_true (show decide (48 ≤ b.toNat ∧ b.toNat ≤ 57) = true from h.1)
    have h1 := ih h.2 (10 * acc + (b.toNat - 48))
    rw [List.foldl_cons, List.length_cons, Nat.pow_succ]
    have h4 : (10 * acc + (b.toNat - 48) + 1) * 10 ^ l.length ≤ (10 * (acc + 1)) * 10 ^ l.length := Nat.mul_le_mul_right _ (by omega)
    have h5 : 10 * (acc + 1) * 10 ^ l.length = (acc + 1) * (10 ^ l.length * 10) := by rw [Nat.mul_comm 10 (acc + 1), Nat.mul_assoc, Nat.mul_comm 10]
    omega
theorem foldD_bd (l : List UInt8) (h : l.all isD = true) : foldD l < 10 ^ l.length := by
  have := foldD_acc l h 0
  simpa [foldD] using this
theorem all_take {l : List UInt8} {k : Nat} (h : k < l.length) : (l.take (k + 1)).all isD = ((l.take k).all isD && isD l[k]) := by
  rw [List.take_succ_eq_append_getElem h, List.all_append]; simp
theorem isDigit_any (z : Nat) (b : UInt8) (hb : b.toNat = z) (w : World) : Calls Tryd.prog 220 #[.int .u8 (z : Int)] w fun e w' => e = .returned (.bool (isD b)) ∧ w = w' := by
  by_cases h1 : 48 ≤ z
  · by_cases h2 : z ≤ 57
    · have i1 : (48 : Int) ≤ (z : Int) := by omega
      have i2 : (z : Int) ≤ 57 := by omega
      have HD : Hid (isD b = true) := by simp only [Hid, isD, hb]; exact decide_eq_true ⟨h1, h2⟩
      go_enter Tryd.func220, Tryd.ntmps220
      go_wp2_with fail
      go_ret
      exact ⟨ret_bool HD.out.symm, rfl⟩
    · have i1 : (48 : Int) ≤ (z : Int) := by omega
      have i2 : ¬ (z : Int) ≤ 57 := by omega
      have HD : Hid (isD b = false) := by simp only [Hid, isD, hb]; exact decide_eq_false (by omega)
      go_enter Tryd.func220, Tryd.ntmps220
      go_wp2_with fail
      go_ret
      exact ⟨ret_bool HD.out.symm, rfl⟩
  · have i1 : ¬ (48 : Int) ≤ (z : Int) := by omega
    have HD : Hid (isD b = false) := by simp only [Hid, isD, hb]; exact decide_eq_false (by omega)
    go_enter Tryd.func220, Tryd.ntmps220
    go_wp2_with fail
    go_ret
    exact ⟨ret_bool HD.out.symm, rfl⟩
theorem l01Digit_any (z : Nat) (b : UInt8) (hb : b.toNat = z) (w : World) : Calls Tryd.prog 213 #[.int .u8 (z : Int)] w fun e w' => e = .returned (.bool (isD b)) ∧ w = w' := by
  by_cases h1 : 48 ≤ z
  · by_cases h2 : z ≤ 57
    · have i1 : (48 : Int) ≤ (z : Int) := by omega
      have i2 : (z : Int) ≤ 57 := by omega
      have HD : Hid (isD b = true) := by simp only [Hid, isD, hb]; exact decide_eq_true ⟨h1, h2⟩
      go_enter Tryd.func213, Tryd.ntmps213
      go_wp2_with fail
      go_ret
      exact ⟨ret_bool HD.out.symm, rfl⟩
    · have i1 : (48 : Int) ≤ (z : Int) := by omega
      have i2 : ¬ (z : Int) ≤ 57 := by omega
      have HD : Hid (isD b = false) := by simp only [Hid, isD, hb]; exact decide_eq_false (by omega)
      go_enter Tryd.func213, Tryd.ntmps213
      go_wp2_with fail
      go_ret
      exact ⟨ret_bool HD.out.symm, rfl⟩
  · have i1 : ¬ (48 : Int) ≤ (z : Int) := by omega
    have HD : Hid (isD b = false) := by simp only [Hid, isD, hb]; exact decide_eq_false (by omega)
    go_enter Tryd.func213, Tryd.ntmps213
    go_wp2_with fail
    go_ret
    exact ⟨ret_bool HD.out.symm, rfl⟩
theorem rdDec_len {bs : List UInt8} (h : ¬ (1 ≤ (signOff bs).length ∧ (signOff bs).length ≤ 18)) : rdDec bs = none := by
  unfold rdDec; rw [decide_eq_false h]; rfl
theorem rdDec_all {bs : List UInt8} (h : (signOff bs).all isD = false) : rdDec bs = none := by
  unfold rdDec; rw [h]; simp
def rdN (bs : List UInt8) : Int := (rdDec bs).getD 0
theorem rd_none {bs : List UInt8} (h : rdDec bs = none) : rdN bs = 0 ∧ (rdDec bs).isSome = false := by simp [rdN, h]
theorem rd_some {bs : List UInt8} {n : Int} (h : rdDec bs = some n) : rdN bs = n ∧ (rdDec bs).isSome = true := by simp [rdN, h]
set_option maxRecDepth 100000 in
set_option maxHeartbeats 1600000 in
theorem l01Number_any (s : ByteArray) (w : World) (hs : s.size ≤ 9223372036854775807) :
    Calls Tryd.prog 198 #[.string s] w fun e w' => e = .returned (.tuple #[.int .i64 (rdN (strB s)), .bool (rdDec (strB s)).isSome]) ∧ Below w.heap.size w w' := by
  by_cases h0 : 0 < s.size
  · have hE := str_nonempty h0
    have hc := strB_cons h0
    obtain ⟨b, hb⟩ : ∃ b, s[0] = b := ⟨_, rfl⟩
    rw [hb] at hc
    obtain ⟨z0, hz0⟩ : ∃ z : Nat, b.toNat = z := ⟨_, rfl⟩
    have i0 : (0 : Int) < (s.size : Int) := by omega
    by_cases h45 : z0 = 45
    · have i2 : ((z0 : Int) == 45) = true := by rw [beq_iff_eq]; omega
      obtain ⟨x, hx⟩ : ∃ x, s.extract 1 s.size = x := ⟨_, rfl⟩
      have HXB : Hid (strB x = signOff (strB s)) := by
        simp only [Hid]; rw [← hx, strB_tail, hc]; simp only [signOff]; rw [hz0, if_pos h45]; rfl
      have hxs : x.size = s.size - 1 := by rw [← hx, extract_size]
      have HC := Lib.hid hc
      have i1 : (1 : Int) ≤ (s.size : Int) := by omega
      have i5 : (x.size : Int) < (s.size : Int) := by omega
      by_cases hx0 : 0 < x.size
      · have j0 : ((x.size : Int) == 0) = false := by rw [beq_eq_false_iff_ne]; omega
        have j1 : ¬ (x.size : Int) < 1 := by omega
        have HX := Lib.hid hx
        clear hc hxs
        go_enter Tryd.func198, Tryd.ntmps198
        have HXL := Lib.hid (show (strB x).length = x.size from strB_len x)
        by_cases h18 : x.size ≤ 18
        · go_wp2_with fail
          go_loopw [5, 6] (fun nn ii wr => ∃ k : Nat, k ≤ x.size ∧ ii = .int .i64 k ∧ nn = .int .i64 (foldD ((strB x).take k) : Int) ∧ ((strB x).take k).all isD = true ∧ w = wr) (fun _ i _ => x.size - (intOf i).toNat)
          case atStart => exact ⟨0, Nat.zero_le _, rfl, rfl, rfl, rfl⟩
          case round =>
            obtain ⟨k, hk, rfl, rfl, hall, rfl⟩ := hrel
            have hbd := foldD_bd _ hall
            rw [List.length_take] at hbd
            have hp : 10 ^ (min k (strB x).length) ≤ 10 ^ 18 := Nat.pow_le_pow_right (by omega) (by have := HXL.out; omega)
            have HA := Lib.hid hall
            obtain ⟨N, hN⟩ : ∃ N, foldD ((strB x).take k) = N := ⟨_, rfl⟩
            have HN := Lib.hid hN
            have hN2 : N < 1000000000000000000 := by rw [← hN]; exact Nat.lt_of_lt_of_le hbd (Nat.le_trans hp (by decide))
            have HB := Lib.hid (show N < 10 ^ (min k (strB x).length) by rw [← hN]; exact hbd)
            rw [hN]
            clear hall hbd hp hN
            by_cases hkn : k < x.size
            · obtain ⟨q, hq⟩ : ∃ q : UInt8, x[k] = q := ⟨_, rfl⟩
              obtain ⟨z, hz⟩ : ∃ z : Nat, q.toNat = z := ⟨_, rfl⟩
              have hz2 : z < 256 := by rw [← hz]; exact q.toNat_lt
              have hkl : k < (strB x).length := by rw [HXL.out]; exact hkn
              have hg : (strB x)[k] = q := by rw [← hq, strB_get x hkn]
              have HT := Lib.hid (all_take hkl)
              have HF := Lib.hid (List.take_succ_eq_append_getElem hkl)
              have HNOT := Lib.hid (fun (h1 : isD (strB x)[k] = false) => all_not (p := isD) hkl h1)
              rw [hg] at HT HF HNOT
              have i0 : (0 : Int) ≤ (k : Int) := by omega
              have i1 : (k : Int) < (x.size : Int) := by omega
              have HZ := Lib.hid hz
              have hN3 : N < 100000000000000000 := Nat.lt_of_lt_of_le HB.out (Nat.le_trans (Nat.pow_le_pow_right (n := 10) (by omega) (show min k (strB x).length ≤ 17 by omega)) (by decide))
              rcases hd : isD q with _ | _
              · have HU := Lib.hid (rd_none (bs := strB s) (rdDec_all (by rw [← HXB.out]; exact HNOT.out hd)))
                have KD := Lib.hid (fun W => calls_val (l01Digit_any z q hz W) (congrArg Value.bool hd))
                clear hd hg
                go_wp2_with (go_at_call 213; refine (KD.out _).mono ?_; rintro e w' ⟨rfl, rfl⟩)
                go_ret2
                exact ⟨by rw [HU.out.1, HU.out.2] <;> rfl, Below.refl _ _⟩
              · have KD := Lib.hid (fun W => calls_val (l01Digit_any z q hz W) (congrArg Value.bool hd))
                have hz3 := of_decide_eq_true (show decide (48 ≤ q.toNat ∧ q.toNat ≤ 57) = true from hd)
                rw [hz] at hz3
                have y1 : IntKind.u8.wrap ((z : Int) - 48) = (z : Int) - 48 := wrapB (by omega)
                have y2 : wrap64 (10 * (N : Int)) = 10 * (N : Int) := wrap64_of (by omega)
                have y3 : wrap64 (10 * (N : Int) + ((z : Int) - 48)) = 10 * (N : Int) + ((z : Int) - 48) := wrap64_of (by omega)
                have HD := Lib.hid hd
                clear hd hg
                go_wp2_with (go_at_call 213; refine (KD.out _).mono ?_; rintro e w' ⟨rfl, rfl⟩)
                go_roundw
                case rel => exact ⟨k + 1, by omega, by go_num, by rw [HF.out, foldD_snoc, HN.out, HZ.out]; congr 1; omega, by rw [HT.out, HA.out, HD.out]; rfl, by first | rfl | trivial⟩
                case measure => simp [intOf]; omega
            · have HK : Hid ((strB x).take k = strB x) := List.take_of_length_le (by have := HXL.out; omega)
              have HFN : Hid (foldD (signOff (strB s)) = N) := by simp only [Hid]; rw [← HXB.out, ← HK.out]; exact HN.out
              have HAL : Hid ((signOff (strB s)).all isD = true) := by simp only [Hid]; rw [← HXB.out, ← HK.out]; exact HA.out
              have HLE : Hid (1 ≤ (signOff (strB s)).length ∧ (signOff (strB s)).length ≤ 18) := by simp only [Hid]; rw [← HXB.out, HXL.out]; omega
              have HSL := Lib.hid (strB_len s)
              obtain ⟨v, hv⟩ : ∃ v, v = -(N : Int) := ⟨_, rfl⟩; have hvb : -9223372036854775808 ≤ v ∧ v ≤ 9223372036854775807 := (by omega); have HNU : Hid (numOf (strB s) = v) := (by simp only [Hid, numOf]; rw [HFN.out, hv, if_pos (by rw [← HXB.out, HXL.out, HSL.out]; omega)]); rw [show (0 : Int) = 0 from rfl]; have hv' := hv.symm; clear hv
              have HRD : Hid (rdDec (strB s) = if decide (dec v = strB s) then some v else none) := by
                simp only [Hid, rdDec]; rw [HAL.out, decide_eq_true HLE.out, HNU.out]; simp
              have i9 : ¬ (k : Int) < (x.size : Int) := by omega
              rcases hq : (dec v == s.toList) with _ | _
              · have HU := Lib.hid (rd_none (bs := strB s) (by rw [HRD.out]; rw [strB_toList, beq_eq_false_iff_ne] at hq; simp [hq]))
                go_wp2_with fail
                refine (l01Dec_any v w hvb.1 hvb.2).mono ?_; rintro e w' ⟨rfl, hwd⟩
                go_wp2_with fail
                go_ret2
                exact ⟨by rw [HU.out.1, HU.out.2] <;> rfl, hwd⟩
              · have HU := Lib.hid (rd_some (bs := strB s) (n := v) (by rw [HRD.out]; rw [strB_toList, beq_iff_eq] at hq; simp [hq]))
                go_wp2_with fail
                refine (l01Dec_any v w hvb.1 hvb.2).mono ?_; rintro e w' ⟨rfl, hwd⟩
                go_wp2_with fail
                go_ret2
                exact ⟨by rw [HU.out.1, HU.out.2] <;> rfl, hwd⟩
        · have HU := Lib.hid (rd_none (bs := strB s) (rdDec_len (by rw [← HXB.out, HXL.out]; omega)))
          have i3 : (18 : Int) < (x.size : Int) := by omega
          go_wp2_with fail
          go_ret2
          exact ⟨by rw [HU.out.1, HU.out.2] <;> rfl, Below.refl _ _⟩
      · have HU := Lib.hid (rd_none (bs := strB s) (rdDec_len (by rw [← HXB.out, strB_len]; omega)))
        have hxz := size_zero (show x.size = 0 by omega)
        subst hxz
        clear hc
        go_enter Tryd.func198, Tryd.ntmps198
        go_wp2_with fail
        go_ret2
        exact ⟨by rw [HU.out.1, HU.out.2] <;> rfl, Below.refl _ _⟩
    · have i2 : ((z0 : Int) == 45) = false := by rw [beq_eq_false_iff_ne]; omega
      have HXB : Hid (strB s = signOff (strB s)) := by
        simp only [Hid]; rw [hc]; simp only [signOff]; rw [hz0, if_neg h45]
      have j0 : ((s.size : Int) == 0) = false := by rw [beq_eq_false_iff_ne]; omega
      have j1 : ¬ (s.size : Int) < 1 := by omega
      have i5 : ¬ (s.size : Int) < (s.size : Int) := by omega
      clear hc
      go_enter Tryd.func198, Tryd.ntmps198
      have HXL := Lib.hid (show (strB s).length = s.size from strB_len s)
      by_cases h18 : s.size ≤ 18
      · go_wp2_with fail
        go_loopw [5, 6] (fun nn ii wr => ∃ k : Nat, k ≤ s.size ∧ ii = .int .i64 k ∧ nn = .int .i64 (foldD ((strB s).take k) : Int) ∧ ((strB s).take k).all isD = true ∧ w = wr) (fun _ i _ => s.size - (intOf i).toNat)
        case atStart => exact ⟨0, Nat.zero_le _, rfl, rfl, rfl, rfl⟩
        case round =>
          obtain ⟨k, hk, rfl, rfl, hall, rfl⟩ := hrel
          have hbd := foldD_bd _ hall
          rw [List.length_take] at hbd
          have hp : 10 ^ (min k (strB s).length) ≤ 10 ^ 18 := Nat.pow_le_pow_right (by omega) (by have := HXL.out; omega)
          have HA := Lib.hid hall
          obtain ⟨N, hN⟩ : ∃ N, foldD ((strB s).take k) = N := ⟨_, rfl⟩
          have HN := Lib.hid hN
          have hN2 : N < 1000000000000000000 := by rw [← hN]; exact Nat.lt_of_lt_of_le hbd (Nat.le_trans hp (by decide))
          have HB := Lib.hid (show N < 10 ^ (min k (strB s).length) by rw [← hN]; exact hbd)
          rw [hN]
          clear hall hbd hp hN
          by_cases hkn : k < s.size
          · obtain ⟨q, hq⟩ : ∃ q : UInt8, s[k] = q := ⟨_, rfl⟩
            obtain ⟨z, hz⟩ : ∃ z : Nat, q.toNat = z := ⟨_, rfl⟩
            have hz2 : z < 256 := by rw [← hz]; exact q.toNat_lt
            have hkl : k < (strB s).length := by rw [HXL.out]; exact hkn
            have hg : (strB s)[k] = q := by rw [← hq, strB_get s hkn]
            have HT := Lib.hid (all_take hkl)
            have HF := Lib.hid (List.take_succ_eq_append_getElem hkl)
            have HNOT := Lib.hid (fun (h1 : isD (strB s)[k] = false) => all_not (p := isD) hkl h1)
            rw [hg] at HT HF HNOT
            have i0 : (0 : Int) ≤ (k : Int) := by omega
            have i1 : (k : Int) < (s.size : Int) := by omega
            have HZ := Lib.hid hz
            have hN3 : N < 100000000000000000 := Nat.lt_of_lt_of_le HB.out (Nat.le_trans (Nat.pow_le_pow_right (n := 10) (by omega) (show min k (strB s).length ≤ 17 by omega)) (by decide))
            rcases hd : isD q with _ | _
            · have HU := Lib.hid (rd_none (bs := strB s) (rdDec_all (by rw [← HXB.out]; exact HNOT.out hd)))
              have KD := Lib.hid (fun W => calls_val (l01Digit_any z q hz W) (congrArg Value.bool hd))
              clear hd hg
              go_wp2_with (go_at_call 213; refine (KD.out _).mono ?_; rintro e w' ⟨rfl, rfl⟩)
              go_ret2
              exact ⟨by rw [HU.out.1, HU.out.2] <;> rfl, Below.refl _ _⟩
            · have KD := Lib.hid (fun W => calls_val (l01Digit_any z q hz W) (congrArg Value.bool hd))
              have hz3 := of_decide_eq_true (show decide (48 ≤ q.toNat ∧ q.toNat ≤ 57) = true from hd)
              rw [hz] at hz3
              have y1 : IntKind.u8.wrap ((z : Int) - 48) = (z : Int) - 48 := wrapB (by omega)
              have y2 : wrap64 (10 * (N : Int)) = 10 * (N : Int) := wrap64_of (by omega)
              have y3 : wrap64 (10 * (N : Int) + ((z : Int) - 48)) = 10 * (N : Int) + ((z : Int) - 48) := wrap64_of (by omega)
              have HD := Lib.hid hd
              clear hd hg
              go_wp2_with (go_at_call 213; refine (KD.out _).mono ?_; rintro e w' ⟨rfl, rfl⟩)
              go_roundw
              case rel => exact ⟨k + 1, by omega, by go_num, by rw [HF.out, foldD_snoc, HN.out, HZ.out]; congr 1; omega, by rw [HT.out, HA.out, HD.out]; rfl, by first | rfl | trivial⟩
              case measure => simp [intOf]; omega
          · have HK : Hid ((strB s).take k = strB s) := List.take_of_length_le (by have := HXL.out; omega)
            have HFN : Hid (foldD (signOff (strB s)) = N) := by simp only [Hid]; rw [← HXB.out, ← HK.out]; exact HN.out
            have HAL : Hid ((signOff (strB s)).all isD = true) := by simp only [Hid]; rw [← HXB.out, ← HK.out]; exact HA.out
            have HLE : Hid (1 ≤ (signOff (strB s)).length ∧ (signOff (strB s)).length ≤ 18) := by simp only [Hid]; rw [← HXB.out, HXL.out]; omega
            have HSL := Lib.hid (strB_len s)
            obtain ⟨v, hv⟩ : ∃ v, v = (N : Int) := ⟨_, rfl⟩; have hvb : -9223372036854775808 ≤ v ∧ v ≤ 9223372036854775807 := (by omega); have HNU : Hid (numOf (strB s) = v) := (by simp only [Hid, numOf]; rw [HFN.out, hv, if_neg (by rw [← HXB.out]; omega)]); have hv' := hv.symm; clear hv
            have HRD : Hid (rdDec (strB s) = if decide (dec v = strB s) then some v else none) := by
              simp only [Hid, rdDec]; rw [HAL.out, decide_eq_true HLE.out, HNU.out]; simp
            have i9 : ¬ (k : Int) < (s.size : Int) := by omega
            rcases hq : (dec v == s.toList) with _ | _
            · have HU := Lib.hid (rd_none (bs := strB s) (by rw [HRD.out]; rw [strB_toList, beq_eq_false_iff_ne] at hq; simp [hq]))
              go_wp2_with fail
              refine (l01Dec_any v w hvb.1 hvb.2).mono ?_; rintro e w' ⟨rfl, hwd⟩
              go_wp2_with fail
              go_ret2
              exact ⟨by rw [HU.out.1, HU.out.2] <;> rfl, hwd⟩
            · have HU := Lib.hid (rd_some (bs := strB s) (n := v) (by rw [HRD.out]; rw [strB_toList, beq_iff_eq] at hq; simp [hq]))
              go_wp2_with fail
              refine (l01Dec_any v w hvb.1 hvb.2).mono ?_; rintro e w' ⟨rfl, hwd⟩
              go_wp2_with fail
              go_ret2
              exact ⟨by rw [HU.out.1, HU.out.2] <;> rfl, hwd⟩
      · have HU := Lib.hid (rd_none (bs := strB s) (rdDec_len (by rw [← HXB.out, HXL.out]; omega)))
        have i3 : (18 : Int) < (s.size : Int) := by omega
        go_wp2_with fail
        go_ret2
        exact ⟨by rw [HU.out.1, HU.out.2] <;> rfl, Below.refl _ _⟩
  · obtain rfl := size_zero (show s.size = 0 by omega)
    have HU := Lib.hid (rd_none (bs := strB ⟨#[]⟩) (by rfl))
    go_enter Tryd.func198, Tryd.ntmps198
    go_wp2_with fail
    go_ret2
    exact ⟨by rw [HU.out.1, HU.out.2] <;> rfl, Below.refl _ _⟩
set_option maxRecDepth 100000 in
set_option maxHeartbeats 1600000 in
theorem ReadDecimal_any (s : ByteArray) (w : World) (hs : s.size ≤ 9223372036854775807)(ht : TB w) :
    Calls Tryd.prog 204 #[.string s] w fun e w' => e = .returned (.tuple #[.int .i64 (rdN (strB s)), .bool (rdDec (strB s)).isSome]) ∧ Below w.heap.size w w' := by
  by_cases h0 : 0 < s.size
  · have hE := str_nonempty h0
    have hc := strB_cons h0
    obtain ⟨b, hb⟩ : ∃ b, s[0] = b := ⟨_, rfl⟩
    rw [hb] at hc
    obtain ⟨z0, hz0⟩ : ∃ z : Nat, b.toNat = z := ⟨_, rfl⟩
    have i0 : (0 : Int) < (s.size : Int) := by omega
    by_cases h45 : z0 = 45
    · have i2 : ((z0 : Int) == 45) = true := by rw [beq_iff_eq]; omega
      obtain ⟨x, hx⟩ : ∃ x, s.extract 1 s.size = x := ⟨_, rfl⟩
      have HXB : Hid (strB x = signOff (strB s)) := by
        simp only [Hid]; rw [← hx, strB_tail, hc]; simp only [signOff]; rw [hz0, if_pos h45]; rfl
      have hxs : x.size = s.size - 1 := by rw [← hx, extract_size]
      have HC := Lib.hid hc
      have i1 : (1 : Int) ≤ (s.size : Int) := by omega
      have i5 : (x.size : Int) < (s.size : Int) := by omega
      by_cases hx0 : 0 < x.size
      · have j0 : ((x.size : Int) == 0) = false := by rw [beq_eq_false_iff_ne]; omega
        have j1 : ¬ (x.size : Int) < 1 := by omega
        have HX := Lib.hid hx
        clear hc hxs
        go_enter Tryd.func204, Tryd.ntmps204
        have HXL := Lib.hid (show (strB x).length = x.size from strB_len x)
        by_cases h18 : x.size ≤ 18
        · go_wp2_with fail
          go_loopw [5, 28] (fun nn ii wr => ∃ k : Nat, k ≤ x.size ∧ ii = .int .i64 k ∧ nn = .int .i64 (foldD ((strB x).take k) : Int) ∧ ((strB x).take k).all isD = true ∧ w = wr) (fun _ i _ => x.size - (intOf i).toNat)
          case atStart => exact ⟨0, Nat.zero_le _, rfl, rfl, rfl, rfl⟩
          case round =>
            obtain ⟨k, hk, rfl, rfl, hall, rfl⟩ := hrel
            have hbd := foldD_bd _ hall
            rw [List.length_take] at hbd
            have hp : 10 ^ (min k (strB x).length) ≤ 10 ^ 18 := Nat.pow_le_pow_right (by omega) (by have := HXL.out; omega)
            have HA := Lib.hid hall
            obtain ⟨N, hN⟩ : ∃ N, foldD ((strB x).take k) = N := ⟨_, rfl⟩
            have HN := Lib.hid hN
            have hN2 : N < 1000000000000000000 := by rw [← hN]; exact Nat.lt_of_lt_of_le hbd (Nat.le_trans hp (by decide))
            have HB := Lib.hid (show N < 10 ^ (min k (strB x).length) by rw [← hN]; exact hbd)
            rw [hN]
            clear hall hbd hp hN
            by_cases hkn : k < x.size
            · obtain ⟨q, hq⟩ : ∃ q : UInt8, x[k] = q := ⟨_, rfl⟩
              obtain ⟨z, hz⟩ : ∃ z : Nat, q.toNat = z := ⟨_, rfl⟩
              have hz2 : z < 256 := by rw [← hz]; exact q.toNat_lt
              have hkl : k < (strB x).length := by rw [HXL.out]; exact hkn
              have hg : (strB x)[k] = q := by rw [← hq, strB_get x hkn]
              have HT := Lib.hid (all_take hkl)
              have HF := Lib.hid (List.take_succ_eq_append_getElem hkl)
              have HNOT := Lib.hid (fun (h1 : isD (strB x)[k] = false) => all_not (p := isD) hkl h1)
              rw [hg] at HT HF HNOT
              have i0 : (0 : Int) ≤ (k : Int) := by omega
              have i1 : (k : Int) < (x.size : Int) := by omega
              have HZ := Lib.hid hz
              have hN3 : N < 100000000000000000 := Nat.lt_of_lt_of_le HB.out (Nat.le_trans (Nat.pow_le_pow_right (n := 10) (by omega) (show min k (strB x).length ≤ 17 by omega)) (by decide))
              rcases hd : isD q with _ | _
              · have HU := Lib.hid (rd_none (bs := strB s) (rdDec_all (by rw [← HXB.out]; exact HNOT.out hd)))
                have KD := Lib.hid (fun W => calls_val (isDigit_any z q hz W) (congrArg Value.bool hd))
                clear hd hg
                go_wp2_with (go_at_call 220; refine (KD.out _).mono ?_; rintro e w' ⟨rfl, rfl⟩)
                go_ret2
                exact ⟨by rw [HU.out.1, HU.out.2] <;> rfl, Below.refl _ _⟩
              · have KD := Lib.hid (fun W => calls_val (isDigit_any z q hz W) (congrArg Value.bool hd))
                have hz3 := of_decide_eq_true (show decide (48 ≤ q.toNat ∧ q.toNat ≤ 57) = true from hd)
                rw [hz] at hz3
                have y1 : IntKind.u8.wrap ((z : Int) - 48) = (z : Int) - 48 := wrapB (by omega)
                have y2 : wrap64 (10 * (N : Int)) = 10 * (N : Int) := wrap64_of (by omega)
                have y3 : wrap64 (10 * (N : Int) + ((z : Int) - 48)) = 10 * (N : Int) + ((z : Int) - 48) := wrap64_of (by omega)
                have HD := Lib.hid hd
                clear hd hg
                go_wp2_with (go_at_call 220; refine (KD.out _).mono ?_; rintro e w' ⟨rfl, rfl⟩)
                go_roundw
                case rel => exact ⟨k + 1, by omega, by go_num, by rw [HF.out, foldD_snoc, HN.out, HZ.out]; congr 1; omega, by rw [HT.out, HA.out, HD.out]; rfl, by first | rfl | trivial⟩
                case measure => simp [intOf]; omega
            · have HK : Hid ((strB x).take k = strB x) := List.take_of_length_le (by have := HXL.out; omega)
              have HFN : Hid (foldD (signOff (strB s)) = N) := by simp only [Hid]; rw [← HXB.out, ← HK.out]; exact HN.out
              have HAL : Hid ((signOff (strB s)).all isD = true) := by simp only [Hid]; rw [← HXB.out, ← HK.out]; exact HA.out
              have HLE : Hid (1 ≤ (signOff (strB s)).length ∧ (signOff (strB s)).length ≤ 18) := by simp only [Hid]; rw [← HXB.out, HXL.out]; omega
              have HSL := Lib.hid (strB_len s)
              obtain ⟨v, hv⟩ : ∃ v, v = -(N : Int) := ⟨_, rfl⟩; have hvb : -9223372036854775808 ≤ v ∧ v ≤ 9223372036854775807 := (by omega); have HNU : Hid (numOf (strB s) = v) := (by simp only [Hid, numOf]; rw [HFN.out, hv, if_pos (by rw [← HXB.out, HXL.out, HSL.out]; omega)]); rw [show (0 : Int) = 0 from rfl]; have hv' := hv.symm; clear hv
              have HRD : Hid (rdDec (strB s) = if decide (dec v = strB s) then some v else none) := by
                simp only [Hid, rdDec]; rw [HAL.out, decide_eq_true HLE.out, HNU.out]; simp
              have i9 : ¬ (k : Int) < (x.size : Int) := by omega
              rcases hq : (dec v == s.toList) with _ | _
              · have HU := Lib.hid (rd_none (bs := strB s) (by rw [HRD.out]; rw [strB_toList, beq_eq_false_iff_ne] at hq; simp [hq]))
                go_wp2_with fail
                refine (Decimal_any v w hvb.1 hvb.2 ht).mono ?_; rintro e w' ⟨rfl, hwd⟩
                go_wp2_with fail
                go_ret2
                exact ⟨by rw [HU.out.1, HU.out.2] <;> rfl, hwd⟩
              · have HU := Lib.hid (rd_some (bs := strB s) (n := v) (by rw [HRD.out]; rw [strB_toList, beq_iff_eq] at hq; simp [hq]))
                go_wp2_with fail
                refine (Decimal_any v w hvb.1 hvb.2 ht).mono ?_; rintro e w' ⟨rfl, hwd⟩
                go_wp2_with fail
                go_ret2
                exact ⟨by rw [HU.out.1, HU.out.2] <;> rfl, hwd⟩
        · have HU := Lib.hid (rd_none (bs := strB s) (rdDec_len (by rw [← HXB.out, HXL.out]; omega)))
          have i3 : (18 : Int) < (x.size : Int) := by omega
          go_wp2_with fail
          go_ret2
          exact ⟨by rw [HU.out.1, HU.out.2] <;> rfl, Below.refl _ _⟩
      · have HU := Lib.hid (rd_none (bs := strB s) (rdDec_len (by rw [← HXB.out, strB_len]; omega)))
        have hxz := size_zero (show x.size = 0 by omega)
        subst hxz
        clear hc
        go_enter Tryd.func204, Tryd.ntmps204
        go_wp2_with fail
        go_ret2
        exact ⟨by rw [HU.out.1, HU.out.2] <;> rfl, Below.refl _ _⟩
    · have i2 : ((z0 : Int) == 45) = false := by rw [beq_eq_false_iff_ne]; omega
      have HXB : Hid (strB s = signOff (strB s)) := by
        simp only [Hid]; rw [hc]; simp only [signOff]; rw [hz0, if_neg h45]
      have j0 : ((s.size : Int) == 0) = false := by rw [beq_eq_false_iff_ne]; omega
      have j1 : ¬ (s.size : Int) < 1 := by omega
      have i5 : ¬ (s.size : Int) < (s.size : Int) := by omega
      clear hc
      go_enter Tryd.func204, Tryd.ntmps204
      have HXL := Lib.hid (show (strB s).length = s.size from strB_len s)
      by_cases h18 : s.size ≤ 18
      · go_wp2_with fail
        go_loopw [5, 28] (fun nn ii wr => ∃ k : Nat, k ≤ s.size ∧ ii = .int .i64 k ∧ nn = .int .i64 (foldD ((strB s).take k) : Int) ∧ ((strB s).take k).all isD = true ∧ w = wr) (fun _ i _ => s.size - (intOf i).toNat)
        case atStart => exact ⟨0, Nat.zero_le _, rfl, rfl, rfl, rfl⟩
        case round =>
          obtain ⟨k, hk, rfl, rfl, hall, rfl⟩ := hrel
          have hbd := foldD_bd _ hall
          rw [List.length_take] at hbd
          have hp : 10 ^ (min k (strB s).length) ≤ 10 ^ 18 := Nat.pow_le_pow_right (by omega) (by have := HXL.out; omega)
          have HA := Lib.hid hall
          obtain ⟨N, hN⟩ : ∃ N, foldD ((strB s).take k) = N := ⟨_, rfl⟩
          have HN := Lib.hid hN
          have hN2 : N < 1000000000000000000 := by rw [← hN]; exact Nat.lt_of_lt_of_le hbd (Nat.le_trans hp (by decide))
          have HB := Lib.hid (show N < 10 ^ (min k (strB s).length) by rw [← hN]; exact hbd)
          rw [hN]
          clear hall hbd hp hN
          by_cases hkn : k < s.size
          · obtain ⟨q, hq⟩ : ∃ q : UInt8, s[k] = q := ⟨_, rfl⟩
            obtain ⟨z, hz⟩ : ∃ z : Nat, q.toNat = z := ⟨_, rfl⟩
            have hz2 : z < 256 := by rw [← hz]; exact q.toNat_lt
            have hkl : k < (strB s).length := by rw [HXL.out]; exact hkn
            have hg : (strB s)[k] = q := by rw [← hq, strB_get s hkn]
            have HT := Lib.hid (all_take hkl)
            have HF := Lib.hid (List.take_succ_eq_append_getElem hkl)
            have HNOT := Lib.hid (fun (h1 : isD (strB s)[k] = false) => all_not (p := isD) hkl h1)
            rw [hg] at HT HF HNOT
            have i0 : (0 : Int) ≤ (k : Int) := by omega
            have i1 : (k : Int) < (s.size : Int) := by omega
            have HZ := Lib.hid hz
            have hN3 : N < 100000000000000000 := Nat.lt_of_lt_of_le HB.out (Nat.le_trans (Nat.pow_le_pow_right (n := 10) (by omega) (show min k (strB s).length ≤ 17 by omega)) (by decide))
            rcases hd : isD q with _ | _
            · have HU := Lib.hid (rd_none (bs := strB s) (rdDec_all (by rw [← HXB.out]; exact HNOT.out hd)))
              have KD := Lib.hid (fun W => calls_val (isDigit_any z q hz W) (congrArg Value.bool hd))
              clear hd hg
              go_wp2_with (go_at_call 220; refine (KD.out _).mono ?_; rintro e w' ⟨rfl, rfl⟩)
              go_ret2
              exact ⟨by rw [HU.out.1, HU.out.2] <;> rfl, Below.refl _ _⟩
            · have KD := Lib.hid (fun W => calls_val (isDigit_any z q hz W) (congrArg Value.bool hd))
              have hz3 := of_decide_eq_true (show decide (48 ≤ q.toNat ∧ q.toNat ≤ 57) = true from hd)
              rw [hz] at hz3
              have y1 : IntKind.u8.wrap ((z : Int) - 48) = (z : Int) - 48 := wrapB (by omega)
              have y2 : wrap64 (10 * (N : Int)) = 10 * (N : Int) := wrap64_of (by omega)
              have y3 : wrap64 (10 * (N : Int) + ((z : Int) - 48)) = 10 * (N : Int) + ((z : Int) - 48) := wrap64_of (by omega)
              have HD := Lib.hid hd
              clear hd hg
              go_wp2_with (go_at_call 220; refine (KD.out _).mono ?_; rintro e w' ⟨rfl, rfl⟩)
              go_roundw
              case rel => exact ⟨k + 1, by omega, by go_num, by rw [HF.out, foldD_snoc, HN.out, HZ.out]; congr 1; omega, by rw [HT.out, HA.out, HD.out]; rfl, by first | rfl | trivial⟩
              case measure => simp [intOf]; omega
          · have HK : Hid ((strB s).take k = strB s) := List.take_of_length_le (by have := HXL.out; omega)
            have HFN : Hid (foldD (signOff (strB s)) = N) := by simp only [Hid]; rw [← HXB.out, ← HK.out]; exact HN.out
            have HAL : Hid ((signOff (strB s)).all isD = true) := by simp only [Hid]; rw [← HXB.out, ← HK.out]; exact HA.out
            have HLE : Hid (1 ≤ (signOff (strB s)).length ∧ (signOff (strB s)).length ≤ 18) := by simp only [Hid]; rw [← HXB.out, HXL.out]; omega
            have HSL := Lib.hid (strB_len s)
            obtain ⟨v, hv⟩ : ∃ v, v = (N : Int) := ⟨_, rfl⟩; have hvb : -9223372036854775808 ≤ v ∧ v ≤ 9223372036854775807 := (by omega); have HNU : Hid (numOf (strB s) = v) := (by simp only [Hid, numOf]; rw [HFN.out, hv, if_neg (by rw [← HXB.out]; omega)]); have hv' := hv.symm; clear hv
            have HRD : Hid (rdDec (strB s) = if decide (dec v = strB s) then some v else none) := by
              simp only [Hid, rdDec]; rw [HAL.out, decide_eq_true HLE.out, HNU.out]; simp
            have i9 : ¬ (k : Int) < (s.size : Int) := by omega
            rcases hq : (dec v == s.toList) with _ | _
            · have HU := Lib.hid (rd_none (bs := strB s) (by rw [HRD.out]; rw [strB_toList, beq_eq_false_iff_ne] at hq; simp [hq]))
              go_wp2_with fail
              refine (Decimal_any v w hvb.1 hvb.2 ht).mono ?_; rintro e w' ⟨rfl, hwd⟩
              go_wp2_with fail
              go_ret2
              exact ⟨by rw [HU.out.1, HU.out.2] <;> rfl, hwd⟩
            · have HU := Lib.hid (rd_some (bs := strB s) (n := v) (by rw [HRD.out]; rw [strB_toList, beq_iff_eq] at hq; simp [hq]))
              go_wp2_with fail
              refine (Decimal_any v w hvb.1 hvb.2 ht).mono ?_; rintro e w' ⟨rfl, hwd⟩
              go_wp2_with fail
              go_ret2
              exact ⟨by rw [HU.out.1, HU.out.2] <;> rfl, hwd⟩
      · have HU := Lib.hid (rd_none (bs := strB s) (rdDec_len (by rw [← HXB.out, HXL.out]; omega)))
        have i3 : (18 : Int) < (s.size : Int) := by omega
        go_wp2_with fail
        go_ret2
        exact ⟨by rw [HU.out.1, HU.out.2] <;> rfl, Below.refl _ _⟩
  · obtain rfl := size_zero (show s.size = 0 by omega)
    have HU := Lib.hid (rd_none (bs := strB ⟨#[]⟩) (by rfl))
    go_enter Tryd.func204, Tryd.ntmps204
    go_wp2_with fail
    go_ret2
    exact ⟨by rw [HU.out.1, HU.out.2] <;> rfl, Below.refl _ _⟩
end Go.Proofs.YtlhcilmnfmglfaaDoor

namespace Go.Proofs.YtlhcilmnfmglfaaDoor
open Go.RowKit Go.Sort
def digV (c : UInt8) : Int := if 48 ≤ c.toNat ∧ c.toNat ≤ 57 then (c.toNat : Int) - 48 else if 97 ≤ c.toNat ∧ c.toNat ≤ 102 then (c.toNat : Int) - 87 else -1
def rdR (bs : List UInt8) : Option Reg := (cutB [58] bs).bind fun q => (rdDec q.1).bind fun n => if vreg n (q.2.reverse.map digV) then some ⟨n, q.2.reverse.map digV⟩ else none
theorem cutB_mem (k : UInt8) : ∀ (bs x y : List UInt8), cutB [k] bs = some (x, y) → bs = x ++ k :: y ∧ k ∉ x
  | [], _, _, h => by cases h
  | b :: tl, x, y, h => by
    simp only [cutB] at h
    split at h
    · rename_i h1
      injection h with h
      injection h with h2 h3
      rw [prefix_iff] at h1
      have h4 := of_decide_eq_true h1
      have : b = k := by simpa using h4
      subst this
      rw [← h2, ← h3]; simp
    · rename_i h1
      obtain ⟨q, hq, h2⟩ := Option.map_eq_some_iff.1 h
      injection h2 with h3 h4
      obtain ⟨h5, h6⟩ := cutB_mem k tl q.1 q.2 hq
      rw [← h3, ← h4]
      refine ⟨by rw [List.cons_append, ← h5], ?_⟩
      intro hm
      rcases List.mem_cons.1 hm with h7 | h7
      · apply h1; subst h7; rw [prefix_iff]; simp
      · exact h6 h7
theorem cutB_of (k : UInt8) (y : List UInt8) : ∀ x : List UInt8, k ∉ x → cutB [k] (x ++ k :: y) = some (x, y)
  | [], _ => by
    rw [List.nil_append]; simp only [cutB]
    rw [prefix_iff]; simp
  | b :: x, h => by
    rw [List.cons_append]; simp only [cutB]
    have h1 : ¬ (([k] : List UInt8).isPrefixOf (b :: (x ++ k :: y)) = true) := by
      rw [prefix_iff]; simp
      intro h2; exact h (by rw [h2]; simp)
    rw [if_neg h1, cutB_of k y x (fun h2 => h (List.mem_cons_of_mem _ h2))]; rfl
theorem cutB_none (k : UInt8) : ∀ bs : List UInt8, cutB [k] bs = none → k ∉ bs
  | [], _ => by simp
  | b :: tl, h => by
    simp only [cutB] at h
    split at h
    · cases h
    · rename_i h1
      have h2 := cutB_none k tl (by simpa using h)
      intro h3
      rcases List.mem_cons.1 h3 with h4 | h4
      · apply h1; subst h4; rw [prefix_iff]; simp
      · exact h2 h4
theorem splitB_none (k : UInt8) : ∀ bs : List UInt8, k ∉ bs → splitB k.toNat bs = [bs]
  | [], _ => rfl
  | b :: tl, h => by
    rw [splitB_cons, if_neg (fun h1 => h (by rw [← UInt8.toNat_inj.1 h1]; simp)), splitB_none k tl (fun h1 => h (List.mem_cons_of_mem _ h1))]; rfl
theorem splitB_at (k : UInt8) (y : List UInt8) : ∀ x : List UInt8, k ∉ x → splitB k.toNat (x ++ k :: y) = x :: splitB k.toNat y
  | [], _ => by rw [List.nil_append, splitB_cons, if_pos rfl]
  | b :: x, h => by
    rw [List.cons_append, splitB_cons, if_neg (fun h1 => h (by rw [← UInt8.toNat_inj.1 h1]; simp)), splitB_at k y x (fun h1 => h (List.mem_cons_of_mem _ h1))]; rfl
theorem digV_bad : digV 58 = -1 := by decide
theorem vreg_mem {b : Int} {ds : List Int} {d : Int} (h : d ∈ ds) (hd : d < 0) : vreg b ds = false := by
  rcases hv : vreg b ds with _ | _
  · rfl
  · have := (vreg_iff.1 hv).2.2.1 d h; omega
/-- the parts that the reference reads: two, the second one short -/
theorem rdR_spec (bs : List UInt8) : rdR bs = match splitB 58 bs with
    | [x, y] => if y.length ≤ 16 then (rdDec x).bind fun n => if vreg n (y.reverse.map digV) then some ⟨n, y.reverse.map digV⟩ else none else none
    | _ => none := by
  unfold rdR
  have e58 : (58 : UInt8).toNat = 58 := rfl
  cases h : cutB [58] bs with
  | none =>
    have h2 := splitB_none 58 bs (cutB_none 58 bs h)
    rw [e58] at h2
    rw [h2]; rfl
  | some q =>
    obtain ⟨x, y⟩ := q
    obtain ⟨h1, h2⟩ := cutB_mem 58 bs x y h
    have h3 := splitB_at 58 y x h2
    rw [← h1, e58] at h3
    rw [h3]
    simp only [Option.bind_some]
    by_cases hy : (58 : UInt8) ∈ y
    · have hv : ∀ n, vreg n (y.reverse.map digV) = false := fun n => vreg_mem (d := -1) (List.mem_map.2 ⟨58, by simpa using hy, digV_bad⟩) (by omega)
      have hl : ∀ z, splitB 58 y ≠ [z] := by
        intro z hz
        cases h4 : cutB [58] y with
        | none => exact cutB_none 58 y h4 hy
        | some q =>
          obtain ⟨a, b⟩ := q
          obtain ⟨h5, h6⟩ := cutB_mem 58 y a b h4
          have h7 := splitB_at 58 b a h6
          rw [← h5, e58, hz] at h7
          injection h7 with _ h7
          exact splitB_ne 58 b h7.symm
      have e1 : ((rdDec x).bind fun n => if vreg n (y.reverse.map digV) then some (⟨n, y.reverse.map digV⟩ : Reg) else none) = none := by
        cases rdDec x with
        | none => rfl
        | some n => simp only [Option.bind_some]; rw [hv n]; rfl
      rw [e1]
      cases hs : splitB 58 y with
      | nil => rfl
      | cons a t =>
        cases t with
        | nil => exact absurd hs (hl a)
        | cons b t => rfl
    · have h4 := splitB_none 58 y hy
      rw [e58] at h4
      rw [h4]
      simp only []
      by_cases h16 : y.length ≤ 16
      · rw [if_pos h16]
      · rw [if_neg h16]
        cases rdDec x with
        | none => rfl
        | some n =>
          simp only [Option.bind_some]
          have : vreg n (y.reverse.map digV) = false := by
            rcases hv : vreg n (y.reverse.map digV) with _ | _
            · rfl
            · have := (vreg_iff.1 hv).2.1; simp at this; omega
          rw [this]; rfl
def rdReg (bs : List UInt8) : Reg := (rdR bs).getD ⟨0, []⟩
theorem rdr_none {bs : List UInt8} (h : rdR bs = none) : rdReg bs = ⟨0, []⟩ ∧ (rdR bs).isSome = false := by simp [rdReg, h]
theorem rdr_some {bs : List UInt8} {r : Reg} (h : rdR bs = some r) : rdReg bs = r ∧ (rdR bs).isSome = true := by simp [rdReg, h]
theorem l02Digit_any (z : Nat) (c : UInt8) (hc : c.toNat = z) (w : World) : Calls Tryd.prog 212 #[.int .u8 (z : Int)] w fun e w' => e = .returned (.int .i64 (digV c)) ∧ w = w' := by
  have hz : z < 256 := by rw [← hc]; exact c.toNat_lt
  have HV := Lib.hid (show digV c = if 48 ≤ z ∧ z ≤ 57 then (z : Int) - 48 else if 97 ≤ z ∧ z ≤ 102 then (z : Int) - 87 else -1 by unfold digV; rw [hc])
  by_cases h1 : 48 ≤ z ∧ z ≤ 57
  · have HV2 := Lib.hid (show digV c = (z : Int) - 48 by rw [HV.out, if_pos h1])
    have i1 : (48 : Int) ≤ (z : Int) := by omega
    have i2 : (z : Int) ≤ 57 := by omega
    have y1 : IntKind.u8.wrap ((z : Int) - 48) = (z : Int) - 48 := wrapB (by omega)
    clear h1
    go_enter Tryd.func212, Tryd.ntmps212
    go_wp2_with fail
    go_ret
    exact ⟨ret_int HV2.out.symm, rfl⟩
  · by_cases h2 : 97 ≤ z ∧ z ≤ 102
    · have HV2 := Lib.hid (show digV c = (z : Int) - 97 + 10 by rw [HV.out, if_neg h1, if_pos h2]; omega)
      have i1 : (48 : Int) ≤ (z : Int) := by omega
      have i2 : ¬ (z : Int) ≤ 57 := by omega
      have i3 : (97 : Int) ≤ (z : Int) := by omega
      have i4 : (z : Int) ≤ 102 := by omega
      have y1 : IntKind.u8.wrap ((z : Int) - 97) = (z : Int) - 97 := wrapB (by omega)
      clear h1 h2
      go_enter Tryd.func212, Tryd.ntmps212
      go_wp2_with fail
      go_ret
      exact ⟨ret_int HV2.out.symm, rfl⟩
    · have HV2 := Lib.hid (show digV c = -1 by rw [HV.out, if_neg h1, if_neg h2])
      by_cases g1 : 48 ≤ z
      · have i1 : (48 : Int) ≤ (z : Int) := by omega
        have i2 : ¬ (z : Int) ≤ 57 := by omega
        by_cases g2 : 97 ≤ z
        · have i3 : (97 : Int) ≤ (z : Int) := by omega
          have i4 : ¬ (z : Int) ≤ 102 := by omega
          clear h1 h2
          go_enter Tryd.func212, Tryd.ntmps212
          go_wp2_with fail
          go_ret
          exact ⟨ret_int HV2.out.symm, rfl⟩
        · have i3 : ¬ (97 : Int) ≤ (z : Int) := by omega
          clear h1 h2
          go_enter Tryd.func212, Tryd.ntmps212
          go_wp2_with fail
          go_ret
          exact ⟨ret_int HV2.out.symm, rfl⟩
      · have i1 : ¬ (48 : Int) ≤ (z : Int) := by omega
        have i3 : ¬ (97 : Int) ≤ (z : Int) := by omega
        clear h1 h2
        go_enter Tryd.func212, Tryd.ntmps212
        go_wp2_with fail
        go_ret
        exact ⟨ret_int HV2.out.symm, rfl⟩
end Go.Proofs.YtlhcilmnfmglfaaDoor

namespace Go.Proofs.YtlhcilmnfmglfaaDoor
open Go.RowKit Go.Sort
theorem Kn.rowS_get {w0 w : World} {m : List Ent} {g n c : Nat} {ss : List ByteArray} (h : Kn w0 (rowS (.slice (some ⟨g, 0, none⟩) n c) ss :: m) w) {k : Nat} (hk : k < ss.length) : w.cell? ⟨g, k, none⟩ = some (.string ss[k]) := by
  obtain ⟨-, g', e, hc, -⟩ := h.rowS_at hk
  injection e with e
  injection e with e
  subst e; exact hc
def dtx : ByteArray := ⟨#[48, 49, 50, 51, 52, 53, 54, 55, 56, 57, 97, 98, 99, 100, 101, 102]⟩
/-- the last place among the first d characters of digits that a byte has -/
def lastAt (c : Nat) (d : Nat) : Int := (List.range d).foldl (fun a j => if (dtx.data.getD j 0).toNat = c then (j : Int) else a) (-1)
theorem lastAt_succ (c d : Nat) : lastAt c (d + 1) = if (dtx.data.getD d 0).toNat = c then (d : Int) else lastAt c d := by
  unfold lastAt; rw [List.range_succ, List.foldl_append]; rfl
theorem lastAt_all : ∀ c, c < 256 → lastAt c 16 = digV (UInt8.ofNat c) := by decide +kernel
theorem dtx_get (d : Nat) (h : d < 16) : dtx[d]? = some (dtx.data.getD d 0) := by
  have : ∀ d, d < 16 → dtx[d]? = some (dtx.data.getD d 0) := by decide
  exact this d h
theorem splitB_each (k : Nat) : ∀ (bs : List UInt8), ∀ x ∈ splitB k bs, x.length ≤ bs.length
  | [], x, h => by simp [splitB] at h; subst h; simp
  | b :: tl, x, h => by
    rw [splitB_cons] at h
    split at h
    · rcases List.mem_cons.1 h with rfl | h
      · simp
      · have := splitB_each k tl x h; rw [List.length_cons]; omega
    · cases h2 : splitB k tl with
      | nil => exact absurd h2 (splitB_ne k tl)
      | cons a t =>
        have h3 := fun y hy => splitB_each k tl y (by rw [h2]; exact hy)
        rw [h2] at h
        simp only [glue] at h
        rcases List.mem_cons.1 h with rfl | h
        · have := h3 a (List.mem_cons_self ..); simp; omega
        · have := h3 x (List.mem_cons_of_mem _ h); rw [List.length_cons]; omega
set_option maxRecDepth 100000 in
set_option maxHeartbeats 1600000 in
theorem ReadRegister_any (s : ByteArray) (w : World) (hs : s.size ≤ 1048576) (ht : TB w) :
    Calls Tryd.prog 203 #[.string s] w fun e w' => ∃ A c, e = .returned (.tuple #[.agg #[.int .i64 (rdReg (strB s)).base, .slice A (rdReg (strB s)).digits.length c], .bool (rdR (strB s)).isSome]) ∧ Kn w [rowI A c (rdReg (strB s)).digits] w' := by
  have HRD := Lib.hid (show rdR (strB s) = _ from rfl)
  have KC := Lib.hid (fun W => cut_any s ⟨#[58]⟩ W hs (by decide) (by decide))
  have hxl : (cutX [58] (strB s)).length ≤ 1048576 ∧ (cutY [58] (strB s)).length ≤ 1048576 := by
    have hl := strB_len s
    unfold cutX cutY
    cases h : cutB [58] (strB s) with
    | none => simp; omega
    | some q =>
      obtain ⟨x, y⟩ := q
      obtain ⟨h1, -⟩ := cutB_mem 58 _ x y h
      have := congrArg List.length h1
      simp at this ⊢; omega
  have HT := Lib.hid (fun W (hW : Below w.heap.size w W) => TB.below ht hW)
  clear ht
  go_enter Tryd.func203, Tryd.ntmps203
  go_wp2_with fail
  refine Calls.kn ((Kn.nil w).al [.int .i64 0, .slice none 0 0] 33) ?_; intro w1 hK1
  refine (KC.out w1).mono ?_; rintro e w2 ⟨x, y, rfl, hx, hy, hw⟩
  have e58 : strB ⟨#[58]⟩ = [58] := rfl
  rw [e58] at hx hy ⊢
  have hK2 := hK1.keep hw
  have hxs : x.size ≤ 1048576 := by rw [← strB_len, hx]; exact hxl.1
  have hys : y.size ≤ 1048576 := by rw [← strB_len, hy]; exact hxl.2
  have KD := Lib.hid (ReadDecimal_any x w2 (by omega) (HT.out _ hK2.below))
  have HX := Lib.hid hx
  have HY := Lib.hid hy
  clear hw hx hy hK1 hxl e58
  cases hcb : cutB [58] (strB s) with
  | none =>
    have HU := Lib.hid (rdr_none (bs := strB s) (by unfold rdR; rw [hcb]; rfl))
    clear hcb
    go_wp2_with fail
    refine KD.out.mono ?_; rintro e w3 ⟨rfl, hw⟩
    have hK3 := hK2.keep hw
    obtain ⟨d1, d2, d3, -⟩ := hK3.cells
    clear hw
    go_wp2_with fail
    refine bodyPost_ret (v := .tuple #[.agg #[.int .i64 0, .slice none 0 0], .bool false]) (by simp [results, Tryd.results203, go_sem, d1]) rfl ⟨none, 0, by rw [HU.out.1, HU.out.2]; rfl, ?_⟩
    rw [HU.out.1]
    exact ((hK3.st 0 (.int .i64 0)).st 1 (.slice none 0 0)).bare.nilRow _ _
  | some q =>
    obtain ⟨qx, qy⟩ := q
    have HXB : Hid (strB x = qx) := by simp only [Hid]; rw [HX.out, cutX, hcb]; rfl
    have HYB : Hid (strB y = qy) := by simp only [Hid]; rw [HY.out, cutY, hcb]; rfl
    have HRR : Hid (rdR (strB s) = (rdDec qx).bind fun n => if vreg n (qy.reverse.map digV) then some ⟨n, qy.reverse.map digV⟩ else none) := by
      simp only [Hid, rdR]; rw [hcb]; rfl
    have KD := KD.out
    rw [HXB.out] at KD
    clear hcb
    cases hrd : rdDec qx with
    | none =>
      have HU := Lib.hid (rdr_none (bs := strB s) (by rw [HRR.out, hrd]; rfl))
      rw [hrd] at KD
      have KD := Lib.hid KD
      clear hrd
      go_wp2_with fail
      refine KD.out.mono ?_; rintro e w3 ⟨rfl, hw⟩
      have hK3 := hK2.keep hw
      obtain ⟨d1, d2, d3, -⟩ := hK3.cells
      clear hw
      go_wp2_with fail
      refine bodyPost_ret (v := .tuple #[.agg #[.int .i64 0, .slice none 0 0], .bool false]) (by simp [results, Tryd.results203, go_sem, d1]) rfl ⟨none, 0, by rw [HU.out.1, HU.out.2]; rfl, ?_⟩
      rw [HU.out.1]
      exact ((hK3.st 0 (.int .i64 0)).st 1 (.slice none 0 0)).bare.nilRow _ _
    | some n =>
      have HRR := Lib.hid (show rdR (strB s) = if vreg n (qy.reverse.map digV) then some ⟨n, qy.reverse.map digV⟩ else none by rw [HRR.out, hrd]; rfl)
      have hn0 := (rd_some hrd).1
      rw [hn0, hrd] at KD
      have KD := Lib.hid KD
      clear hrd hn0
      rcases hbs : betB n 2 16 with _ | _
      · have HU := Lib.hid (rdr_none (bs := strB s) (by rw [HRR.out]; simp [vreg, hbs]))
        have KB := Lib.hid (fun W => calls_val (isBase_any n W) (congrArg Value.bool hbs))
        clear hbs
        go_wp2_with fail
        refine KD.out.mono ?_; rintro e w3 ⟨rfl, hw⟩
        have hK3 := hK2.keep hw
        obtain ⟨d1, d2, d3, -⟩ := hK3.cells
        clear hw
        go_wp2_with (go_at_call 85; refine (KB.out _).mono ?_; rintro e w' ⟨rfl, rfl⟩)
        refine bodyPost_ret (v := .tuple #[.agg #[.int .i64 0, .slice none 0 0], .bool false]) (by simp [results, Tryd.results203, go_sem, d1]) rfl ⟨none, 0, by rw [HU.out.1, HU.out.2]; rfl, ?_⟩
        rw [HU.out.1]
        exact ((hK3.st 0 (.int .i64 0)).st 1 (.slice none 0 0)).bare.nilRow _ _
      · have KB := Lib.hid (fun W => calls_val (isBase_any n W) (congrArg Value.bool hbs))
        clear hbs
        go_wp2_with fail
        refine KD.out.mono ?_; rintro e w3 ⟨rfl, hw⟩
        have hK3 := hK2.keep hw
        clear hw
        go_wp2_with (first | (go_at_call 85; refine (KB.out _).mono ?_; rintro e w' ⟨rfl, rfl⟩) | (refine wpList.kn (hK3.al [.int .i64 0, .slice none 0 0] 33) ?_; intro w4 hK4; obtain ⟨a1, a2, a3, -⟩ := hK4.cells) | (refine wpList.kn ((hK4.st 0 _).st 1 _) ?_; intro w5 hK5; clear a1 a2 a3))
        have hK6 := hK5.nilRow 2 1
        clear hK3 hK4 hK5 hK2
        go_loopw [10] (fun ii wr => ∃ (k : Nat) (v : Value), k ≤ y.size ∧ ii = .int .i64 ((k : Int) - 1) ∧
          Kn w [.row v 2 1 (((strB y).drop k).reverse.map digV).length ((((strB y).drop k).reverse.map digV).map (Value.int .i64)), .blk w3.heap.size [.int .i64 n, v] 33, .blk w.heap.size [.int .i64 0, .slice none 0 0] 33] wr) (fun i _ => (intOf i + 1).toNat)
        case atStart =>
          refine ⟨y.size, .slice none 0 0, Nat.le_refl _, rfl, ?_⟩
          rw [List.drop_of_length_le (by rw [strB_len]; omega)]
          exact hK6
        case round =>
          obtain ⟨k, v, hk, rfl, hK⟩ := hrel
          obtain ⟨wo, rfl⟩ : ∃ wo : World, wo = wr := ⟨_, rfl⟩
          clear hK6
          obtain ⟨a1, a2, a3, d1, d2, d3, -⟩ := hK.cells
          rcases Nat.eq_zero_or_pos k with hk0 | hk0
          · subst hk0
            rw [List.drop_zero] at hK
            have HYB := HYB
            have hE : (strB y).reverse.map digV = qy.reverse.map digV := by rw [HYB.out]
            rw [hE] at hK
            obtain ⟨ds, hds⟩ : ∃ ds, qy.reverse.map digV = ds := ⟨_, rfl⟩
            have HRR := HRR.out
            rw [hds] at hK HRR
            have HRR := Lib.hid HRR
            obtain ⟨A, c, rfl⟩ := row_form hK.at0
            have hri := hK.ownI.ri
            have hdl : ds.length ≤ 1048576 := by rw [← hds, ← HYB.out]; simp [strB_len]; omega
            have KV := fun b (hb : vreg n ds = b) => calls_val (ValidRegister_any n A ds.length c ds wo hri (by omega)) (congrArg Value.bool hb)
            clear hE hds hri
            rcases hv : vreg n ds with _ | _
            · have HU := Lib.hid (rdr_none (bs := strB s) (by rw [HRR.out, hv]; rfl))
              have KV := Lib.hid (KV _ hv)
              clear hv
              go_wp2_with fail
              refine KV.out.mono ?_; rintro e w7 ⟨rfl, hw⟩
              have hK7 := hK.keep hw
              clear d1 d2 d3 a1 a2 a3 hw
              obtain ⟨a1, a2, a3, d1, d2, d3, -⟩ := hK7.cells
              go_wp2_with fail
              refine bodyPost_ret (v := .tuple #[.agg #[.int .i64 0, .slice none 0 0], .bool false]) (by simp [results, Tryd.results203, go_sem, d1]) rfl ⟨none, 0, by rw [HU.out.1, HU.out.2]; rfl, ?_⟩
              rw [HU.out.1]
              exact ((hK7.sw2.st 0 (.int .i64 0)).st 1 (.slice none 0 0)).bare.nilRow _ _
            · have HU := Lib.hid (rdr_some (bs := strB s) (r := ⟨n, ds⟩) (by rw [HRR.out, hv]; rfl))
              have KV := Lib.hid (KV _ hv)
              clear hv
              go_wp2_with fail
              refine KV.out.mono ?_; rintro e w7 ⟨rfl, hw⟩
              have hK7 := hK.keep hw
              clear d1 d2 d3 a1 a2 a3 hw
              obtain ⟨a1, a2, a3, d1, d2, d3, -⟩ := hK7.cells
              go_wp2_with fail
              have hK8 := (hK7.sw2.st 0 (.int .i64 n)).st 1 (.slice A ds.length c)
              refine bodyPost_ret (v := .tuple #[.agg #[.int .i64 n, .slice A ds.length c], .bool true]) (by simp [results, Tryd.results203, go_sem, d1]) rfl ⟨A, c, by rw [HU.out.1, HU.out.2], ?_⟩
              rw [HU.out.1]
              exact hK8.sw1.drop1.drop1
          · obtain ⟨q, hq⟩ : ∃ q : UInt8, y[k - 1] = q := ⟨_, rfl⟩
            obtain ⟨z, hz⟩ : ∃ z : Nat, q.toNat = z := ⟨_, rfl⟩
            have hz2 : z < 256 := by rw [← hz]; exact q.toNat_lt
            have hdr : (strB y).drop (k - 1) = q :: (strB y).drop k := by
              rw [List.drop_eq_getElem_cons (by rw [strB_len]; omega), ← strB_get y (by omega), hq, show k - 1 + 1 = k by omega]
            have HDG := Lib.hid (show ((strB y).drop (k - 1)).reverse.map digV = ((strB y).drop k).reverse.map digV ++ [digV q] by rw [hdr]; simp)
            have HQ := Lib.hid (show lastAt z 16 = digV q by rw [lastAt_all z hz2, ← hz]; simp)
            have hi0 : (0 : Int) ≤ (k : Int) - 1 := by omega
            have hi1 : (k : Int) - 1 < (y.size : Int) := by omega
            have hin : ((k : Int) - 1).toNat = k - 1 := by omega
            have hlen : (((strB y).drop k).reverse.map digV).length ≤ 1048576 := by simp [strB_len]; omega
            obtain ⟨ds, hds⟩ : ∃ ds, ((strB y).drop k).reverse.map digV = ds := ⟨_, rfl⟩
            rw [hds] at hK hlen HDG
            clear hdr hds
            go_wp2_with fail
            go_loopw [11, 45] (fun gg dd wi => ∃ d : Nat, d ≤ 16 ∧ dd = .int .i64 d ∧ gg = .int .i64 (lastAt z d) ∧ ∃ q, wi = wo.drewN q) (fun _ d _ => 16 - (intOf d).toNat)
            case atStart => exact ⟨0, by omega, rfl, rfl, 0, rfl⟩
            case round =>
              obtain ⟨d, hd, rfl, rfl, nq, rfl⟩ := hrel
              by_cases hd16 : d < 16
              · have hdg := dtx_get d hd16
                obtain ⟨u, hu⟩ : ∃ u : Nat, (dtx.data.getD d 0).toNat = u := ⟨_, rfl⟩
                have HLS := Lib.hid (lastAt_succ z d)
                have j0 : (0 : Int) ≤ (d : Int) := by omega
                have j1 : (d : Int) < 16 := by omega
                have hgu : ((⟨#[48, 49, 50, 51, 52, 53, 54, 55, 56, 57, 97, 98, 99, 100, 101, 102]⟩ : ByteArray)[d]'hd16).toNat = u := by
                  rw [← hu]
                  have h3 : dtx[d]? = some (dtx[d]'hd16) := getElem?_pos dtx d hd16
                  rw [hdg] at h3
                  injection h3 with h3
                  rw [h3]; rfl
                have HU9 := Lib.hid hu
                clear hdg hu
                by_cases huz : u = z
                · have k1 : ((u : Int) == (z : Int)) = true := by rw [beq_iff_eq]; omega
                  have HL2 : Hid (lastAt z (d + 1) = (d : Int)) := by simp only [Hid]; rw [HLS.out, HU9.out, if_pos huz]
                  clear huz
                  go_wp2_with fail
                  go_quiet (fail)
                  go_wp2_with fail
                  go_roundw
                  case rel => exact ⟨d + 1, by omega, by go_num, by rw [HL2.out], by first | exact ⟨_, rfl⟩ | exact ⟨_, World.drewN_drewN _ _ _⟩⟩
                  case measure => simp [intOf]; omega
                · have k1 : ((u : Int) == (z : Int)) = false := by rw [beq_eq_false_iff_ne]; omega
                  have HL2 : Hid (lastAt z (d + 1) = lastAt z d) := by simp only [Hid]; rw [HLS.out, HU9.out, if_neg huz]
                  clear huz
                  go_wp2_with fail
                  go_quiet (fail)
                  go_wp2_with fail
                  go_roundw
                  case rel => exact ⟨d + 1, by omega, by go_num, by rw [HL2.out], by first | exact ⟨_, rfl⟩ | exact ⟨_, World.drewN_drewN _ _ _⟩⟩
                  case measure => simp [intOf]; omega
              · have hde : d = 16 := by omega
                subst hde
                rw [HQ.out]
                have hKd := hK.drewN nq
                go_wp2_with (at_builtin; refine kn_pushI rfl _ _ rfl _ ds rfl rfl (hKd.al [.int .i64 (digV q)] 2) (by omega) ?_; intro v5 w6 hK9; obtain ⟨A5, c5, rfl⟩ := row_form hK9.at0; rw [show (ds ++ [digV q]).length = ds.length + 1 by simp] at hK9; clear a1 a2 a3 d1 d2 d3; obtain ⟨a1, a2, a3, d1, d2, d3, -⟩ := hK9.cells)
                go_roundw
                case rel => exact ⟨k - 1, _, by omega, by congr 1; omega, by rw [HDG.out, show (ds ++ [digV q]).length = ds.length + 1 by simp]; exact (hK9.sw1.st 1 _).sw1⟩
                case measure => simp [intOf]; omega
set_option maxRecDepth 100000 in
set_option maxHeartbeats 1600000 in
theorem specReadRegister_any (s : ByteArray) (w : World) (hs : s.size ≤ 1048576) :
    Calls Tryd.prog 197 #[.string s] w fun e w' => ∃ A c, e = .returned (.tuple #[.agg #[.int .i64 (rdReg (strB s)).base, .slice A (rdReg (strB s)).digits.length c], .bool (rdR (strB s)).isSome]) ∧ Kn w [rowI A c (rdReg (strB s)).digits] w' := by
  have HRD := Lib.hid (rdR_spec (strB s))
  have KS := fun W => l01Split_any s 58 W hs
  have e58 : (58 : UInt8).toNat = 58 := rfl
  rw [e58] at KS
  have KS := Lib.hid KS
  have hjoin : ∀ x ∈ splitB 58 (strB s), x.length ≤ 1048576 := by
    have h1 := splitB_each 58 (strB s)
    intro x hx
    have := h1 x hx; rw [strB_len] at this; omega
  go_enter Tryd.func197, Tryd.ntmps197
  go_wp2_with fail
  refine Calls.kn ((Kn.nil w).al [.int .i64 0, .slice none 0 0] 33) ?_; intro w1 hK1
  refine (KS.out w1).mono ?_; rintro e w2 ⟨A, c, ss, rfl, hss, hK⟩
  have hK2 := hK1.join hK
  have HSS := Lib.hid hss
  have HJ := Lib.hid hjoin
  clear hK hK1 hss hjoin e58
  obtain ⟨d1, d2, d3, -⟩ := hK2.cells
  have HNO : Hid (ss.length ≠ 2 → rdR (strB s) = none) := by
    intro h
    rw [HRD.out, ← HSS.out]
    match ss, h with
    | [], _ => rfl
    | [_], _ => rfl
    | [_, _], h => exact absurd rfl h
    | _ :: _ :: _ :: _, _ => rfl
  by_cases hl2 : ss.length = 2
  · have HYES : Hid (∃ x y, ss = [x, y]) := by
      match ss, hl2 with
      | [x, y], _ => exact ⟨x, y, rfl⟩
    obtain ⟨x, y, rfl⟩ := HYES.out
    obtain ⟨-, g, rfl, -, -, -⟩ := hK2.rowS_at (k := 0) (by simp)
    have hx : (strB x).length ≤ 1048576 := HJ.out _ (by rw [← HSS.out]; simp)
    have hy : (strB y).length ≤ 1048576 := HJ.out _ (by rw [← HSS.out]; simp)
    rw [strB_len] at hx hy
    have HRR : Hid (rdR (strB s) = if y.size ≤ 16 then (rdDec (strB x)).bind fun n => if vreg n ((strB y).reverse.map digV) then some ⟨n, (strB y).reverse.map digV⟩ else none else none) := by
      simp only [Hid]
      rw [HRD.out, ← HSS.out]
      simp only [List.map_cons, List.map_nil, strB_len]
    have s0 := hK2.rowS_get (k := 0) (by simp)
    have s1 := hK2.rowS_get (k := 1) (by simp)
    simp only [List.getElem_cons_zero, List.getElem_cons_succ] at s0 s1
    clear hl2
    by_cases h16 : y.size ≤ 16
    · have i16 : ¬ (16 : Int) < (y.size : Int) := by omega
      have HRR := Lib.hid (show rdR (strB s) = (rdDec (strB x)).bind fun n => if vreg n ((strB y).reverse.map digV) then some ⟨n, (strB y).reverse.map digV⟩ else none by rw [HRR.out, if_pos h16])
      have KN := Lib.hid (l01Number_any x w2 (by omega))
      obtain ⟨n, hn⟩ : ∃ n, rdN (strB x) = n := ⟨_, rfl⟩
      obtain ⟨ok, hok⟩ : ∃ b, (rdDec (strB x)).isSome = b := ⟨_, rfl⟩
      have KN := KN.out
      rw [hn, hok] at KN
      have KN := Lib.hid KN
      have HRS : Hid (rdR (strB s) = if ok && vreg n ((strB y).reverse.map digV) then some ⟨n, (strB y).reverse.map digV⟩ else none) := by
        simp only [Hid]; rw [HRR.out]
        cases hrd : rdDec (strB x) with
        | none => rw [hrd] at hok; subst hok; rfl
        | some q =>
          have h2 := (rd_some hrd).1
          rw [hrd] at hok
          subst hok
          rw [hn] at h2; subst h2; simp
      clear h16 hn hok
      go_wp2_with fail
      refine KN.out.mono ?_; rintro e w3 ⟨rfl, hw⟩
      have hK3 := hK2.keep hw
      clear hw d1 d2 d3 s0 s1
      have s1 := hK3.rowS_get (k := 1) (by simp)
      simp only [List.getElem_cons_zero, List.getElem_cons_succ] at s1
      go_wp2_with (first | (refine wpList.kn (hK3.al [.int .i64 0, .slice none 0 0] 33) ?_; intro w4 hK4; clear s1; have s1 := hK4.drop.rowS_get (k := 1) (by simp); simp only [List.getElem_cons_zero, List.getElem_cons_succ] at s1; obtain ⟨a1, a2, a3, -⟩ := hK4.cells) | (refine wpList.kn ((hK4.st 0 _).st 1 _) ?_; intro w5 hK5; clear s1; have s1 := hK5.drop.rowS_get (k := 1) (by simp); simp only [List.getElem_cons_zero, List.getElem_cons_succ] at s1; clear a1 a2 a3))
      have hK6 := hK5.nilRow 2 1
      clear hK3 hK4 hK5 hK2
      go_loopw [8] (fun ii wr => ∃ (k : Nat) (v : Value), k ≤ y.size ∧ ii = .int .i64 ((k : Int) - 1) ∧
        Kn w [.row v 2 1 (((strB y).drop k).reverse.map digV).length ((((strB y).drop k).reverse.map digV).map (Value.int .i64)), .blk w3.heap.size [.int .i64 n, v] 33, rowS (.slice (some ⟨g, 0, none⟩) 2 c) [x, y], .blk w.heap.size [.int .i64 0, .slice none 0 0] 33] wr) (fun i _ => (intOf i + 1).toNat)
      case atStart =>
        refine ⟨y.size, .slice none 0 0, Nat.le_refl _, rfl, ?_⟩
        rw [List.drop_of_length_le (by rw [strB_len]; omega)]
        exact hK6
      case round =>
        obtain ⟨k, v, hk, rfl, hK⟩ := hrel
        obtain ⟨wo, rfl⟩ : ∃ wo : World, wo = wr := ⟨_, rfl⟩
        clear hK6 s1
        obtain ⟨a1, a2, a3, d1, d2, d3, -⟩ := hK.cells
        have s1 := hK.drop.drop.rowS_get (k := 1) (by simp)
        simp only [List.getElem_cons_zero, List.getElem_cons_succ] at s1
        rcases Nat.eq_zero_or_pos k with hk0 | hk0
        · subst hk0
          rw [List.drop_zero] at hK
          obtain ⟨ds, hds⟩ : ∃ ds, (strB y).reverse.map digV = ds := ⟨_, rfl⟩
          have HRS := HRS.out
          rw [hds] at hK HRS
          have HRS := Lib.hid HRS
          obtain ⟨A, c, rfl⟩ := row_form hK.at0
          have hri := hK.ownI.ri
          have hdl : ds.length ≤ 1048576 := by rw [← hds]; simp [strB_len]; omega
          have hRM : RegM wo ⟨w3.heap.size, 0, none⟩ ⟨n, ds⟩ := ⟨A, c, ⟨by rw [a1]; rfl, by rw [a1]; rfl⟩, hri⟩
          have KV := fun b (hb : (⟨n, ds⟩ : Reg).ok = b) => l02Ok_reg ⟨w3.heap.size, 0, none⟩ ⟨n, ds⟩ wo hRM (by unfold SmallReg; simp only []; omega) b hb
          clear hds hri hRM
          cases ok with
          | false =>
            have HU := Lib.hid (rdr_none (bs := strB s) HRS.out)
            clear KV
            go_wp2_with fail
            refine bodyPost_ret (v := .tuple #[.agg #[.int .i64 0, .slice none 0 0], .bool false]) (by simp [results, Tryd.results197, go_sem, d1]) rfl ⟨none, 0, by rw [HU.out.1, HU.out.2]; rfl, ?_⟩
            rw [HU.out.1]
            exact ((hK.sw3.st 0 (.int .i64 0)).st 1 (.slice none 0 0)).bare.nilRow _ _
          | true =>
          rcases hv : vreg n ds with _ | _
          · have HU := Lib.hid (rdr_none (bs := strB s) (by rw [HRS.out, hv]; rfl))
            have KV := Lib.hid (KV _ hv)
            clear hv
            go_wp2_with fail
            refine KV.out.mono ?_; rintro e w7 ⟨rfl, m, rfl⟩
            have hK7 := hK.drewN m
            go_wp2_with fail
            refine bodyPost_ret (v := .tuple #[.agg #[.int .i64 0, .slice none 0 0], .bool false]) (by simp [results, Tryd.results197, go_sem, d1]) rfl ⟨none, 0, by rw [HU.out.1, HU.out.2]; rfl, ?_⟩
            rw [HU.out.1]
            exact ((hK7.sw3.st 0 (.int .i64 0)).st 1 (.slice none 0 0)).bare.nilRow _ _
          · have HU := Lib.hid (rdr_some (bs := strB s) (r := ⟨n, ds⟩) (by rw [HRS.out, hv]; rfl))
            have KV := Lib.hid (KV _ hv)
            clear hv
            go_wp2_with fail
            refine KV.out.mono ?_; rintro e w7 ⟨rfl, m, rfl⟩
            have hK7 := hK.drewN m
            go_wp2_with fail
            have hK8 := (hK7.sw3.st 0 (.int .i64 n)).st 1 (.slice A ds.length c)
            refine bodyPost_ret (v := .tuple #[.agg #[.int .i64 n, .slice A ds.length c], .bool true]) (by simp [results, Tryd.results197, go_sem, d1]) rfl ⟨A, c, by rw [HU.out.1, HU.out.2], ?_⟩
            rw [HU.out.1]
            exact hK8.drop.drop1.drop1
        · obtain ⟨q, hq⟩ : ∃ q : UInt8, y[k - 1] = q := ⟨_, rfl⟩
          obtain ⟨z, hz⟩ : ∃ z : Nat, q.toNat = z := ⟨_, rfl⟩
          have hz2 : z < 256 := by rw [← hz]; exact q.toNat_lt
          have hdr : (strB y).drop (k - 1) = q :: (strB y).drop k := by
            rw [List.drop_eq_getElem_cons (by rw [strB_len]; omega), ← strB_get y (by omega), hq, show k - 1 + 1 = k by omega]
          have HDG := Lib.hid (show ((strB y).drop (k - 1)).reverse.map digV = ((strB y).drop k).reverse.map digV ++ [digV q] by rw [hdr]; simp)
          have KD := Lib.hid (fun W => l02Digit_any z q hz W)
          have hi0 : (0 : Int) ≤ (k : Int) - 1 := by omega
          have hi1 : (k : Int) - 1 < (y.size : Int) := by omega
          have hin : ((k : Int) - 1).toNat = k - 1 := by omega
          have hlen : (((strB y).drop k).reverse.map digV).length ≤ 1048576 := by simp [strB_len]; omega
          obtain ⟨ds, hds⟩ : ∃ ds, ((strB y).drop k).reverse.map digV = ds := ⟨_, rfl⟩
          rw [hds] at hK hlen HDG
          clear hdr hds
          go_wp2_with fail
          go_region_law (first
            | (go_simp; go_at_call 212; refine (KD.out _).mono ?_; rintro e w' ⟨rfl, rfl⟩)
            | (refine kn_stepI rfl _ _ rfl _ ds rfl rfl ((hK.al [.int .i64 (digV q)] 2).drew) (by omega) ?_; intro v5 w6 hK9; obtain ⟨A5, c5, rfl⟩ := row_form hK9.at0; rw [show (ds ++ [digV q]).length = ds.length + 1 by simp] at hK9; clear a1 a2 a3 d1 d2 d3; obtain ⟨a1, a2, a3, d1, d2, d3, -⟩ := hK9.cells))
          all_goals
            go_wp2_with fail
            go_roundw
            case rel => exact ⟨k - 1, _, by omega, by congr 1; omega, by rw [HDG.out, show (ds ++ [digV q]).length = ds.length + 1 by simp]; exact (hK9.sw1.st 1 _).sw1⟩
            case measure => simp [intOf]; omega
    · have i16 : (16 : Int) < (y.size : Int) := by omega
      have HU := Lib.hid (rdr_none (bs := strB s) (by rw [HRR.out, if_neg h16]))
      clear h16
      go_wp2_with fail
      refine bodyPost_ret (v := .tuple #[.agg #[.int .i64 0, .slice none 0 0], .bool false]) (by simp [results, Tryd.results197, go_sem, d1]) rfl ⟨none, 0, by rw [HU.out.1, HU.out.2]; rfl, ?_⟩
      rw [HU.out.1]
      exact ((hK2.sw1.st 0 (.int .i64 0)).st 1 (.slice none 0 0)).bare.nilRow _ _
  · have HU := Lib.hid (rdr_none (bs := strB s) (HNO.out hl2))
    have k1 : ((ss.length : Int) != 2) = true := by rw [bne_iff_ne]; omega
    clear hl2
    go_wp2_with fail
    refine bodyPost_ret (v := .tuple #[.agg #[.int .i64 0, .slice none 0 0], .bool false]) (by simp [results, Tryd.results197, go_sem, d1]) rfl ⟨none, 0, by rw [HU.out.1, HU.out.2]; rfl, ?_⟩
    rw [HU.out.1]
    exact ((hK2.sw1.st 0 (.int .i64 0)).st 1 (.slice none 0 0)).bare.nilRow _ _
end Go.Proofs.YtlhcilmnfmglfaaDoor

namespace Go.Proofs.YtlhcilmnfmglfaaDoor
open Go.RowKit Go.Sort
theorem TriM.of_block {w : World} {g : Nat} {T : TypeId} {t : Tri} {A1 A2 A3 : Option Addr} {c1 c2 c3 : Nat}
    (hg : w.heap[g]? = some (.cells #[.int .i64 t.a.base, .slice A1 t.a.digits.length c1, .int .i64 t.b.base, .slice A2 t.b.digits.length c2, .int .i64 t.s.base, .slice A3 t.s.digits.length c3, .int .i64 t.carry] T (0, 0)))
    (r1 : RI w A1 t.a.digits.length t.a.digits) (r2 : RI w A2 t.b.digits.length t.b.digits) (r3 : RI w A3 t.s.digits.length t.s.digits) : TriM w ⟨g, 0, none⟩ t := by
  have hc : ∀ i v, #[Value.int .i64 t.a.base, .slice A1 t.a.digits.length c1, .int .i64 t.b.base, .slice A2 t.b.digits.length c2, .int .i64 t.s.base, .slice A3 t.s.digits.length c3, .int .i64 t.carry][i]? = some v → w.cell? ⟨g, i, none⟩ = some v := fun i v hv => by rw [cell_of_row w g i _ T (0, 0) hg]; exact hv
  exact ⟨⟨A1, c1, ⟨hc 0 _ rfl, hc 1 _ rfl⟩, r1⟩, ⟨A2, c2, ⟨hc 2 _ rfl, hc 3 _ rfl⟩, r2⟩, ⟨A3, c3, ⟨hc 4 _ rfl, hc 5 _ rfl⟩, r3⟩, hc 6 _ rfl⟩
theorem RL.one {w : World} {g : Nat} {t : Tri} (h : TriM w ⟨g, 0, none⟩ t) (hl : g < w.heap.size) : RL TriM 7 w (some ⟨g, 0, none⟩) 1 [t] :=
  ⟨rfl, fun _ => ⟨_, rfl, hl, fun k hk => by
    have : k = 0 := by simp at hk; omega
    subst this
    rw [Nat.zero_mul, addr_add_zero]; exact h⟩⟩
theorem RegisterText_reg (r : Reg) (A : Option Addr) (c : Nat) (w : World) (hr : RI w A r.digits.length r.digits) (hm : SmallReg r) (ht : TB w) :
    Calls Tryd.prog 95 #[.agg #[.int .i64 r.base, .slice A r.digits.length c]] w fun e w' => e = .returned (.string ⟨(rtext r).toArray⟩) ∧ Below w.heap.size w w' := RegisterText_any r.base A _ c r.digits w hr hm ht
def ttextL (t : Tri) : ByteArray := ((((((⟨(rtext t.a).toArray⟩ : ByteArray) ++ (⟨#[32, 43, 32]⟩ : ByteArray)) ++ (⟨(rtext t.b).toArray⟩ : ByteArray)) ++ (⟨#[32, 61, 32]⟩ : ByteArray)) ++ (⟨(rtext t.s).toArray⟩ : ByteArray)) ++ (⟨#[32]⟩ : ByteArray)) ++ (⟨(dec t.carry).toArray⟩ : ByteArray)
def ttext (t : Tri) : ByteArray := if vtrials [t] then ttextL t else ⟨#[]⟩
theorem rtext_len (r : Reg) : (rtext r).length ≤ 60 := by
  unfold rtext
  split
  · rename_i h
    obtain ⟨⟨hb1, hb2⟩, ⟨hl1, hl2⟩, -, -⟩ := vreg_iff.1 h
    have := dec_len r.base (by omega) (by omega)
    simp only [rtextL, List.length_append, List.length_map, List.length_reverse, List.length_cons, List.length_nil]; omega
  · simp
theorem vtrials_one {t : Tri} (h : vtrials [t] = true) : t.a.ok = true ∧ t.b.ok = true ∧ t.s.ok = true ∧ 0 ≤ t.carry ∧ t.carry ≤ 1 := by
  simp only [vtrials, List.all_cons, List.all_nil, Bool.and_true, Bool.and_eq_true, List.headD_cons, triGood, vlike] at h
  obtain ⟨⟨⟨⟨h1, h2⟩, h3⟩, h4⟩, -⟩ := h
  obtain ⟨h5, h6⟩ := betB_iff.1 h4
  exact ⟨h1.1.1, h2.1.1, h3.1.1, h5, h6⟩
set_option maxRecDepth 100000 in
set_option maxHeartbeats 1600000 in
theorem TrialText_any (t : Tri) (A1 A2 A3 : Option Addr) (c1 c2 c3 : Nat) (w : World) (r1 : RI w A1 t.a.digits.length t.a.digits) (r2 : RI w A2 t.b.digits.length t.b.digits) (r3 : RI w A3 t.s.digits.length t.s.digits) (hs : SmallTri t) (ht : TB w) :
    Calls Tryd.prog 28 #[.agg #[.int .i64 t.a.base, .slice A1 t.a.digits.length c1, .int .i64 t.b.base, .slice A2 t.b.digits.length c2, .int .i64 t.s.base, .slice A3 t.s.digits.length c3, .int .i64 t.carry]] w
      fun e w' => e = .returned (.string (ttext t)) ∧ Below w.heap.size w w' := by
  have hb0 : Below w.heap.size w ((w.alloc (.cells #[.int .i64 t.a.base, .slice A1 t.a.digits.length c1, .int .i64 t.b.base, .slice A2 t.b.digits.length c2, .int .i64 t.s.base, .slice A3 t.s.digits.length c3, .int .i64 t.carry] 61)).alloc (.cells #[.int .i64 t.a.base, .slice A1 t.a.digits.length c1, .int .i64 t.b.base, .slice A2 t.b.digits.length c2, .int .i64 t.s.base, .slice A3 t.s.digits.length c3, .int .i64 t.carry] 61)) := ((Below.refl _ _).alloc (Nat.le_refl _) _).alloc (by simp) _
  have hT := RL.one (g := w.heap.size + 1) (TriM.of_block (g := w.heap.size + 1) (t := t) (by rw [show w.heap.size + 1 = (w.alloc (.cells #[.int .i64 t.a.base, .slice A1 t.a.digits.length c1, .int .i64 t.b.base, .slice A2 t.b.digits.length c2, .int .i64 t.s.base, .slice A3 t.s.digits.length c3, .int .i64 t.carry] 61)).heap.size by simp]; exact heap_alloc_new _ _) (r1.below hb0) (r2.below hb0) (r3.below hb0)) (by simp)
  rcases hv : vtrials [t] with _ | _
  · have HF : Hid (ttext t = ⟨#[]⟩) := by simp [Hid, ttext, hv]
    go_enter Tryd.func28, Tryd.ntmps28
    go_wp2_with fail
    refine (ValidTrials_any _ _ _ [t] _ hT (by simpa using hs) (by omega)).mono ?_; rintro e w1 ⟨rfl, hw1⟩
    rw [hv]
    go_wp2_with fail
    go_ret
    exact ⟨ret_str HF.out.symm, hb0.trans (hw1.mono (by simp <;> omega))⟩
  · have HF : Hid (ttext t = ttextL t) := by simp [Hid, ttext, hv]
    obtain ⟨o1, o2, o3, y0, y1⟩ := vtrials_one hv
    have l1 := rtext_len t.a
    have l2 := rtext_len t.b
    have l3 := rtext_len t.s
    have l4 := dec_len t.carry (by omega) (by omega)
    go_enter Tryd.func28, Tryd.ntmps28
    go_wp2_with fail
    refine (ValidTrials_any _ _ _ [t] _ hT (by simpa using hs) (by omega)).mono ?_; rintro e w1 ⟨rfl, hw1⟩
    rw [hv]
    have hbw := hb0.trans (hw1.mono (by simp <;> omega))
    obtain ⟨hc, -⟩ := bcellB (B := w.heap.size + 1) (hw1.mono (by simp <;> omega))
    have x0 := cell_regrown (show w1.cell? ⟨w.heap.size, 0, none⟩ = some (.int .i64 t.a.base) by go_simp)
    have x1 := cell_regrown (show w1.cell? ⟨w.heap.size, 1, none⟩ = some (.slice A1 t.a.digits.length c1) by go_simp)
    have x2 := cell_regrown (show w1.cell? ⟨w.heap.size, 2, none⟩ = some (.int .i64 t.b.base) by go_simp)
    have x3 := cell_regrown (show w1.cell? ⟨w.heap.size, 3, none⟩ = some (.slice A2 t.b.digits.length c2) by go_simp)
    have x4 := cell_regrown (show w1.cell? ⟨w.heap.size, 4, none⟩ = some (.int .i64 t.s.base) by go_simp)
    have x5 := cell_regrown (show w1.cell? ⟨w.heap.size, 5, none⟩ = some (.slice A3 t.s.digits.length c3) by go_simp)
    have x6 := cell_regrown (show w1.cell? ⟨w.heap.size, 6, none⟩ = some (.int .i64 t.carry) by go_simp)
    have K1 := Lib.hid (fun (W : World) (hW : Below w1.heap.size w1 W) => RegisterText_reg t.a A1 c1 W ((r1.below hbw).below hW) hs.1 ((ht.below hbw).below hW))
    have K2 := Lib.hid (fun (W : World) (hW : Below w1.heap.size w1 W) => RegisterText_reg t.b A2 c2 W ((r2.below hbw).below hW) hs.2.1 ((ht.below hbw).below hW))
    have K3 := Lib.hid (fun (W : World) (hW : Below w1.heap.size w1 W) => RegisterText_reg t.s A3 c3 W ((r3.below hbw).below hW) hs.2.2 ((ht.below hbw).below hW))
    have K4 := Lib.hid (fun (W : World) (hW : Below w1.heap.size w1 W) => Decimal_any t.carry W (by omega) (by omega) ((ht.below hbw).below hW))
    clear hc hT
    go_wp2_with fail
    refine wp_region_quiet_below (by kernel_rfl) (by kernel_rfl) ?_
    repeat (go_big_quiet_step ((first | (go_at_call 95; first | (with_reducible exact quietB K1.out) | (with_reducible exact quietB K2.out) | (with_reducible exact quietB K3.out)) | (go_at_call 83; exact quietB K4.out))))
    refine wpQuiet_nil ?_
    intro _ hw'
    obtain ⟨⟨dq, osq⟩, hw''⟩ := hw'
    subst hw''
    go_wp2
    go_ret
    exact ⟨ret_str (by rw [HF.out]; rfl), hbw.trans ((below_regrown w1 dq osq).mono hbw.size)⟩
end Go.Proofs.YtlhcilmnfmglfaaDoor

namespace Go.Proofs.YtlhcilmnfmglfaaDoor
open Go.RowKit Go.Sort
def mtextL (t : Tri) : ByteArray := (((((((⟨(rtext t.a).toArray⟩ : ByteArray) ++ (⟨#[32]⟩ : ByteArray)) ++ (⟨(rtext t.b).toArray⟩ : ByteArray)) ++ (⟨#[32]⟩ : ByteArray)) ++ (⟨(rtext t.s).toArray⟩ : ByteArray)) ++ (⟨#[32]⟩ : ByteArray)) ++ (⟨(dec t.carry).toArray⟩ : ByteArray))
def mtext (t : Tri) : ByteArray := if vmach t then mtextL t else ⟨#[]⟩
theorem vmach_parts {t : Tri} (h : vmach t = true) : t.a.ok = true ∧ t.b.ok = true ∧ t.s.ok = true ∧ 0 ≤ t.carry ∧ t.carry ≤ 16 := by
  simp only [vmach, Bool.and_eq_true] at h
  obtain ⟨⟨⟨⟨h1, h2⟩, h3⟩, -⟩, -, h4⟩ := h
  obtain ⟨h5, h6⟩ := betB_iff.1 h4
  obtain ⟨-, -, p1⟩ := ok_bd h3
  exact ⟨h1, h2, h3, h5, by unfold vplaces at h6; omega⟩
set_option maxRecDepth 100000 in
set_option maxHeartbeats 1600000 in
theorem MachineText_any (t : Tri) (A1 A2 A3 : Option Addr) (c1 c2 c3 : Nat) (w : World) (r1 : RI w A1 t.a.digits.length t.a.digits) (r2 : RI w A2 t.b.digits.length t.b.digits) (r3 : RI w A3 t.s.digits.length t.s.digits) (hs : SmallTri t) (ht : TB w) :
    Calls Tryd.prog 205 #[.agg #[.int .i64 t.a.base, .slice A1 t.a.digits.length c1, .int .i64 t.b.base, .slice A2 t.b.digits.length c2, .int .i64 t.s.base, .slice A3 t.s.digits.length c3, .int .i64 t.carry]] w
      fun e w' => e = .returned (.string (mtext t)) ∧ Below w.heap.size w w' := by
  have hb0 : Below w.heap.size w (w.alloc (.cells #[.int .i64 t.a.base, .slice A1 t.a.digits.length c1, .int .i64 t.b.base, .slice A2 t.b.digits.length c2, .int .i64 t.s.base, .slice A3 t.s.digits.length c3, .int .i64 t.carry] 35)) := (Below.refl _ _).alloc (Nat.le_refl _) _
  rcases hv : vmach t with _ | _
  · have HF : Hid (mtext t = ⟨#[]⟩) := by simp [Hid, mtext, hv]
    go_enter Tryd.func205, Tryd.ntmps205
    go_wp2_with fail
    refine (ValidMachine_any t A1 A2 A3 c1 c2 c3 _ (r1.below hb0) (r2.below hb0) (r3.below hb0) hs).mono ?_; rintro e w1 ⟨rfl, hw1⟩
    rw [hv]
    go_wp2_with fail
    go_ret
    exact ⟨ret_str HF.out.symm, hb0.trans (hw1.mono (by simp <;> omega))⟩
  · have HF : Hid (mtext t = mtextL t) := by simp [Hid, mtext, hv]
    obtain ⟨o1, o2, o3, y0, y1⟩ := vmach_parts hv
    have l1 := rtext_len t.a
    have l2 := rtext_len t.b
    have l3 := rtext_len t.s
    have l4 := dec_len t.carry (by omega) (by omega)
    have hT0 : TriC (w.alloc (.cells #[.int .i64 t.a.base, .slice A1 t.a.digits.length c1, .int .i64 t.b.base, .slice A2 t.b.digits.length c2, .int .i64 t.s.base, .slice A3 t.s.digits.length c3, .int .i64 t.carry] 35)) ⟨w.heap.size, 0, none⟩ t A1 c1 A2 c2 A3 c3 := TriC.of_block (g := w.heap.size) (heap_alloc_new _ _) (r1.below hb0) (r2.below hb0) (r3.below hb0)
    go_enter Tryd.func205, Tryd.ntmps205
    go_wp2_with fail
    refine (ValidMachine_any t A1 A2 A3 c1 c2 c3 _ (r1.below hb0) (r2.below hb0) (r3.below hb0) hs).mono ?_; rintro e w1 ⟨rfl, hw1⟩
    rw [hv]
    have hbw := hb0.trans (hw1.mono (by simp <;> omega))
    have hT := hT0.below (by simp) hw1
    clear hT0
    obtain ⟨⟨g1, g2, g3, g4, g5, g6, g7⟩, q1, q2, q3⟩ := hT
    simp only [Nat.zero_add] at g1 g2 g3 g4 g5 g6 g7
    have x0 := cell_regrown g1
    have x1 := cell_regrown g2
    have x2 := cell_regrown g3
    have x3 := cell_regrown g4
    have x4 := cell_regrown g5
    have x5 := cell_regrown g6
    have x6 := cell_regrown g7
    have K1 := Lib.hid (fun (W : World) (hW : Below w1.heap.size w1 W) => RegisterText_reg t.a A1 c1 W (q1.below hW) hs.1 ((ht.below hbw).below hW))
    have K2 := Lib.hid (fun (W : World) (hW : Below w1.heap.size w1 W) => RegisterText_reg t.b A2 c2 W (q2.below hW) hs.2.1 ((ht.below hbw).below hW))
    have K3 := Lib.hid (fun (W : World) (hW : Below w1.heap.size w1 W) => RegisterText_reg t.s A3 c3 W (q3.below hW) hs.2.2 ((ht.below hbw).below hW))
    have K4 := Lib.hid (fun (W : World) (hW : Below w1.heap.size w1 W) => Decimal_any t.carry W (by omega) (by omega) ((ht.below hbw).below hW))
    go_wp2_with fail
    refine wp_region_quiet_below (by kernel_rfl) (by kernel_rfl) ?_
    repeat (go_big_quiet_step ((first | (go_at_call 95; first | (with_reducible exact quietB K1.out) | (with_reducible exact quietB K2.out) | (with_reducible exact quietB K3.out)) | (go_at_call 83; exact quietB K4.out))))
    refine wpQuiet_nil ?_
    intro _ hw'
    obtain ⟨⟨dq, osq⟩, hw''⟩ := hw'
    subst hw''
    go_wp2
    go_ret
    exact ⟨ret_str (by rw [HF.out]; rfl), hbw.trans ((below_regrown w1 dq osq).mono hbw.size)⟩
set_option maxRecDepth 100000 in
set_option maxHeartbeats 1600000 in
theorem l10Text_any (p : Addr) (t : Tri) (w : World) (hT : TriM w p t) (hlt : p.block < w.heap.size) (hv : vmach t = true) :
    Calls Tryd.prog 200 #[.pointer (some p)] w fun e w' => e = .returned (.string (mtextL t)) ∧ Below w.heap.size w w' := by
  obtain ⟨o1, o2, o3, y0, y1⟩ := vmach_parts hv
  have l1 := rtext_len t.a
  have l2 := rtext_len t.b
  have l3 := rtext_len t.s
  have l4 := dec_len t.carry (by omega) (by omega)
  have K1 := Lib.hid (fun (W : World) (hW : Below w.heap.size w W) => l02Text_any p t.a W (steady_RegM _ _ _ _ hlt hW hT.1) o1 (Nat.lt_of_lt_of_le hlt hW.size))
  have K2 := Lib.hid (fun (W : World) (hW : Below w.heap.size w W) => l02Text_any ⟨p.block, p.off + 2, none⟩ t.b W (steady_RegM _ _ _ _ hlt hW hT.2.1) o2 (Nat.lt_of_lt_of_le hlt hW.size))
  have K3 := Lib.hid (fun (W : World) (hW : Below w.heap.size w W) => l02Text_any ⟨p.block, p.off + 4, none⟩ t.s W (steady_RegM _ _ _ _ hlt hW hT.2.2.1) o3 (Nat.lt_of_lt_of_le hlt hW.size))
  have K4 := Lib.hid (fun (W : World) (_ : Below w.heap.size w W) => l01Dec_any t.carry W (by omega) (by omega))
  have x6 := cell_regrown hT.2.2.2
  clear hT
  go_enter Tryd.func200, Tryd.ntmps200
  go_wp2_with fail
  refine wp_region_quiet_below (by kernel_rfl) (by kernel_rfl) ?_
  repeat (go_big_quiet_step ((first | (go_at_call 218; first | (with_reducible exact quietB K1.out) | (with_reducible exact quietB K2.out) | (with_reducible exact quietB K3.out)) | (go_at_call 214; exact quietB K4.out))))
  refine wpQuiet_nil ?_
  intro _ hw'
  obtain ⟨⟨dq, osq⟩, hw''⟩ := hw'
  subst hw''
  go_wp2
  go_ret
  exact ⟨ret_str (by rfl), below_regrown w dq osq⟩
end Go.Proofs.YtlhcilmnfmglfaaDoor
