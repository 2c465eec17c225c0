/- Part 11: lemmas and contracts of the claim's functions. -/
import Derived.Test.YtkfbfainhmkkdaaZC1
import Derived.Test.YtkfbfainhmkkdaaZC2
import Derived.Test.YtkfbfainhmkkdaaZC3
import Derived.Test.YtkfbfainhmkkdaaZC4
import Derived.Test.YtkfbfainhmkkdaaZC5
import Derived.Test.YtkfbfainhmkkdaaZC6
import Derived.Test.YtkfbfainhmkkdaaZC7
import Derived.Test.YtkfbfainhmkkdaaZC8
import Derived.Test.YtkfbfainhmkkdaaZC9
import Derived.Test.YtkfbfainhmkkdaaZC10
namespace Go.Proofs.Ytkfbfainhmkkdaa
open Go.RowKit Go.Sort
set_option maxRecDepth 100000 in
set_option maxHeartbeats 800000 in
theorem text_dr {b N : Nat} {w0 w : World} {m : List Ent} {g : Nat} {T : TypeId} (ss : List ByteArray) (n : Nat) (hl : ss.length = n) (h : DR b N w0 (.blk g (ss.map Value.string) T :: m) w) (hN : N ≤ 900000) (h0 : 0 < n) :
    Calls Try.prog 149 #[.pointer (some ⟨b, 0, none⟩), .slice (some ⟨g, 0, none⟩) n n] w fun e w' => ∃ s : ByteArray, e = .returned (.string s) ∧ s ∈ ss ∧ DR b (N + 2) w0 (.blk g (ss.map Value.string) T :: m) w' := by
  have HL := Lib.hid hl
  clear hl
  go_enter Try.func149, Try.ntmps149
  go_wp2_with (go_at_call 74; refine (pick_dr b _ _ _ h.src (by omega)).mono ?_; rintro e w3 ⟨y, rfl, hy, hD⟩; have D3 : DR b _ w0 (.blk g (ss.map Value.string) T :: m) w3 := h.add hD; clear hD; obtain ⟨j, rfl⟩ : ∃ q : Nat, y = q := ⟨y.toNat, by omega⟩; have hj : j < n := (by omega); have hi0 : (0 : Int) ≤ (j : Int) := (by omega); have hi1 : (j : Int) < (n : Int) := (by omega); have hjl : j < ss.length := (by rw [HL.out]; exact hj); have hc : w3.cell? ⟨g, j, none⟩ = some (.string ss[j]) := (by obtain ⟨u, -, -, hK⟩ := D3; rw [hK.blkAt.1 j, List.getElem?_map, List.getElem?_eq_getElem hjl]; rfl))
  go_ret
  exact ⟨_, rfl, List.getElem_mem hjl, D3⟩
theorem ext_le (s : ByteArray) (i j : Nat) : (s.extract i j).size ≤ s.size := by rw [ByteArray.size_extract]; omega
set_option maxRecDepth 100000 in
set_option maxHeartbeats 1600000 in
theorem l01Spoil_dr (b N : Nat) (s : ByteArray) (w : World) (h : Src w b N) (hN : N ≤ 800000) (hs : s.size ≤ 20000) : Calls Try.prog 106 #[.pointer (some ⟨b, 0, none⟩), .string s] w (DStr b (N + 10) 20001 w) := by
  unfold DStr
  have D0 := DR.nil h
  clear h
  go_enter Try.func106, Try.ntmps106
  go_upto_region 2 with (go_at_call 74; refine (pick_dr b _ _ _ D0.src (by omega)).mono ?_; rintro e w1 ⟨x, rfl, hx, hD⟩; have D1 := D0.add hD; clear hD)
  by_cases x0 : x = 0
  · subst x0
    clear hx
    have w1' : IntKind.i64.wrap ((s.size : Int) + 1) = (s.size : Int) + 1 := wrapI (by omega)
    go_wp2_with (go_at_call 74; refine (pick_dr b _ _ _ D1.src (by omega)).mono ?_; rintro e w2 ⟨y, rfl, hy, hD⟩; have D2 := D1.add hD; clear hD; obtain ⟨j, rfl⟩ : ∃ q : Nat, y = q := ⟨y.toNat, by omega⟩; have hj : j ≤ s.size := (by omega); have hi0 : (0 : Int) ≤ (j : Int) := (by omega); have hi1 : (j : Int) ≤ (s.size : Int) := (by omega))
    have D3 := (D2.al [.string ⟨#[32]⟩, .string ⟨#[48]⟩, .string ⟨#[45]⟩, .string ⟨#[120]⟩, .string ⟨#[49]⟩, .string ⟨#[57]⟩, .string ⟨#[46]⟩] 9).drew
    go_region_held3 (fun _ => True) (first | trivial) (first
      | (go_at_call 149; go_loud (refine (text_dr [⟨#[32]⟩, ⟨#[48]⟩, ⟨#[45]⟩, ⟨#[120]⟩, ⟨#[49]⟩, ⟨#[57]⟩, ⟨#[46]⟩] 7 rfl D3 (by omega) (by omega)).mono ?_; rintro e w4 ⟨q, rfl, hq, D4⟩; have hqs : q.size = 1 := (by simp at hq; rcases hq with rfl | rfl | rfl | rfl | rfl | rfl | rfl <;> rfl); clear hq; have hc1 : ¬ 9223372036854775807 < min j s.size + 1 := (by omega); have hc2 : ¬ 9223372036854775807 < min j s.size + 1 + (s.size - j) := (by omega); have hc3 : ¬ 9223372036854775807 < j + 1 := (by omega); have hc4 : ¬ 9223372036854775807 < j + 1 + (s.size - j) := (by omega))))
    all_goals
      go_wp2_with fail
      go_ret
      exact ⟨_, rfl, by simp [ByteArray.size_append]; omega, D4.bare.mono (by omega)⟩
  by_cases x1 : x = 1
  · subst x1
    clear hx
    rcases he : s.toList.isEmpty with _ | _
    · have hpos : 0 < s.size := by
        rw [strB_toList] at he
        rw [← strB_len]
        rcases hl : strB s with _ | ⟨q, r⟩
        · rw [hl] at he; cases he
        · simp
      go_wp2_with (go_at_call 74; refine (pick_dr b _ _ _ D1.src (by omega)).mono ?_; rintro e w2 ⟨y, rfl, hy, hD⟩; have D2 := D1.add hD; clear hD; obtain ⟨j, rfl⟩ : ∃ q : Nat, y = q := ⟨y.toNat, by omega⟩; have hj : j < s.size := (by omega); have hi0 : (0 : Int) ≤ (j : Int) := (by omega); have hi1 : (j : Int) ≤ (s.size : Int) := (by omega); have hi2 : (j : Int) + 1 ≤ (s.size : Int) := (by omega); have hw : IntKind.i64.wrap ((j : Int) + 1) = (j : Int) + 1 := wrapI (by omega); have hi3 : (0 : Int) ≤ (j : Int) + 1 := (by omega); have hi4 : j + 1 ≤ s.size := (by omega); have hc1 : ¬ 9223372036854775807 < min j s.size + (s.size - (j + 1)) := (by omega); have hc2 : ¬ 9223372036854775807 < j + (s.size - (j + 1)) := (by omega))
      go_region_held3 (fun _ => True) (first | trivial) (first | fail)
      all_goals
        go_wp2_with fail
        go_ret
        exact ⟨_, rfl, by simp [ByteArray.size_append]; omega, D2.bare.drew.mono (by omega)⟩
    · go_wp2_with fail
      go_ret
      exact ⟨_, rfl, by omega, D1.bare.mono (by omega)⟩
  have z0 : (x == 0) = false := beq_eq_false_iff_ne.2 x0
  have z1 : (x == 1) = false := beq_eq_false_iff_ne.2 x1
  go_wp2_with fail
  go_ret
  exact ⟨_, rfl, by omega, D1.bare.mono (by omega)⟩
end Go.Proofs.Ytkfbfainhmkkdaa

namespace Go.Proofs.Ytkfbfainhmkkdaa
open Go.RowKit Go.Sort
def DrawsStr (w : World) (e : Ending) (w' : World) : Prop := ∃ s : ByteArray, e = .returned (.string s) ∧ s.size ≤ 50000 ∧ Below w.heap.size w w'
set_option maxRecDepth 100000 in
theorem DrawUnpackRegister_any (A : Option Addr) (n c : Nat) (bs : List UInt8) (w : World) (hb : RB w A n bs) (hn : n ≤ 9223372036854775807) :
    Calls Try.prog 40 #[.slice A n c] w (DrawsStr w) := by
  unfold DrawsStr
  have HB := Lib.hid (l00From_any A n c bs w hb hn)
  clear hb
  go_enter Try.func40, Try.ntmps40
  go_wp2_with fail
  refine HB.out.mono ?_; rintro e w2 ⟨rfl, hs, hb2⟩
  have KD := Lib.hid (l27Bytes_dr _ _ w2 0 (by omega) hs (by omega))
  unfold DStr at KD
  go_wp2_with fail
  refine KD.out.mono ?_; rintro e w3 ⟨s, rfl, hl, h3⟩
  have K3 := Kn.ofDR hb2 (Nat.le_refl _) h3
  clear KD h3 hs hb2
  go_wp2_with fail
  go_ret
  exact ⟨s, rfl, by omega, K3.below⟩
set_option maxRecDepth 100000 in
theorem DrawUnpackMachine_any (A : Option Addr) (n c : Nat) (bs : List UInt8) (w : World) (hb : RB w A n bs) (hn : n ≤ 9223372036854775807) :
    Calls Try.prog 42 #[.slice A n c] w (DrawsStr w) := by
  unfold DrawsStr
  have HB := Lib.hid (l00From_any A n c bs w hb hn)
  clear hb
  go_enter Try.func42, Try.ntmps42
  go_wp2_with fail
  refine HB.out.mono ?_; rintro e w2 ⟨rfl, hs, hb2⟩
  have KD := Lib.hid (l27Bytes_dr _ _ w2 1 (by omega) hs (by omega))
  unfold DStr at KD
  go_wp2_with fail
  refine KD.out.mono ?_; rintro e w3 ⟨s, rfl, hl, h3⟩
  have K3 := Kn.ofDR hb2 (Nat.le_refl _) h3
  clear KD h3 hs hb2
  go_wp2_with fail
  go_ret
  exact ⟨s, rfl, by omega, K3.below⟩
set_option maxRecDepth 100000 in
theorem DrawUnpackProgram_any (A : Option Addr) (n c : Nat) (bs : List UInt8) (w : World) (hb : RB w A n bs) (hn : n ≤ 9223372036854775807) :
    Calls Try.prog 44 #[.slice A n c] w (DrawsStr w) := by
  unfold DrawsStr
  have HB := Lib.hid (l00From_any A n c bs w hb hn)
  clear hb
  go_enter Try.func44, Try.ntmps44
  go_wp2_with fail
  refine HB.out.mono ?_; rintro e w2 ⟨rfl, hs, hb2⟩
  have KD := Lib.hid (l27Bytes_dr _ _ w2 2 (by omega) hs (by omega))
  unfold DStr at KD
  go_wp2_with fail
  refine KD.out.mono ?_; rintro e w3 ⟨s, rfl, hl, h3⟩
  have K3 := Kn.ofDR hb2 (Nat.le_refl _) h3
  clear KD h3 hs hb2
  go_wp2_with fail
  go_ret
  exact ⟨s, rfl, by omega, K3.below⟩
set_option maxRecDepth 100000 in
theorem DrawSumOfBytes_any (A : Option Addr) (n c : Nat) (bs : List UInt8) (w : World) (hb : RB w A n bs) (hn : n ≤ 9223372036854775807) :
    Calls Try.prog 105 #[.slice A n c] w (DrawsStr w) := by
  unfold DrawsStr
  have HB := Lib.hid (l00From_any A n c bs w hb hn)
  clear hb
  go_enter Try.func105, Try.ntmps105
  go_wp2_with fail
  refine HB.out.mono ?_; rintro e w2 ⟨rfl, hs, hb2⟩
  have D2 := DR.nil hs
  go_wp2_with fail
  refine (pick_dr _ _ 3 w2 D2.src (by omega)).mono ?_; rintro e w4 ⟨x, rfl, hx, hD⟩
  have D4 := D2.add hD
  have KD := Lib.hid (l27Bytes_dr _ _ w4 x hx.1 D4.src (by omega))
  unfold DStr at KD
  clear hD D2 hx
  go_wp2_with fail
  refine KD.out.mono ?_; rintro e w3 ⟨s, rfl, hl, h3⟩
  have K3 := Kn.ofDR hb2 (Nat.le_refl _) (D4.add h3)
  clear KD h3 hs hb2 D4
  go_wp2_with fail
  go_ret
  exact ⟨s, rfl, by omega, K3.below⟩
set_option maxRecDepth 100000 in
theorem DrawKindOfBytes_any (A : Option Addr) (n c : Nat) (bs : List UInt8) (w : World) (hb : RB w A n bs) (hn : n ≤ 9223372036854775807) :
    Calls Try.prog 46 #[.slice A n c] w (DrawsStr w) := by
  have HB := Lib.hid (DrawSumOfBytes_any A n c bs w hb hn)
  unfold DrawsStr at HB ⊢
  clear hb
  go_enter Try.func46, Try.ntmps46
  go_wp2_with fail
  refine HB.out.mono ?_; rintro e w2 ⟨s, rfl, hl, h2⟩
  go_wp2_with fail
  go_ret
  exact ⟨s, rfl, hl, h2⟩
set_option maxRecDepth 100000 in
theorem DrawReadHex_any (A : Option Addr) (n c : Nat) (bs : List UInt8) (w : World) (hb : RB w A n bs) (hn : n ≤ 9223372036854775807) :
    Calls Try.prog 47 #[.slice A n c] w (DrawsStr w) := by
  unfold DrawsStr
  have HB := Lib.hid (l00From_any A n c bs w hb hn)
  clear hb
  go_enter Try.func47, Try.ntmps47
  go_wp2_with fail
  refine HB.out.mono ?_; rintro e w2 ⟨rfl, hs, hb2⟩
  have D2 := DR.nil hs
  go_wp2_with fail
  refine (pick_dr _ _ 3 w2 D2.src (by omega)).mono ?_; rintro e w4 ⟨x, rfl, hx, hD⟩
  have D4 := D2.add hD
  have KD := Lib.hid (l27Bytes_dr _ _ w4 x hx.1 D4.src (by omega))
  unfold DStr at KD
  clear hD D2 hx
  go_wp2_with fail
  refine KD.out.mono ?_; rintro e w3 ⟨s, rfl, hl, h3⟩
  have D5 := D4.add h3
  clear KD h3 hs D4
  have KH := Lib.hid (specHexOf_any s w3 (by omega))
  obtain ⟨t, ht⟩ : ∃ t, (⟨(hexB (strB s)).toArray⟩ : ByteArray) = t := ⟨_, rfl⟩
  have htl : t.size ≤ 10002 := by rw [← ht, size_mk, hexB_len, strB_len]; omega
  rw [ht] at KH
  clear ht
  go_wp2_with fail
  refine KH.out.mono ?_; rintro e w5 ⟨rfl, hw5⟩
  have D6 := D5.keep hw5
  clear KH hw5 D5
  go_wp2_with fail
  refine (one_dr _ _ 2 w5 D6.src (by omega)).mono ?_; rintro e w6 ⟨yes, rfl, hD⟩
  have D7 := D6.add hD
  clear D6 hD
  rcases yes with _ | _
  · go_wp2_with fail
    go_ret
    exact ⟨t, rfl, by omega, (Kn.ofDR hb2 (Nat.le_refl _) D7).below⟩
  · have KS := Lib.hid (l01Spoil_dr _ _ t w6 D7.src (by omega) (by omega))
    unfold DStr at KS
    go_wp2_with fail
    refine KS.out.mono ?_; rintro e w7 ⟨u, rfl, hu, hD⟩
    have D8 := D7.add hD
    clear KS D7 hD
    go_wp2_with fail
    go_ret
    exact ⟨u, rfl, by omega, (Kn.ofDR hb2 (Nat.le_refl _) D8).below⟩
theorem specSumOfBytes_any (s : ByteArray) (w : World) (hs : s.size ≤ 140737488355328) : Calls Try.prog 52 #[.string s] w fun e w' => e = .returned (.int .i64 (sumB (strB s))) ∧ w = w' := by
  have K := Lib.hid (l27Sum_any s w hs)
  obtain ⟨q, hq⟩ : ∃ q, sumB (strB s) = q := ⟨_, rfl⟩
  rw [hq] at K ⊢
  clear hq
  go_enter Try.func52, Try.ntmps52
  go_wp2_with fail
  refine K.out.mono ?_; rintro e w2 ⟨rfl, rfl⟩
  go_wp2_with fail
  go_ret
  exact ⟨rfl, rfl⟩
end Go.Proofs.Ytkfbfainhmkkdaa

namespace Go.Proofs.Ytkfbfainhmkkdaa
open Go.RowKit Go.Sort
theorem strB_arr (bs : List UInt8) : strB ⟨bs.toArray⟩ = bs := strB_mk bs
/-- a packed register is read back -/
theorem unpackR_back {b : Int} {ds : List Int} (h : prC b ds = 0) (w : World) : Calls Try.prog 34 #[.string (prS b ds)] w fun e w' => ∃ A c, e = .returned (.tuple #[.agg #[.int .i64 b, .slice A ds.length c], .int .i64 0]) ∧ Kn w [rowI A c ds] w' := by
  have hv : vreg b ds = true := by
    cases hv : vreg b ds with
    | true => rfl
    | false => unfold prC at h; rw [hv] at h; simp at h
  have hs : prS b ds = ⟨(packR b ds).toArray⟩ := by unfold prS; rw [if_pos hv]
  have hl := packR_len hv
  rw [hs]
  refine (UnpackRegister_any ⟨(packR b ds).toArray⟩ w (by show (packR b ds).toArray.size ≤ 1048576; simp; omega)).mono ?_
  rintro e w' ⟨A, c, rfl, ho, hw⟩
  rw [strB_arr] at ho ⊢
  obtain ⟨e1, e2⟩ := unp_some (unpR_pack hv)
  rw [e1] at ho ⊢
  rw [e2]
  exact ⟨A, c, rfl, (Kn.nil w).addI hw ho⟩
theorem kindR_back {b : Int} {ds : List Int} (h : prC b ds = 0) (w : World) : Calls Try.prog 36 #[.string (prS b ds)] w fun e w' => e = .returned (.string ⟨#[114, 101, 103, 105, 115, 116, 101, 114]⟩) ∧ Below w.heap.size w w' := by
  have hv : vreg b ds = true := by
    cases hv : vreg b ds with
    | true => rfl
    | false => unfold prC at h; rw [hv] at h; simp at h
  have hs : prS b ds = ⟨(packR b ds).toArray⟩ := by unfold prS; rw [if_pos hv]
  have hl := packR_len hv
  rw [hs]
  have H := KindOfBytes_any ⟨(packR b ds).toArray⟩ w (by show (packR b ds).toArray.size ≤ 1048576; simp; omega)
  rw [strB_arr, kind_R hv] at H
  exact H
theorem unpackM_back {t : Tri} (h : pmC t = 0) (w : World) : Calls Try.prog 37 #[.string (pmS t)] w fun e w' => ∃ E1 f1 E2 f2 E3 f3, e = .returned (.tuple #[.agg #[.int .i64 t.a.base, .slice E1 t.a.digits.length f1, .int .i64 t.b.base, .slice E2 t.b.digits.length f2, .int .i64 t.s.base, .slice E3 t.s.digits.length f3, .int .i64 t.carry], .int .i64 0]) ∧ Kn w [rowI E3 f3 t.s.digits, rowI E2 f2 t.b.digits, rowI E1 f1 t.a.digits] w' := by
  have hv : vmach t = true := by
    cases hv : vmach t with
    | true => rfl
    | false => unfold pmC at h; rw [hv] at h; simp at h
  have hs : pmS t = ⟨(packM t).toArray⟩ := by unfold pmS; rw [if_pos hv]
  have hl := packM_len hv
  rw [hs]
  refine (UnpackMachine_any ⟨(packM t).toArray⟩ w (by show (packM t).toArray.size ≤ 1048576; simp; omega)).mono ?_
  rintro e w' ⟨E1, f1, E2, f2, E3, f3, rfl, hK⟩
  rw [strB_arr] at hK ⊢
  obtain ⟨e1, e2⟩ := unpM_some (unpM_pack hv)
  rw [e1] at hK ⊢
  rw [e2]
  exact ⟨E1, f1, E2, f2, E3, f3, rfl, hK⟩
theorem kindM_back {t : Tri} (h : pmC t = 0) (w : World) : Calls Try.prog 36 #[.string (pmS t)] w fun e w' => e = .returned (.string ⟨#[109, 97, 99, 104, 105, 110, 101]⟩) ∧ Below w.heap.size w w' := by
  have hv : vmach t = true := by
    cases hv : vmach t with
    | true => rfl
    | false => unfold pmC at h; rw [hv] at h; simp at h
  have hs : pmS t = ⟨(packM t).toArray⟩ := by unfold pmS; rw [if_pos hv]
  have hl := packM_len hv
  rw [hs]
  have H := KindOfBytes_any ⟨(packM t).toArray⟩ w (by show (packM t).toArray.size ≤ 1048576; simp; omega)
  rw [strB_arr, kind_M hv] at H
  exact H
theorem unpackP_back {xs : List Ins} (h : ppC xs = 0) (w : World) : Calls Try.prog 38 #[.string (ppS xs)] w fun e w' => ∃ A c, e = .returned (.tuple #[.slice A xs.length c, .int .i64 0]) ∧ Kn w [rowIns (.slice A xs.length c) xs] w' := by
  have hv : vprog xs = true := by
    cases hv : vprog xs with
    | true => rfl
    | false => unfold ppC at h; rw [hv] at h; simp at h
  have hs : ppS xs = ⟨(packP xs).toArray⟩ := by unfold ppS; rw [if_pos hv]
  have hl := packP_len hv
  rw [hs]
  refine (UnpackProgram_any ⟨(packP xs).toArray⟩ w (by show (packP xs).toArray.size ≤ 1048576; simp; omega)).mono ?_
  rintro e w' ⟨A, c, rfl, hK⟩
  rw [strB_arr] at hK ⊢
  obtain ⟨e1, e2⟩ := unpP_some (unpP_pack hv)
  rw [e1] at hK ⊢
  rw [e2]
  exact ⟨A, c, rfl, hK⟩
theorem kindP_back {xs : List Ins} (h : ppC xs = 0) (w : World) : Calls Try.prog 36 #[.string (ppS xs)] w fun e w' => e = .returned (.string ⟨#[112, 114, 111, 103, 114, 97, 109]⟩) ∧ Below w.heap.size w w' := by
  have hv : vprog xs = true := by
    cases hv : vprog xs with
    | true => rfl
    | false => unfold ppC at h; rw [hv] at h; simp at h
  have hs : ppS xs = ⟨(packP xs).toArray⟩ := by unfold ppS; rw [if_pos hv]
  have hl := packP_len hv
  rw [hs]
  have H := KindOfBytes_any ⟨(packP xs).toArray⟩ w (by show (packP xs).toArray.size ≤ 1048576; simp; omega)
  rw [strB_arr, kind_P hv] at H
  exact H
set_option maxRecDepth 100000 in
set_option maxHeartbeats 6400000 in
theorem law_Packed (A : Option Addr) (n c : Nat) (bs : List UInt8) (w : World) (hb : RB w A n bs) (hn : n ≤ 9223372036854775807) :
    Calls Try.prog 4 #[.slice A n c] w fun e w' => e = .returned (.bool true) ∧ Below w.heap.size w w' := by
  have KD := Lib.hid (DrawPackRegister_any A n c bs w hb hn)
  have KM := Lib.hid (fun W (hW : Below w.heap.size w W) => DrawPackMachine_any A n c bs W (hb.below hW) hn)
  have KP := Lib.hid (fun W (hW : Below w.heap.size w W) => DrawPackProgram_any A n c bs W (hb.below hW) hn)
  unfold DrawsReg at KD
  clear hb
  have KG := (fun W => f6bigP_any A n c W)
  obtain ⟨bg, hbg⟩ : ∃ b, decide ((n : Int) > 4096) = b := ⟨_, rfl⟩
  rw [hbg] at KG
  replace KG := Lib.hid KG
  clear hbg
  rcases bg with _ | _
  rotate_left
  · go_enter Try.func4, Try.ntmps4
    go_wp2_with (go_at_call 7; refine (KG.out _).mono ?_; rintro e w' ⟨rfl, hww⟩; obtain rfl := hww.symm)
    go_ret
    exact ⟨rfl, Below.refl _ _⟩
  go_enter Try.func4, Try.ntmps4
  go_wp2_with (go_at_call 7; refine (KG.out _).mono ?_; rintro e w' ⟨rfl, hww⟩; obtain rfl := hww.symm)
  refine KD.out.mono ?_; rintro e w1 ⟨b, RA, rc, ds, rfl, hdl, K1⟩
  clear KD
  have KA := (fun W hr => PackRegister_any b RA ds.length rc ds W hr (by omega))
  have KB := (fun W hr => specPackRegister_any b RA ds.length rc ds W hr (by omega))
  have U1 := Lib.hid (fun (h : prC b ds = 0) W => unpackR_back h W)
  have W1 := Lib.hid (fun (h : prC b ds = 0) W => kindR_back h W)
  unfold PKRet at KA KB
  obtain ⟨rs, hrs⟩ : ∃ v, prS b ds = v := ⟨_, rfl⟩
  obtain ⟨rz, hrz⟩ : ∃ v, prC b ds = v := ⟨_, rfl⟩
  simp only [hrs, hrz] at KA KB U1 W1
  have KA := Lib.hid KA
  have KB := Lib.hid KB
  clear hrs hrz
  obtain ⟨g, hg⟩ : ∃ g, w1.heap.size = g := ⟨_, rfl⟩
  go_wp2_with fail
  refine Calls.kn (K1.al [.int .i64 b, .slice RA ds.length rc] 26) ?_; intro w2 K2
  rw [hg] at K2
  try rw [hg]
  clear K1 hg
  refine (KA.out _ (K2.front 1 rfl).riv).mono ?_; rintro e w3 ⟨rfl, hw⟩
  have K3 := K2.keep hw
  clear K2 hw KA
  obtain ⟨a1, a2, a3, -⟩ := K3.cells
  go_wp2_with fail
  refine (KB.out _ (K3.front 1 rfl).riv).mono ?_; rintro e w4 ⟨rfl, hw⟩
  have K4 := K3.keep hw
  clear K3 hw KB a1 a2 a3
  go_wp2_with fail
  refine (KM.out _ K4.below).mono ?_; rintro e w5 ⟨t, A1, c1, A2, c2, A3, c3, rfl, htl, hK⟩
  have K5 := K4.join hK
  clear K4 hK KM
  have hs : SmallTri t := ⟨by unfold SmallReg; omega, by unfold SmallReg; omega, by unfold SmallReg; omega⟩
  have KA := (fun W r1 r2 r3 => PackMachine_any t A1 A2 A3 c1 c2 c3 W r1 r2 r3 hs)
  have KB := (fun W r1 r2 r3 => specPackMachine_any t A1 A2 A3 c1 c2 c3 W r1 r2 r3 hs)
  have U2 := Lib.hid (fun (h : pmC t = 0) W => unpackM_back h W)
  have W2 := Lib.hid (fun (h : pmC t = 0) W => kindM_back h W)
  unfold PKRet at KA KB
  obtain ⟨ms, hms⟩ : ∃ v, pmS t = v := ⟨_, rfl⟩
  obtain ⟨mz, hmz⟩ : ∃ v, pmC t = v := ⟨_, rfl⟩
  simp only [hms, hmz] at KA KB U2 W2
  have KA := Lib.hid KA
  have KB := Lib.hid KB
  clear hms hmz hs htl
  obtain ⟨g2, hg2⟩ : ∃ g, w5.heap.size = g := ⟨_, rfl⟩
  go_wp2_with fail
  refine Calls.kn (K5.al [.int .i64 t.a.base, .slice A1 t.a.digits.length c1, .int .i64 t.b.base, .slice A2 t.b.digits.length c2, .int .i64 t.s.base, .slice A3 t.s.digits.length c3, .int .i64 t.carry] 28) ?_; intro w6 K6
  rw [hg2] at K6
  try rw [hg2]
  clear K5 hg2
  refine (KA.out _ (K6.front 3 rfl).riv (K6.front 2 rfl).riv (K6.front 1 rfl).riv).mono ?_; rintro e w7 ⟨rfl, hw⟩
  have K7 := K6.keep hw
  clear K6 hw KA
  obtain ⟨a1, a2, a3, -⟩ := K7.cells
  go_wp2_with fail
  refine (KB.out _ (K7.front 3 rfl).riv (K7.front 2 rfl).riv (K7.front 1 rfl).riv).mono ?_; rintro e w8 ⟨rfl, hw⟩
  have K8 := K7.keep hw
  clear K7 hw KB a1 a2 a3
  go_wp2_with fail
  refine (KP.out _ K8.below).mono ?_; rintro e w9 ⟨PB, pd, xs, rfl, hxl, hK⟩
  have K9 := K8.join hK
  clear K8 hK KP
  have KA := (fun W hr => PackProgram_any PB xs.length pd xs W hr (by omega))
  have KB := (fun W hr => specPackProgram_any PB xs.length pd xs W hr (by omega))
  have U3 := Lib.hid (fun (h : ppC xs = 0) W => unpackP_back h W)
  have W3 := Lib.hid (fun (h : ppC xs = 0) W => kindP_back h W)
  unfold PKRet at KA KB
  obtain ⟨ps, hps⟩ : ∃ v, ppS xs = v := ⟨_, rfl⟩
  obtain ⟨pz, hpz⟩ : ∃ v, ppC xs = v := ⟨_, rfl⟩
  simp only [hps, hpz] at KA KB U3 W3
  have KA := Lib.hid KA
  have KB := Lib.hid KB
  clear hps hpz
  go_wp2_with fail
  refine (KA.out _ (Kn.rlIns K9).2).mono ?_; rintro e w10 ⟨rfl, hw⟩
  have K10 := K9.keep hw
  clear K9 hw KA
  go_wp2_with fail
  refine (KB.out _ (Kn.rlIns K10).2).mono ?_; rintro e w11 ⟨rfl, hw⟩
  have K11 := K10.keep hw
  clear K10 hw KB
  go_upto_region 14 with fail
  by_cases hr : rz = 0
  · have KU := Lib.hid (U1.out hr)
    have KK := Lib.hid (W1.out hr)
    clear U1 W1
    subst hr
    go_wp2_with fail
    refine (KU.out _).mono ?_; rintro e w21 ⟨XA, xc, rfl, hK⟩
    have K21 := K11.join hK
    clear KU hK K11
    obtain ⟨g3, hg3⟩ : ∃ g, w21.heap.size = g := ⟨_, rfl⟩
    go_upto_region 16 with fail
    refine Code.wp.kn (K21.al [.int .i64 b, .slice XA ds.length xc] 26) ?_; intro w22 K22
    rw [hg3] at K22
    try rw [hg3]
    clear K21 hg3
    obtain ⟨a1, a2, a3, -⟩ := K22.cells
    obtain ⟨b1, b2, b3, -⟩ := (K22.front 7 rfl).cells
    go_wp2_with fail
    refine (specSameRegister_same b XA RA xc rc ds _ (K22.front 1 rfl).riv (K22.front 8 rfl).riv (by omega)).mono ?_; rintro e w23 ⟨rfl, hw⟩
    have K23 := (K22.keep hw).sel [3, 4, 5, 6, 2] 99 (by decide) (by decide)
    clear K22 hw a1 a2 a3 b1 b2 b3
    go_wp2_with fail
    refine (KK.out _).mono ?_; rintro e w24 ⟨rfl, hw⟩
    have K24 := K23.keep hw
    clear K23 hw KK
    go_upto_region 18 with fail
    by_cases hm : mz = 0
    · have KU := Lib.hid (U2.out hm)
      have KK := Lib.hid (W2.out hm)
      clear U2 W2
      subst hm
      go_wp2_with fail
      refine (KU.out _).mono ?_; rintro e w31 ⟨E1, f1, E2, f2, E3, f3, rfl, hK⟩
      have K31 := (K24).join hK
      clear KU hK
      obtain ⟨g3, hg3⟩ : ∃ g, w31.heap.size = g := ⟨_, rfl⟩
      have hsm : SmallTri t := ⟨Kn.rowSmall (K31.front 2 rfl), Kn.rowSmall (K31.front 1 rfl), Kn.rowSmall (K31.front 0 rfl)⟩
      go_upto_region 20 with fail
      refine Code.wp.kn (K31.al [.int .i64 t.a.base, .slice E1 t.a.digits.length f1, .int .i64 t.b.base, .slice E2 t.b.digits.length f2, .int .i64 t.s.base, .slice E3 t.s.digits.length f3, .int .i64 t.carry] 28) ?_; intro w32 K32
      rw [hg3] at K32
      try rw [hg3]
      clear K31 hg3
      obtain ⟨a1, a2, a3, -⟩ := K32.cells
      obtain ⟨b1, b2, b3, -⟩ := (K32.front 4 rfl).cells
      go_wp2_with fail
      have hsame := specSameMachine_any t t E1 E2 E3 A1 A2 A3 f1 f2 f3 c1 c2 c3 _ (K32.front 3 rfl).riv (K32.front 2 rfl).riv (K32.front 1 rfl).riv (K32.front 7 rfl).riv (K32.front 6 rfl).riv (K32.front 5 rfl).riv hsm hsm
      rw [sameM_refl] at hsame
      refine hsame.mono ?_; rintro e w33 ⟨rfl, hw⟩
      have K33 := (K32.keep hw).sel [8] 99 (by decide) (by decide)
      clear K32 hw hsame hsm a1 a2 a3 b1 b2 b3
      go_wp2_with fail
      refine (KK.out _).mono ?_; rintro e w34 ⟨rfl, hw⟩
      have K34 := K33.keep hw
      clear K33 hw KK
      go_upto_region 22 with fail
      by_cases hz : pz = 0
      · have KU := Lib.hid (U3.out hz)
        have KK := Lib.hid (W3.out hz)
        clear U3 W3
        subst hz
        go_wp2_with fail
        refine (KU.out _).mono ?_; rintro e w41 ⟨XA, xc, rfl, hK⟩
        have K41 := (K34).join hK
        clear KU hK
        go_wp2_with fail
        have i1 := (Kn.rlIns (K41.front 0 rfl)).2
        have i2 := (Kn.rlIns (K41.front 1 rfl)).2
        refine (f6instrs_same XA PB xs.length xc pd xs w41 i1 i2 (by omega)).mono ?_; rintro e w42 ⟨rfl, hw⟩
        have K42 := K41.keep hw
        clear K41 hw i1 i2
        go_wp2_with fail
        refine (KK.out _).mono ?_; rintro e w43 ⟨rfl, hw⟩
        have K43 := K42.keep hw
        clear K42 hw KK
        go_wp2_with fail
        go_ret
        exact ⟨rfl, K43.below⟩
      · have hz1 : (pz == 0) = false := by simpa using hz
        clear U3 W3
        go_wp2_with fail
        go_ret
        exact ⟨rfl, (K34).below⟩
    · have hm1 : (mz == 0) = false := by simpa using hm
      have K34 := (K24).sel [4] 99 (by decide) (by decide)
      clear U2 W2
      go_upto_region 22 with fail
      by_cases hz : pz = 0
      · have KU := Lib.hid (U3.out hz)
        have KK := Lib.hid (W3.out hz)
        clear U3 W3
        subst hz
        go_wp2_with fail
        refine (KU.out _).mono ?_; rintro e w41 ⟨XA, xc, rfl, hK⟩
        have K41 := (K34).join hK
        clear KU hK
        go_wp2_with fail
        have i1 := (Kn.rlIns (K41.front 0 rfl)).2
        have i2 := (Kn.rlIns (K41.front 1 rfl)).2
        refine (f6instrs_same XA PB xs.length xc pd xs w41 i1 i2 (by omega)).mono ?_; rintro e w42 ⟨rfl, hw⟩
        have K42 := K41.keep hw
        clear K41 hw i1 i2
        go_wp2_with fail
        refine (KK.out _).mono ?_; rintro e w43 ⟨rfl, hw⟩
        have K43 := K42.keep hw
        clear K42 hw KK
        go_wp2_with fail
        go_ret
        exact ⟨rfl, K43.below⟩
      · have hz1 : (pz == 0) = false := by simpa using hz
        clear U3 W3
        go_wp2_with fail
        go_ret
        exact ⟨rfl, (K34).below⟩
  · have hr1 : (rz == 0) = false := by simpa using hr
    have K24 := K11.sel [1, 2, 3, 4, 0] 99 (by decide) (by decide)
    clear U1 W1 K11
    go_upto_region 18 with fail
    by_cases hm : mz = 0
    · have KU := Lib.hid (U2.out hm)
      have KK := Lib.hid (W2.out hm)
      clear U2 W2
      subst hm
      go_wp2_with fail
      refine (KU.out _).mono ?_; rintro e w31 ⟨E1, f1, E2, f2, E3, f3, rfl, hK⟩
      have K31 := (K24).join hK
      clear KU hK
      obtain ⟨g3, hg3⟩ : ∃ g, w31.heap.size = g := ⟨_, rfl⟩
      have hsm : SmallTri t := ⟨Kn.rowSmall (K31.front 2 rfl), Kn.rowSmall (K31.front 1 rfl), Kn.rowSmall (K31.front 0 rfl)⟩
      go_upto_region 20 with fail
      refine Code.wp.kn (K31.al [.int .i64 t.a.base, .slice E1 t.a.digits.length f1, .int .i64 t.b.base, .slice E2 t.b.digits.length f2, .int .i64 t.s.base, .slice E3 t.s.digits.length f3, .int .i64 t.carry] 28) ?_; intro w32 K32
      rw [hg3] at K32
      try rw [hg3]
      clear K31 hg3
      obtain ⟨a1, a2, a3, -⟩ := K32.cells
      obtain ⟨b1, b2, b3, -⟩ := (K32.front 4 rfl).cells
      go_wp2_with fail
      have hsame := specSameMachine_any t t E1 E2 E3 A1 A2 A3 f1 f2 f3 c1 c2 c3 _ (K32.front 3 rfl).riv (K32.front 2 rfl).riv (K32.front 1 rfl).riv (K32.front 7 rfl).riv (K32.front 6 rfl).riv (K32.front 5 rfl).riv hsm hsm
      rw [sameM_refl] at hsame
      refine hsame.mono ?_; rintro e w33 ⟨rfl, hw⟩
      have K33 := (K32.keep hw).sel [8] 99 (by decide) (by decide)
      clear K32 hw hsame hsm a1 a2 a3 b1 b2 b3
      go_wp2_with fail
      refine (KK.out _).mono ?_; rintro e w34 ⟨rfl, hw⟩
      have K34 := K33.keep hw
      clear K33 hw KK
      go_upto_region 22 with fail
      by_cases hz : pz = 0
      · have KU := Lib.hid (U3.out hz)
        have KK := Lib.hid (W3.out hz)
        clear U3 W3
        subst hz
        go_wp2_with fail
        refine (KU.out _).mono ?_; rintro e w41 ⟨XA, xc, rfl, hK⟩
        have K41 := (K34).join hK
        clear KU hK
        go_wp2_with fail
        have i1 := (Kn.rlIns (K41.front 0 rfl)).2
        have i2 := (Kn.rlIns (K41.front 1 rfl)).2
        refine (f6instrs_same XA PB xs.length xc pd xs w41 i1 i2 (by omega)).mono ?_; rintro e w42 ⟨rfl, hw⟩
        have K42 := K41.keep hw
        clear K41 hw i1 i2
        go_wp2_with fail
        refine (KK.out _).mono ?_; rintro e w43 ⟨rfl, hw⟩
        have K43 := K42.keep hw
        clear K42 hw KK
        go_wp2_with fail
        go_ret
        exact ⟨rfl, K43.below⟩
      · have hz1 : (pz == 0) = false := by simpa using hz
        clear U3 W3
        go_wp2_with fail
        go_ret
        exact ⟨rfl, (K34).below⟩
    · have hm1 : (mz == 0) = false := by simpa using hm
      have K34 := (K24).sel [4] 99 (by decide) (by decide)
      clear U2 W2
      go_upto_region 22 with fail
      by_cases hz : pz = 0
      · have KU := Lib.hid (U3.out hz)
        have KK := Lib.hid (W3.out hz)
        clear U3 W3
        subst hz
        go_wp2_with fail
        refine (KU.out _).mono ?_; rintro e w41 ⟨XA, xc, rfl, hK⟩
        have K41 := (K34).join hK
        clear KU hK
        go_wp2_with fail
        have i1 := (Kn.rlIns (K41.front 0 rfl)).2
        have i2 := (Kn.rlIns (K41.front 1 rfl)).2
        refine (f6instrs_same XA PB xs.length xc pd xs w41 i1 i2 (by omega)).mono ?_; rintro e w42 ⟨rfl, hw⟩
        have K42 := K41.keep hw
        clear K41 hw i1 i2
        go_wp2_with fail
        refine (KK.out _).mono ?_; rintro e w43 ⟨rfl, hw⟩
        have K43 := K42.keep hw
        clear K42 hw KK
        go_wp2_with fail
        go_ret
        exact ⟨rfl, K43.below⟩
      · have hz1 : (pz == 0) = false := by simpa using hz
        clear U3 W3
        go_wp2_with fail
        go_ret
        exact ⟨rfl, (K34).below⟩
end Go.Proofs.Ytkfbfainhmkkdaa

namespace Go.Proofs.Ytkfbfainhmkkdaa
open Go.RowKit Go.Sort
theorem str_back (s : ByteArray) : (⟨(strB s).toArray⟩ : ByteArray) = s := by cases s; simp [strB]
theorem unpR_back {bs : List UInt8} {r : Reg} (h : unpR bs = some r) : vreg r.base r.digits = true ∧ packR r.base r.digits = bs := by
  cases bs with
  | nil => cases h
  | cons b tl =>
    simp only [unpR] at h
    split at h
    · rename_i hc
      injection h with h
      subst h
      simp only [Bool.and_eq_true, decide_eq_true_eq] at hc
      exact ⟨hc.1.2, hc.2⟩
    · cases h
theorem unpM_back {bs : List UInt8} {t : Tri} (h : unpM bs = some t) : vmach t = true ∧ packM t = bs := by
  unfold unpM at h
  split at h
  · split at h
    · rename_i hc
      injection h with h
      subst h
      simp only [Bool.and_eq_true, decide_eq_true_eq] at hc
      exact hc
    · cases h
  · cases h
theorem unpReg_len (bs : List UInt8) : (unpReg bs).digits.length ≤ 16 := by
  cases h : unpR bs with
  | none => rw [(unp_none h).1]; simp
  | some r =>
    rw [(unp_some h).1]
    obtain ⟨-, ⟨-, n2⟩, -⟩ := vreg_iff.1 (unpR_back h).1
    omega
theorem unpProg_len (bs : List UInt8) : (unpProg bs).length ≤ 120 := by
  cases h : unpP bs with
  | none => rw [(unpP_none h).1]; simp
  | some r =>
    rw [(unpP_some h).1]
    exact (vprog_each ((unpP_iff bs r).1 h).1).1
theorem packR_again (s : ByteArray) (h : unpCode (strB s) = 0) (A : Option Addr) (c : Nat) (W : World) (hr : RI W A (unpReg (strB s)).digits.length (unpReg (strB s)).digits) :
    Calls Try.prog 26 #[.agg #[.int .i64 (unpReg (strB s)).base, .slice A (unpReg (strB s)).digits.length c]] W fun e w' => e = .returned (.tuple #[.string s, .int .i64 0]) ∧ Below W.heap.size W w' := by
  cases hu : unpR (strB s) with
  | none => rw [(unp_none hu).2] at h; cases h
  | some r =>
    obtain ⟨e1, -⟩ := unp_some hu
    obtain ⟨hv, hp⟩ := unpR_back hu
    have hl := unpReg_len (strB s)
    rw [e1] at hr hl ⊢
    have H := PackRegister_any r.base A r.digits.length c r.digits W hr (by omega)
    unfold PKRet prS prC at H
    rw [if_pos hv, if_pos hv, hp, str_back] at H
    exact H
theorem packM_again (s : ByteArray) (h : unpMCode (strB s) = 0) (t : Tri) (ht : unpMach (strB s) = t) (A1 A2 A3 : Option Addr) (c1 c2 c3 : Nat) (W : World) (r1 : RI W A1 t.a.digits.length t.a.digits) (r2 : RI W A2 t.b.digits.length t.b.digits) (r3 : RI W A3 t.s.digits.length t.s.digits) (hs : SmallTri t) :
    Calls Try.prog 29 #[.agg #[.int .i64 t.a.base, .slice A1 t.a.digits.length c1, .int .i64 t.b.base, .slice A2 t.b.digits.length c2, .int .i64 t.s.base, .slice A3 t.s.digits.length c3, .int .i64 t.carry]] W fun e w' => e = .returned (.tuple #[.string s, .int .i64 0]) ∧ Below W.heap.size W w' := by
  cases hu : unpM (strB s) with
  | none => rw [(unpM_none hu).2] at h; cases h
  | some r =>
    obtain ⟨e1, -⟩ := unpM_some hu
    rw [e1] at ht
    subst ht
    obtain ⟨hv, hp⟩ := unpM_back hu
    have H := PackMachine_any r A1 A2 A3 c1 c2 c3 W r1 r2 r3 hs
    unfold PKRet pmS pmC at H
    rw [if_pos hv, if_pos hv, hp, str_back] at H
    exact H
theorem packP_again (s : ByteArray) (h : unpPCode (strB s) = 0) (A : Option Addr) (c : Nat) (W : World) (hr : RL InsM 2 W A (unpProg (strB s)).length (unpProg (strB s))) :
    Calls Try.prog 32 #[.slice A (unpProg (strB s)).length c] W fun e w' => e = .returned (.tuple #[.string s, .int .i64 0]) ∧ Below W.heap.size W w' := by
  cases hu : unpP (strB s) with
  | none => rw [(unpP_none hu).2] at h; cases h
  | some r =>
    obtain ⟨e1, -⟩ := unpP_some hu
    obtain ⟨hv, hp⟩ := (unpP_iff _ r).1 hu
    have hl := unpProg_len (strB s)
    rw [e1] at hr hl ⊢
    have H := PackProgram_any A r.length c r W hr (by omega)
    unfold PKRet ppS ppC at H
    rw [if_pos hv, if_pos hv, hp, str_back] at H
    exact H
theorem rh_hex (s : ByteArray) : rhV ⟨(hexB (strB s)).toArray⟩ = s ∧ rhOk ⟨(hexB (strB s)).toArray⟩ = true := by
  obtain ⟨h1, h2⟩ := rh_some (s := ⟨(hexB (strB s)).toArray⟩) (l := strB s) (by rw [strB_mk, unhex_hex])
  exact ⟨h1.trans (str_back s), h2⟩
set_option maxRecDepth 100000 in
set_option maxHeartbeats 6400000 in
theorem law_Unpacked (A : Option Addr) (n c : Nat) (bs : List UInt8) (w : World) (hb : RB w A n bs) (hn : n ≤ 9223372036854775807) :
    Calls Try.prog 5 #[.slice A n c] w fun e w' => e = .returned (.bool true) ∧ Below w.heap.size w w' := by
  have KD1 := Lib.hid (DrawUnpackRegister_any A n c bs w hb hn)
  have KD2 := Lib.hid (fun W (hW : Below w.heap.size w W) => DrawUnpackMachine_any A n c bs W (hb.below hW) hn)
  have KD3 := Lib.hid (fun W (hW : Below w.heap.size w W) => DrawUnpackProgram_any A n c bs W (hb.below hW) hn)
  have KD4 := Lib.hid (fun W (hW : Below w.heap.size w W) => DrawKindOfBytes_any A n c bs W (hb.below hW) hn)
  have KD5 := Lib.hid (fun W (hW : Below w.heap.size w W) => DrawReadHex_any A n c bs W (hb.below hW) hn)
  unfold DrawsStr at KD1 KD2 KD3 KD4 KD5
  clear hb
  have KG := (fun W => f6bigP_any A n c W)
  obtain ⟨bg, hbg⟩ : ∃ b, decide ((n : Int) > 4096) = b := ⟨_, rfl⟩
  rw [hbg] at KG
  replace KG := Lib.hid KG
  clear hbg
  rcases bg with _ | _
  rotate_left
  · go_enter Try.func5, Try.ntmps5
    go_wp2_with (go_at_call 7; refine (KG.out _).mono ?_; rintro e w' ⟨rfl, hww⟩; obtain rfl := hww.symm)
    go_ret
    exact ⟨rfl, Below.refl _ _⟩
  go_enter Try.func5, Try.ntmps5
  go_wp2_with (go_at_call 7; refine (KG.out _).mono ?_; rintro e w' ⟨rfl, hww⟩; obtain rfl := hww.symm)
  refine KD1.out.mono ?_; rintro e w1 ⟨s1, rfl, hl1, hw⟩
  have K1 := (Kn.nil w).keep hw
  clear KD1 hw KG
  have KA := (fun W => UnpackRegister_any s1 W (by omega))
  have KB := (fun W => specUnpackRegister_any s1 W (by omega))
  have U1 := (fun (h : unpCode (strB s1) = 0) A c W hr => packR_again s1 h A c W hr)
  have hdl := unpReg_len (strB s1)
  obtain ⟨b, hbb⟩ : ∃ v, (unpReg (strB s1)).base = v := ⟨_, rfl⟩
  obtain ⟨ds, hds⟩ : ∃ v, (unpReg (strB s1)).digits = v := ⟨_, rfl⟩
  obtain ⟨rz, hrz⟩ : ∃ v, unpCode (strB s1) = v := ⟨_, rfl⟩
  simp only [hbb, hds, hrz] at KA KB U1 hdl
  replace KA := Lib.hid KA
  replace KB := Lib.hid KB
  replace U1 := Lib.hid U1
  clear hbb hds hrz
  go_upto_region 5 with (go_at_call 34; refine (KA.out _).mono ?_; rintro e w2 ⟨RA, rc, rfl, ho, hw⟩; have K2 : Kn w [rowI RA rc ds] w2 := K1.addI hw ho)
  clear ho hw KA K1
  refine Code.wp.kn (K2.al [.int .i64 b, .slice RA ds.length rc] 26) ?_; intro w3 K3
  obtain ⟨g1, hg1⟩ : ∃ g, w2.heap.size = g := ⟨_, rfl⟩
  rw [hg1] at K3 ⊢
  clear K2 hg1
  go_upto_region 6 with (go_at_call 41; refine (KB.out _).mono ?_; rintro e w4 ⟨RB, rd, rfl, ho, hw⟩; have K4 : Kn w (rowI RB rd ds :: _) w4 := K3.addI hw ho)
  clear ho hw KB K3
  refine Code.wp.kn (K4.al [.int .i64 b, .slice RB ds.length rd] 26) ?_; intro w5 K5
  obtain ⟨g2, hg2⟩ : ∃ g, w4.heap.size = g := ⟨_, rfl⟩
  rw [hg2] at K5 ⊢
  clear K4 hg2
  go_wp2_with fail
  refine (KD2.out _ K5.below).mono ?_; rintro e w6 ⟨s2, rfl, hl2, hw⟩
  have K6 := K5.keep hw
  clear K5 hw KD2
  have KA := (fun W => UnpackMachine_any s2 W (by omega))
  have KB := (fun W => specUnpackMachine_any s2 W (by omega))
  have U2 := (fun (h : unpMCode (strB s2) = 0) t ht A1 A2 A3 c1 c2 c3 W r1 r2 r3 hs => packM_again s2 h t ht A1 A2 A3 c1 c2 c3 W r1 r2 r3 hs)
  obtain ⟨t, ht⟩ : ∃ v, unpMach (strB s2) = v := ⟨_, rfl⟩
  obtain ⟨mz, hmz⟩ : ∃ v, unpMCode (strB s2) = v := ⟨_, rfl⟩
  simp only [ht, hmz] at KA KB
  replace U2 := Lib.hid (fun (h : mz = 0) A1 A2 A3 c1 c2 c3 W r1 r2 r3 hs => U2 (hmz.trans h) t ht A1 A2 A3 c1 c2 c3 W r1 r2 r3 hs)
  replace KA := Lib.hid KA
  replace KB := Lib.hid KB
  clear ht hmz
  go_upto_region 8 with (go_at_call 37; refine (KA.out _).mono ?_; rintro e w7 ⟨A1, c1, A2, c2, A3, c3, rfl, hK⟩; have K7 := K6.join hK)
  clear hK KA K6
  refine Code.wp.kn (K7.al [.int .i64 t.a.base, .slice A1 t.a.digits.length c1, .int .i64 t.b.base, .slice A2 t.b.digits.length c2, .int .i64 t.s.base, .slice A3 t.s.digits.length c3, .int .i64 t.carry] 28) ?_; intro w8 K8
  obtain ⟨g3, hg3⟩ : ∃ g, w7.heap.size = g := ⟨_, rfl⟩
  rw [hg3] at K8 ⊢
  clear K7 hg3
  go_upto_region 9 with (go_at_call 43; refine (KB.out _).mono ?_; rintro e w9 ⟨E1, f1, E2, f2, E3, f3, rfl, hK⟩; have K9 := K8.join hK)
  clear hK KB K8
  refine Code.wp.kn (K9.al [.int .i64 t.a.base, .slice E1 t.a.digits.length f1, .int .i64 t.b.base, .slice E2 t.b.digits.length f2, .int .i64 t.s.base, .slice E3 t.s.digits.length f3, .int .i64 t.carry] 28) ?_; intro w10 K10
  obtain ⟨g4, hg4⟩ : ∃ g, w9.heap.size = g := ⟨_, rfl⟩
  rw [hg4] at K10 ⊢
  clear K9 hg4
  go_wp2_with fail
  refine (KD3.out _ K10.below).mono ?_; rintro e w11 ⟨s3, rfl, hl3, hw⟩
  have K11 := K10.keep hw
  clear K10 hw KD3
  have KA := (fun W => UnpackProgram_any s3 W (by omega))
  have KB := (fun W => specUnpackProgram_any s3 W (by omega))
  have U3 := (fun (h : unpPCode (strB s3) = 0) A c W hr => packP_again s3 h A c W hr)
  have hxl := unpProg_len (strB s3)
  obtain ⟨xs, hxs⟩ : ∃ v, unpProg (strB s3) = v := ⟨_, rfl⟩
  obtain ⟨pz, hpz⟩ : ∃ v, unpPCode (strB s3) = v := ⟨_, rfl⟩
  simp only [hxs, hpz] at KA KB U3 hxl
  replace KA := Lib.hid KA
  replace KB := Lib.hid KB
  replace U3 := Lib.hid U3
  clear hxs hpz
  go_wp2_with fail
  refine (KA.out _).mono ?_; rintro e w12 ⟨PA, pc, rfl, hK⟩
  have K12 := K11.join hK
  clear hK KA K11
  go_wp2_with fail
  refine (KB.out _).mono ?_; rintro e w13 ⟨PB, pd, rfl, hK⟩
  have K13 := K12.join hK
  clear hK KB K12
  go_wp2_with fail
  refine (KD4.out _ K13.below).mono ?_; rintro e w14 ⟨sk, rfl, hl4, hw⟩
  have K14 := K13.keep hw
  clear K13 hw KD4
  go_wp2_with fail
  refine (KD5.out _ K14.below).mono ?_; rintro e w15 ⟨sh, rfl, hl5, hw⟩
  have K15 := K14.keep hw
  clear K14 hw KD5
  have KA := (fun W => ReadHex_any sh W (by omega))
  have KB := (fun W => specReadHex_any sh W (by omega))
  unfold RHRet at KA KB
  obtain ⟨hv, hhv⟩ : ∃ v, rhV sh = v := ⟨_, rfl⟩
  obtain ⟨ho, hho⟩ : ∃ v, rhOk sh = v := ⟨_, rfl⟩
  simp only [hhv, hho] at KA KB
  replace KA := Lib.hid KA
  replace KB := Lib.hid KB
  clear hhv hho
  go_wp2_with fail
  refine (KA.out _).mono ?_; rintro e w16 ⟨rfl, hw⟩
  have K16 := K15.keep hw
  clear K15 hw KA
  go_wp2_with fail
  refine (KB.out _).mono ?_; rintro e w17 ⟨rfl, hw⟩
  have K17 := K16.keep hw
  clear K16 hw KB
  go_upto_region 16 with fail
  have hsm : SmallTri t := ⟨Kn.rowSmall (K17.front 9 rfl), Kn.rowSmall (K17.front 8 rfl), Kn.rowSmall (K17.front 7 rfl)⟩
  have KA := (fun W => KindOfBytes_any sk W (by omega))
  have KB := (fun W => specKindOfBytes_any sk W (by omega))
  have KC := (fun W => SumOfBytes_any sk W (by omega))
  have KE := (fun W => specSumOfBytes_any sk W (by omega))
  have KH := (fun W => HexOf_any sk W (by omega))
  have KI := (fun W => specHexOf_any sk W (by omega))
  have hrh := rh_hex sk
  obtain ⟨kb, hkb⟩ : ∃ v, kindB (strB sk) = v := ⟨_, rfl⟩
  obtain ⟨sm, hsum⟩ : ∃ v, sumB (strB sk) = v := ⟨_, rfl⟩
  obtain ⟨hx, hhx⟩ : ∃ v, (⟨(hexB (strB sk)).toArray⟩ : ByteArray) = v := ⟨_, rfl⟩
  have hhl : hx.size ≤ 100000 := by rw [← hhx, size_mk, hexB_len, strB_len]; omega
  simp only [hkb, hsum, hhx] at KA KB KC KE KH KI hrh
  have KJ := (fun W => ReadHex_any hx W (by omega))
  unfold RHRet at KJ
  rw [hrh.1, hrh.2] at KJ
  replace KA := Lib.hid KA
  replace KB := Lib.hid KB
  replace KC := Lib.hid KC
  replace KE := Lib.hid KE
  replace KH := Lib.hid KH
  replace KI := Lib.hid KI
  replace KJ := Lib.hid KJ
  clear hkb hsum hhx hrh
  obtain ⟨m1, m2, m3, -⟩ := (K17.front 12 rfl).cells
  obtain ⟨n1, n2, n3, -⟩ := (K17.front 10 rfl).cells
  go_upto_region 18 with (first
    | (go_at_call 35; refine (specSameRegister_same b RA RB rc rd ds _ (K17.front 13 rfl).riv (K17.front 11 rfl).riv (by omega)).mono ?_; rintro e w18 ⟨rfl, hw⟩; have K18 := K17.keep hw; clear hw m1 m2 m3 n1 n2 n3; obtain ⟨m1, m2, m3, -⟩ := (K18.front 6 rfl).cells; obtain ⟨n1, n2, n3, -⟩ := (K18.front 2 rfl).cells)
    | (go_at_call 22; have hsame := specSameMachine_any t t A1 A2 A3 E1 E2 E3 c1 c2 c3 f1 f2 f3 _ (K18.front 9 rfl).riv (K18.front 8 rfl).riv (K18.front 7 rfl).riv (K18.front 5 rfl).riv (K18.front 4 rfl).riv (K18.front 3 rfl).riv hsm hsm; rw [sameM_refl] at hsame; refine hsame.mono ?_; rintro e w19 ⟨rfl, hw⟩; have K19 := K18.keep hw; clear hw hsame m1 m2 m3 n1 n2 n3)
    | (go_at_call 39; refine (f6instrs_same PA PB xs.length pc pd xs _ (Kn.rlIns (K19.front 1 rfl)).2 (Kn.rlIns (K19.front 0 rfl)).2 (by omega)).mono ?_; rintro e w20 ⟨rfl, hw⟩; have K20 := K19.keep hw; clear hw)
    | (go_at_call 36; refine (KA.out _).mono ?_; rintro e w21 ⟨rfl, hw⟩; have K21 := K20.keep hw; clear hw)
    | (go_at_call 50; refine (KB.out _).mono ?_; rintro e w22 ⟨rfl, hw⟩; have K22 := K21.keep hw; clear hw)
    | (go_at_call 51; refine (KC.out _).mono ?_; rintro e w23 ⟨rfl, hw⟩; obtain rfl := hw)
    | (go_at_call 52; refine (KE.out _).mono ?_; rintro e w24 ⟨rfl, hw⟩; obtain rfl := hw))
  have K25 := K22.sel [12, 13, 6, 7, 8, 9, 1] 99 (by decide) (by decide)
  clear K17 K18 K19 K20 K21 K22 KA KB KC KE
  go_wp2_with fail
  refine (KH.out _).mono ?_; rintro e w26 ⟨rfl, hw⟩
  have K26 := K25.keep hw
  clear hw K25 KH
  go_wp2_with fail
  refine (KJ.out _).mono ?_; rintro e w27 ⟨rfl, hw⟩
  have K27 := K26.keep hw
  clear hw K26 KJ
  go_wp2_with fail
  refine (KI.out _).mono ?_; rintro e w28 ⟨rfl, hw⟩
  have K28 := K27.keep hw
  clear hw K27 KI
  go_upto_region 22 with fail
  by_cases hr : rz = 0
  · have KU := Lib.hid (U1.out hr)
    clear U1
    subst hr
    obtain ⟨a1, a2, a3, -⟩ := K28.cells
    go_upto_region 26 with (go_at_call 26; refine (KU.out RA rc _ (K28.front 1 rfl).riv).mono ?_; rintro e w29 ⟨rfl, hw⟩; have K29 := K28.keep hw; clear a1 a2 a3 hw)
    have K30 := K29.sel [2, 3, 4, 5, 6] 99 (by decide) (by decide)
    clear KU K28 K29
    by_cases hm : mz = 0
    · have KU := Lib.hid (U2.out hm)
      clear U2
      subst hm
      obtain ⟨a1, a2, a3, -⟩ := (K30).cells
      go_upto_region 30 with (go_at_call 29; refine (KU.out A1 A2 A3 c1 c2 c3 _ ((K30).front 3 rfl).riv ((K30).front 2 rfl).riv ((K30).front 1 rfl).riv hsm).mono ?_; rintro e w34 ⟨rfl, hw⟩; have K34 := (K30).keep hw; clear a1 a2 a3 hw)
      have K35 := K34.sel [4] 99 (by decide) (by decide)
      clear KU K34
      by_cases hp : pz = 0
      · have KU := Lib.hid (U3.out hp)
        clear U3
        subst hp
        go_wp2_with (go_at_call 32; refine (KU.out PA pc _ (Kn.rlIns K35).2).mono ?_; rintro e w39 ⟨rfl, hw⟩; have K39 := (K35).keep hw)
        go_ret
        exact ⟨rfl, K39.below⟩
      · have hp1 : (pz == 0) = false := by simpa using hp
        clear U3
        go_wp2_with fail
        go_ret
        exact ⟨rfl, (K35).below⟩
    · have hm1 : (mz == 0) = false := by simpa using hm
      have K35 := (K30).sel [4] 99 (by decide) (by decide)
      clear U2
      go_upto_region 30 with fail
      by_cases hp : pz = 0
      · have KU := Lib.hid (U3.out hp)
        clear U3
        subst hp
        go_wp2_with (go_at_call 32; refine (KU.out PA pc _ (Kn.rlIns K35).2).mono ?_; rintro e w39 ⟨rfl, hw⟩; have K39 := (K35).keep hw)
        go_ret
        exact ⟨rfl, K39.below⟩
      · have hp1 : (pz == 0) = false := by simpa using hp
        clear U3
        go_wp2_with fail
        go_ret
        exact ⟨rfl, (K35).below⟩
  · have hr1 : (rz == 0) = false := by simpa using hr
    have K30 := K28.sel [2, 3, 4, 5, 6] 99 (by decide) (by decide)
    clear U1 K28
    go_upto_region 26 with fail
    by_cases hm : mz = 0
    · have KU := Lib.hid (U2.out hm)
      clear U2
      subst hm
      obtain ⟨a1, a2, a3, -⟩ := (K30).cells
      go_upto_region 30 with (go_at_call 29; refine (KU.out A1 A2 A3 c1 c2 c3 _ ((K30).front 3 rfl).riv ((K30).front 2 rfl).riv ((K30).front 1 rfl).riv hsm).mono ?_; rintro e w34 ⟨rfl, hw⟩; have K34 := (K30).keep hw; clear a1 a2 a3 hw)
      have K35 := K34.sel [4] 99 (by decide) (by decide)
      clear KU K34
      by_cases hp : pz = 0
      · have KU := Lib.hid (U3.out hp)
        clear U3
        subst hp
        go_wp2_with (go_at_call 32; refine (KU.out PA pc _ (Kn.rlIns K35).2).mono ?_; rintro e w39 ⟨rfl, hw⟩; have K39 := (K35).keep hw)
        go_ret
        exact ⟨rfl, K39.below⟩
      · have hp1 : (pz == 0) = false := by simpa using hp
        clear U3
        go_wp2_with fail
        go_ret
        exact ⟨rfl, (K35).below⟩
    · have hm1 : (mz == 0) = false := by simpa using hm
      have K35 := (K30).sel [4] 99 (by decide) (by decide)
      clear U2
      go_upto_region 30 with fail
      by_cases hp : pz = 0
      · have KU := Lib.hid (U3.out hp)
        clear U3
        subst hp
        go_wp2_with (go_at_call 32; refine (KU.out PA pc _ (Kn.rlIns K35).2).mono ?_; rintro e w39 ⟨rfl, hw⟩; have K39 := (K35).keep hw)
        go_ret
        exact ⟨rfl, K39.below⟩
      · have hp1 : (pz == 0) = false := by simpa using hp
        clear U3
        go_wp2_with fail
        go_ret
        exact ⟨rfl, (K35).below⟩
end Go.Proofs.Ytkfbfainhmkkdaa
