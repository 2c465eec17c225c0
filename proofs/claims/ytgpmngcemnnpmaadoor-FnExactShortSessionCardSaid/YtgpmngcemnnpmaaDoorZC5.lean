/- Part 5: lemmas and contracts of the claim's functions. -/
import Derived.Test.YtgpmngcemnnpmaaDoorZC1
import Derived.Test.YtgpmngcemnnpmaaDoorZC2
import Derived.Test.YtgpmngcemnnpmaaDoorZC3
import Derived.Test.YtgpmngcemnnpmaaDoorZC4
import Derived.Deep.DrawnRows
import Derived.Deep.RegionHeld3
namespace Go.Proofs.YtgpmngcemnnpmaaDoor
open Go.RowKit Go.Sort
/-- the first k numbers are 0 -/
def zeroUpto (k : Nat) (ds : List Int) : List Int := List.replicate k 0 ++ ds.drop k
theorem zeroUpto_len {k : Nat} {ds : List Int} (h : k ≤ ds.length) : (zeroUpto k ds).length = ds.length := by simp [zeroUpto]; omega
theorem zeroUpto_step {k : Nat} {ds : List Int} (h : k < ds.length) : (zeroUpto k ds).set k 0 = zeroUpto (k + 1) ds := by
  unfold zeroUpto
  rw [List.set_append_right _ _ (by simp), List.drop_eq_getElem_cons h, List.replicate_succ', List.length_replicate, Nat.sub_self, List.set_cons_zero, List.append_assoc]
  rfl
theorem zeroUpto_all (ds : List Int) : zeroUpto ds.length ds = List.replicate ds.length 0 := by simp [zeroUpto]
set_option maxHeartbeats 800000 in
/-- digits of numbers that are owned are set to 0 -/
theorem l10ZeroK {w0 : World} {m : List Ent} {cs : List Value} {T : TypeId} {g o : Nat} (A : Option Addr) (c : Nat) (ds : List Int) (w : World) (hK : Kn w0 (rowI A c ds :: .blk g cs T :: m) w) (ho : cs[o + 1]? = some (.slice A ds.length c)) (h0 : 0 < ds.length) (hl : ds.length ≤ 1000000) :
    Calls Tryd.prog 161 #[.pointer (some ⟨g, o, none⟩)] w fun e w' => e = .returned (.tuple #[]) ∧ Kn w0 (rowI A c (List.replicate ds.length 0) :: .blk g cs T :: m) w' := by
  obtain ⟨r, c', hA⟩ := Kn.rowForm hK h0
  injection hA with hA hA2 hA3
  subst hA; subst hA3
  have HO := Lib.hid ho; clear ho
  go_enter Tryd.func161, Tryd.ntmps161
  go_wp2_with fail
  go_loopw [2] (fun ii wr => ∃ k : Nat, k ≤ ds.length ∧ ii = .int .i64 k ∧ Kn w0 (rowI (some ⟨r, 0, none⟩) c (zeroUpto k ds) :: .blk g cs T :: m) wr) (fun i _ => ds.length - (intOf i).toNat)
  case atStart => exact ⟨0, Nat.zero_le _, rfl, hK⟩
  case round =>
    clear hK
    obtain ⟨k, hk, rfl, hK⟩ := hrel
    have x1 := (hK.drop.blkAt.1 (o + 1)).trans HO.out
    by_cases hlt : k < ds.length
    · have hz := zeroUpto_step hlt
      have hlen := zeroUpto_len hk
      have hj : ∃ z : Value, ((zeroUpto k ds).map (Value.int .i64))[k]? = some z := ⟨_, by rw [List.getElem?_map, List.getElem?_eq_getElem (show k < (zeroUpto k ds).length by omega)]; rfl⟩
      obtain ⟨z, hj⟩ := hj
      obtain ⟨x2, x3⟩ := Kn.rowCell hK hj
      have HZ := Lib.hid hz
      clear hz hj hlen
      have hi1 : (k : Int) < (ds.length : Int) := by omega
      go_wp2_with fail
      go_roundw
      case rel => exact ⟨k + 1, by omega, by go_num, by rw [← HZ.out]; exact Kn.setI hK k 0⟩
      case measure => simp [intOf]; omega
    · have hi1 : ¬ (k : Int) < (ds.length : Int) := by omega
      obtain rfl : k = ds.length := by omega
      go_wp2_with fail
      go_end0
      exact ⟨rfl, by rw [← zeroUpto_all]; exact hK⟩
end Go.Proofs.YtgpmngcemnnpmaaDoor

namespace Go.Proofs.YtgpmngcemnnpmaaDoor
open Go.RowKit Go.Sort
theorem l10PlacesK {w0 : World} {m : List Ent} {rest : List Value} {T : TypeId} {g : Nat} (t : Tri) (A1 A2 A3 : Option Addr) (c1 c2 c3 : Nat) (w : World) (hK : Kn w0 (.blk g (.int .i64 t.a.base :: .slice A1 t.a.digits.length c1 :: .int .i64 t.b.base :: .slice A2 t.b.digits.length c2 :: .int .i64 t.s.base :: .slice A3 t.s.digits.length c3 :: .int .i64 t.carry :: rest) T :: m) w) (h1 : t.a.digits.length ≤ 16) (h2 : t.b.digits.length ≤ 16) (_h3 : t.s.digits.length ≤ 16) :
    Calls Tryd.prog 158 #[.pointer (some ⟨g, 0, none⟩)] w fun e w' => e = .returned (.int .i64 (vplaces t)) ∧ ∃ q, w' = w.drewN q := by
  obtain ⟨a1, a2, a3⟩ := hK.blkAt
  clear hK
  go_enter Tryd.func158, Tryd.ntmps158
  go_wp2_with fail
  go_quiet ((go_at_call 109; exact quiet_left (l00Min_any _ _ _)))
  go_wp2
  go_ret
  exact ⟨ret_int (by unfold vplaces; omega), _, rfl⟩
set_option maxHeartbeats 1600000 in
theorem l10ShiftK {w0 : World} {m : List Ent} {rest : List Value} {T : TypeId} {g : Nat} (t : Tri) (A1 A2 A3 : Option Addr) (c1 c2 c3 : Nat) (by_ : Int) (w : World) (hK : Kn w0 (.blk g (.int .i64 t.a.base :: .slice A1 t.a.digits.length c1 :: .int .i64 t.b.base :: .slice A2 t.b.digits.length c2 :: .int .i64 t.s.base :: .slice A3 t.s.digits.length c3 :: .int .i64 t.carry :: rest) T :: m) w) (hv : vmach t = true) (hb : by_ = 1 ∨ by_ = -1) :
    Calls Tryd.prog 160 #[.pointer (some ⟨g, 0, none⟩), .int .i64 by_] w fun e w' => 
      (betB (t.carry + by_) 0 (vplaces t - 1) = true → e = .returned (.bool false) ∧ Kn w0 (.blk g (.int .i64 t.a.base :: .slice A1 t.a.digits.length c1 :: .int .i64 t.b.base :: .slice A2 t.b.digits.length c2 :: .int .i64 t.s.base :: .slice A3 t.s.digits.length c3 :: .int .i64 (t.carry + by_) :: rest) T :: m) w') ∧ (betB (t.carry + by_) 0 (vplaces t - 1) = false → e = .returned (.bool true) ∧ Kn w0 (.blk g (.int .i64 t.a.base :: .slice A1 t.a.digits.length c1 :: .int .i64 t.b.base :: .slice A2 t.b.digits.length c2 :: .int .i64 t.s.base :: .slice A3 t.s.digits.length c3 :: .int .i64 t.carry :: rest) T :: m) w') := by
  obtain ⟨k1, k2, k3, e1, e2, f1, f2, l1, p0, p1⟩ := vmach_all hv
  obtain ⟨-, ⟨n1, n2⟩, -, -⟩ := vreg_iff.1 k1
  obtain ⟨-, ⟨n3, n4⟩, -, -⟩ := vreg_iff.1 k2
  obtain ⟨-, ⟨n5, n6⟩, -, -⟩ := vreg_iff.1 k3
  have hp1 : -16 ≤ vplaces t ∧ vplaces t ≤ 16 := by unfold vplaces; omega
  have KP := Lib.hid (fun W (h : Kn w0 (.blk g (.int .i64 t.a.base :: .slice A1 t.a.digits.length c1 :: .int .i64 t.b.base :: .slice A2 t.b.digits.length c2 :: .int .i64 t.s.base :: .slice A3 t.s.digits.length c3 :: .int .i64 t.carry :: rest) T :: m) W) => l10PlacesK t A1 A2 A3 c1 c2 c3 W h n2 n4 n6)
  have hw := wrapI64 (n := t.carry + by_) (by omega)
  have hw2 := wrapI64 (n := vplaces t - 1) (by omega)
  obtain ⟨P, hP⟩ : ∃ P, vplaces t = P := ⟨_, rfl⟩
  rw [hP] at KP hw2 hp1 p1 ⊢
  obtain ⟨a1, a2, a3⟩ := hK.blkAt
  clear k1 k2 k3 f1 f2 l1 n1 n2 n3 n4 n5 n6 hP e1 e2 hv
  rcases hbt : betB (t.carry + by_) 0 (P - 1) with _ | _
  · have KI := Lib.hid (fun W => calls_val (l00In_any (t.carry + by_) 0 (P - 1) W) (congrArg Value.bool hbt))
    clear hbt
    go_enter Tryd.func160, Tryd.ntmps160
    go_wp2_with fail
    go_quiet ((first | (go_at_call 158; first | exact quiet_of_ex (KP.out _ (hK.drewN _)) | exact quiet_add_ex (KP.out _ (hK.drewN _))) | (go_at_call 77; first | exact quiet_left (KI.out _) | exact quiet_add_left (KI.out _))))
    go_wp2_with fail
    go_ret
    exact ⟨(fun h => by cases h), fun _ => ⟨rfl, hK.drewN _⟩⟩
  · have KI := Lib.hid (fun W => calls_val (l00In_any (t.carry + by_) 0 (P - 1) W) (congrArg Value.bool hbt))
    clear hbt
    go_enter Tryd.func160, Tryd.ntmps160
    go_wp2_with fail
    go_quiet ((first | (go_at_call 158; first | exact quiet_of_ex (KP.out _ (hK.drewN _)) | exact quiet_add_ex (KP.out _ (hK.drewN _))) | (go_at_call 77; first | exact quiet_left (KI.out _) | exact quiet_add_left (KI.out _))))
    go_wp2_with fail
    go_ret
    exact ⟨fun _ => ⟨rfl, (hK.drewN _).st 6 _⟩, (fun h => by cases h)⟩
end Go.Proofs.YtgpmngcemnnpmaaDoor

namespace Go.Proofs.YtgpmngcemnnpmaaDoor
open Go.RowKit Go.Sort
set_option maxRecDepth 100000 in
set_option maxHeartbeats 1600000 in
theorem l10Move_any (p : Addr) (b : Int) (A : Option Addr) (c : Nat) (ds : List Int) (x : Int) (w : World) (hp : RegAt w p b A ds.length c) (hr : RI w A ds.length ds) (hv : vreg b ds = true) (hpw : pw b ds.length ≤ 1000000000001) (hx0 : -1000000000001 ≤ x) (hx1 : x ≤ 1000000000001) :
    Calls Tryd.prog 175 #[.pointer (some p), .int .i64 x] w fun e w' => ∃ A' c', e = .returned (.tuple #[.agg #[.int .i64 b, .slice A' (shiftD b ds x).length c'], .bool (shiftB b ds x)]) ∧ Kn w [rowI A' c' (shiftD b ds x)] w' := by
  obtain ⟨⟨b1, b2⟩, ⟨n1, n2⟩, hd, hl⟩ := vreg_iff.1 hv
  have hp1 := pw_pos b b1 ds.length
  have hv0 := (valL_bd b b1 ds (fun d h => (hd d h).1)).1
  have KN := (fun W => l10Power_any b ds.length W b1 b2 (by omega))
  have hpc : powS b ds.length = pw b ds.length := by unfold powS; omega
  rw [hpc] at KN
  have KV := (fun W (hW : Below w.heap.size w W) => l02Value_any b A ds.length c ds W b1 b2 hd (hr.below hW) n2)
  have hsd : shiftD b ds x = digD b ds.length (((valL b ds + x).tmod (pw b ds.length) + pw b ds.length).tmod (pw b ds.length)) := rfl
  have hsb : shiftB b ds x = (decide (valL b ds + x < 0) || decide (pw b ds.length ≤ valL b ds + x)) := rfl
  obtain ⟨N, hN⟩ : ∃ N, pw b ds.length = N := ⟨_, rfl⟩
  obtain ⟨V, hV⟩ : ∃ V, valL b ds = V := ⟨_, rfl⟩
  rw [hN] at KN hsd hsb hpw hp1
  rw [hV] at KV hsd hsb hv0 hl
  obtain ⟨S, hS⟩ : ∃ S, V + x = S := ⟨_, rfl⟩
  rw [hS] at hsd hsb
  have hSb : -1000000000001 ≤ S ∧ S ≤ 2000000000001 := by omega
  have hm1 : -N < S.tmod N ∧ S.tmod N < N := by
    have h1 := Int.tmod_lt_of_pos S (show 0 < N by omega)
    have h2 := Int.lt_tmod_of_pos S (show 0 < N by omega)
    omega
  have hm2 : 0 ≤ (S.tmod N + N).tmod N ∧ (S.tmod N + N).tmod N < N := ⟨Int.tmod_nonneg _ (by omega), Int.tmod_lt_of_pos _ (by omega)⟩
  have hwr : IntKind.i64.wrap (S.tmod N + N) = S.tmod N + N := wrapI64 (by omega)
  have hwn : IntKind.i64.wrap (N - 1) = N - 1 := wrapI64 (by omega)
  have nz1 : N ≠ 0 := by omega
  have nz2 : (N == 0) = false := by simp; omega
  have nz3 : ¬ N = 0 := by omega
  have KW := (fun W => l02NewV_any b ds.length ((S.tmod N + N).tmod N) W b1 b2 (by omega) hm2.1 (by omega))
  rw [← hsd] at KW
  obtain ⟨es, hes⟩ : ∃ es, shiftD b ds x = es := ⟨_, rfl⟩
  rw [hes] at KW ⊢
  obtain ⟨bell, hbl⟩ : ∃ e, shiftB b ds x = e := ⟨_, rfl⟩
  have HSB := Lib.hid (show (!betB S 0 (N - 1)) = bell by
    rw [← hbl, hsb]
    rcases hb : betB S 0 (N - 1) with _ | _
    · have := betB_false.1 hb
      simp; omega
    · have := betB_iff.1 hb
      simp; omega)
  rw [hbl]
  have KI := Lib.hid (fun W => l00In_any S 0 (N - 1) W)
  have KN := Lib.hid KN
  have KV := Lib.hid KV
  have KW := Lib.hid KW
  have hSe : IntKind.i64.wrap (V + x) = S := by rw [hS]; exact wrapI64 (by omega)
  have HSE := Lib.hid hS
  have hV2 : -9223372036854775808 ≤ V + x ∧ V + x ≤ 9223372036854775807 := by omega
  have HP := Lib.hid (fun W (hW : Below w.heap.size w W) => hp.below hW)
  clear hsd hsb hes hbl hr hv hd hl hpc hN hV hS hp hSe
  go_enter Tryd.func175, Tryd.ntmps175
  go_wp2_with (first
    | (refine wpList.kn ((Kn.nil w).al [.int .i64 0, .slice none 0 0] 41) ?_; intro w2 hK2; obtain ⟨x1, x2⟩ := HP.out _ hK2.below)
    | (go_at_call 84; refine (KN.out _).mono ?_; rintro e w' ⟨rfl, rfl⟩))
  go_quiet ((go_at_call 124; exact quiet_left (KV.out _ (hK2.drewN _).below)))
  clear x1 x2
  have hK3 := hK2.drewN nq
  generalize w2.drewN nq = w3 at hK3 ⊢
  rw [HSE.out]
  have hq := HP.out _ hK3.drew.below
  have HG := Lib.hid (show _ ∧ _ from hq)
  have hq0 := HP.out _ (hK3.al [.int .i64 0, .slice none 0 0] 41).drew.below
  have HA := Lib.hid (show _ ∧ _ from hq0)
  have HS := HG
  clear hq hq0
  go_wp2_with fail
  go_cut [9] (fun pp wx => ∃ (g : Nat) (A' : Option Addr) (c' : Nat), pp = .pointer (some ⟨g, 0, none⟩) ∧ Kn w [.blk g [.int .i64 b, .slice A' es.length c'] 41, rowI A' c' es, .blk w.heap.size [.int .i64 0, .slice none 0 0] 41] wx)
  case first =>
    go_region_held3 (fun W => W.cell? p = some (.int .i64 b) ∧ W.cell? ⟨p.block, p.off + 1, none⟩ = some (.slice A ds.length c))
      (first | with_reducible exact HG.out | with_reducible exact HA.out | with_reducible exact HS.out | exact HG.out | exact HA.out | exact HS.out) (first
      | (go_at_call 162; (with_reducible refine (KW.out _).mono ?_); rintro e w4 ⟨A', c', rfl, hK⟩; clear HG HA; first
        | (have hK4 := hK3.drew.join hK; have hq := HP.out _ hK4.below; have HG := Lib.hid (show _ ∧ _ from hq); have hq1 := HP.out _ (hK4.al [.int .i64 0, .slice none 0 0] 41).below; have HA := Lib.hid (show _ ∧ _ from hq1); have hK5 := hK4.al [.int .i64 b, .slice A' es.length c'] 41; have hq2 := HP.out _ hK5.below; have HS := Lib.hid (show _ ∧ _ from hq2))
        | (have hK4 := (hK3.al [.int .i64 0, .slice none 0 0] 41).drew.join hK; have hq := HP.out _ hK4.below; have HG := Lib.hid (show _ ∧ _ from hq); obtain ⟨g1, f1, l1⟩ := hK4.drop.blkAt; have HA := HG; have hK5 := (hK4.sw1.st 0 (.int .i64 b)).st 1 (.slice A' es.length c'); have hq2 := HP.out _ hK5.below; have HS := Lib.hid (show _ ∧ _ from hq2))))
    all_goals
      go_wp2_with fail
      go_meet
      exact ⟨_, _, _, rfl, hK5⟩
  case rest =>
    obtain ⟨g, A', c', rfl, hK5⟩ := hcut
    clear HG HA HS KN KV KW hK2 hK3
    obtain ⟨a1, a2, a3, d1, d2, d3, -⟩ := hK5.cells
    go_wp2_with fail
    have HG := Lib.hid (box2 hK5.drew)
    have hK6 := ((hK5.sw2.st 0 (.int .i64 b)).st 1 (.slice A' es.length c')).drew
    have HS := Lib.hid (box2 hK6.drop)
    go_region_held3 (fun W => W.cell? ⟨g, 0, none⟩ = some (.int .i64 b) ∧ W.cell? ⟨g, 1, none⟩ = some (.slice A' es.length c'))
      (first | with_reducible exact HG.out | with_reducible exact HS.out | exact HG.out) (first
      | (go_at_call 77; (with_reducible refine (KI.out _).mono ?_); rintro e w7 ⟨rfl, rfl⟩))
    all_goals
      go_wp2_with fail
      refine bodyPost_ret (v := .tuple #[.agg #[.int .i64 b, .slice A' es.length c'], .bool bell]) (by simp [results, Tryd.results175, go_sem, d1]; first | exact HSB.out | (have := HSB.out; simp_all)) rfl ⟨A', c', rfl, ?_⟩
      exact hK6.drop.drop
end Go.Proofs.YtgpmngcemnnpmaaDoor

namespace Go.Proofs.YtgpmngcemnnpmaaDoor
open Go.RowKit Go.Sort
/-- the machine in block g, and its numbers -/
def MB (w0 : World) (g : Nat) (rest : List Value) (T : TypeId) (k : Tri) (m : List Ent) (w : World) : Prop := ∃ B1 d1 B2 d2 B3 d3, Kn w0 (.blk g (.int .i64 k.a.base :: .slice B1 k.a.digits.length d1 :: .int .i64 k.b.base :: .slice B2 k.b.digits.length d2 :: .int .i64 k.s.base :: .slice B3 k.s.digits.length d3 :: .int .i64 k.carry :: rest) T :: rowI B3 d3 k.s.digits :: rowI B2 d2 k.b.digits :: rowI B1 d1 k.a.digits :: m) w
set_option maxRecDepth 100000 in
set_option maxHeartbeats 1600000 in
theorem l10TurnK {w0 : World} {m : List Ent} {rest : List Value} {T : TypeId} {g : Nat} (t : Tri) (sign : Int) (w : World) (hM : MB w0 g rest T t m w) (hv : vmach t = true) (hs : sign = 1 ∨ sign = -1) :
    Calls Tryd.prog 159 #[.pointer (some ⟨g, 0, none⟩), .int .i64 sign] w fun e w' => e = .returned (.bool (turnT t sign).2) ∧ MB w0 g rest T (turnT t sign).1 m w' := by
  obtain ⟨A1, c1, A2, c2, A3, c3, hK⟩ := hM
  obtain ⟨k1, k2, k3, e1, e2, f1, f2, l1, p0, p1⟩ := vmach_all hv
  obtain ⟨u1, u2, u3, u4⟩ := turn_bd hv
  obtain ⟨⟨b1, b2⟩, ⟨n1, n2⟩, hd1, -⟩ := vreg_iff.1 k1
  obtain ⟨⟨b3, b4⟩, ⟨n3, n4⟩, hd2, -⟩ := vreg_iff.1 k2
  obtain ⟨⟨b5, b6⟩, ⟨n5, n6⟩, hd3, -⟩ := vreg_iff.1 k3
  have HT := Lib.hid (show turnT t sign = (⟨t.a, ⟨t.b.base, shiftD t.b.base t.b.digits (sign * (valL t.a.base t.a.digits * pw t.b.base t.carry.toNat))⟩, ⟨t.s.base, shiftD t.s.base t.s.digits (sign * pw t.b.base t.carry.toNat)⟩, t.carry⟩, shiftB t.b.base t.b.digits (sign * (valL t.a.base t.a.digits * pw t.b.base t.carry.toNat))) from rfl)
  have KP := (fun W => l10Power_any t.a.base t.carry.toNat W b1 b2 (by unfold vplaces at p1; omega))
  have hpc : powS t.a.base t.carry.toNat = pw t.b.base t.carry.toNat := by rw [e1]; unfold powS; omega
  rw [hpc, show ((t.carry.toNat : Nat) : Int) = t.carry by omega] at KP
  have KV := (fun W (hW : Kn w0 (.blk g (.int .i64 t.a.base :: .slice A1 t.a.digits.length c1 :: .int .i64 t.b.base :: .slice A2 t.b.digits.length c2 :: .int .i64 t.s.base :: .slice A3 t.s.digits.length c3 :: .int .i64 t.carry :: rest) T :: rowI A3 c3 t.s.digits :: rowI A2 c2 t.b.digits :: rowI A1 c1 t.a.digits :: m) W) => l02Value_any t.a.base A1 t.a.digits.length c1 t.a.digits W b1 b2 hd1 hW.drop.drop.drop.riv n2)
  obtain ⟨U, hU⟩ : ∃ U, pw t.b.base t.carry.toNat = U := ⟨_, rfl⟩
  obtain ⟨V, hV⟩ : ∃ V, valL t.a.base t.a.digits = V := ⟨_, rfl⟩
  rw [hU] at KP HT u1 u2 u3 u4
  rw [hV] at KV HT u3 u4
  obtain ⟨X, hX⟩ : ∃ X, sign * (V * U) = X := ⟨_, rfl⟩
  obtain ⟨Y, hY⟩ : ∃ Y, sign * U = Y := ⟨_, rfl⟩
  rw [hX, hY] at HT
  have hXb : -1000000000001 ≤ X ∧ X ≤ 1000000000001 := by rcases hs with rfl | rfl <;> omega
  have hYb : -1000000000001 ≤ Y ∧ Y ≤ 1000000000001 := by rcases hs with rfl | rfl <;> omega
  have hYX : Y * V = X := by rw [← hX, ← hY, Int.mul_assoc, Int.mul_comm U V]
  have w1' : IntKind.i64.wrap (sign * U) = Y := by rw [hY]; exact wrapI64 (by omega)
  have w2' : IntKind.i64.wrap (Y * V) = X := by rw [hYX]; exact wrapI64 (by omega)
  have KM2 := (fun W (hW : Kn w0 (.blk g (.int .i64 t.a.base :: .slice A1 t.a.digits.length c1 :: .int .i64 t.b.base :: .slice A2 t.b.digits.length c2 :: .int .i64 t.s.base :: .slice A3 t.s.digits.length c3 :: .int .i64 t.carry :: rest) T :: rowI A3 c3 t.s.digits :: rowI A2 c2 t.b.digits :: rowI A1 c1 t.a.digits :: m) W) => l10Move_any ⟨g, 2, none⟩ t.b.base A2 c2 t.b.digits X W ⟨hW.blkAt.1 2, hW.blkAt.1 3⟩ hW.drop.drop.riv k2 f1 hXb.1 hXb.2)
  have KM3 := (fun W (hW : Kn w0 (.blk g (.int .i64 t.a.base :: .slice A1 t.a.digits.length c1 :: .int .i64 t.b.base :: .slice A2 t.b.digits.length c2 :: .int .i64 t.s.base :: .slice A3 t.s.digits.length c3 :: .int .i64 t.carry :: rest) T :: rowI A3 c3 t.s.digits :: rowI A2 c2 t.b.digits :: rowI A1 c1 t.a.digits :: m) W) => l10Move_any ⟨g, 4, none⟩ t.s.base A3 c3 t.s.digits Y W ⟨hW.blkAt.1 4, hW.blkAt.1 5⟩ hW.drop.riv k3 f2 hYb.1 hYb.2)
  obtain ⟨es, hes⟩ : ∃ es, shiftD t.b.base t.b.digits X = es := ⟨_, rfl⟩
  obtain ⟨fs, hfs⟩ : ∃ fs, shiftD t.s.base t.s.digits Y = fs := ⟨_, rfl⟩
  obtain ⟨bell, hbl⟩ : ∃ e, shiftB t.b.base t.b.digits X = e := ⟨_, rfl⟩
  obtain ⟨bell2, hbl2⟩ : ∃ e, shiftB t.s.base t.s.digits Y = e := ⟨_, rfl⟩
  rw [hes, hbl] at KM2
  rw [hfs, hbl2] at KM3
  rw [hes, hfs, hbl] at HT
  rw [HT.out]
  have KP := Lib.hid KP
  have KV := Lib.hid KV
  have KM2 := Lib.hid KM2
  have KM3 := Lib.hid KM3
  have HW1 := Lib.hid w1'
  have HW2 := Lib.hid w2'
  have HY := Lib.hid hY
  have hYo : -9223372036854775808 ≤ sign * U ∧ sign * U ≤ 9223372036854775807 := by rw [hY]; omega
  have hXo : -9223372036854775808 ≤ sign * U * V ∧ sign * U * V ≤ 9223372036854775807 := by rw [hY, hYX]; omega
  clear hpc hU hV hX hY hYX w1' w2' hes hfs hbl hbl2 hd1 hd2 hd3 hv k1 k2 k3 e1 e2 hs
  obtain ⟨a1, a2, a3⟩ := hK.blkAt
  go_enter Tryd.func159, Tryd.ntmps159
  go_wp2_with fail
  go_quiet ((go_at_call 84; exact quiet_left (KP.out _)))
  have hK1 := hK.drewN nq
  generalize w.drewN nq = w1 at hK1 ⊢
  clear hK a1 a2 a3
  obtain ⟨a1, a2, a3⟩ := hK1.blkAt
  go_wp2_with fail
  have HG := Lib.hid (box2 hK1.drew)
  have HA := Lib.hid (box2 (hK1.al [.int .i64 0, .slice none 0 0] 41).drew.drop)
  have HS := HG
  go_cut [6, 7] (fun pp oo wx => ∃ (g6 : Nat) (A' : Option Addr) (c' : Nat), pp = .pointer (some ⟨g6, 0, none⟩) ∧ oo = .bool bell ∧ Kn w0 (.blk g6 [.int .i64 t.b.base, .slice A' es.length c'] 41 :: rowI A' c' es :: .blk g (.int .i64 t.a.base :: .slice A1 t.a.digits.length c1 :: .int .i64 t.b.base :: .slice A2 t.b.digits.length c2 :: .int .i64 t.s.base :: .slice A3 t.s.digits.length c3 :: .int .i64 t.carry :: rest) T :: rowI A3 c3 t.s.digits :: rowI A2 c2 t.b.digits :: rowI A1 c1 t.a.digits :: m) wx)
  case first =>
    go_region_held3 (fun W => W.cell? ⟨g, 0, none⟩ = some (.int .i64 t.a.base) ∧ W.cell? ⟨g, 1, none⟩ = some (.slice A1 t.a.digits.length c1))
      (first | with_reducible exact HG.out | with_reducible exact HA.out | with_reducible exact HS.out | exact HG.out | exact HA.out | exact HS.out) (first
      | (go_at_call 124; first | ((with_reducible refine (KV.out _ hK1.drew).mono ?_); rintro e w7 ⟨rfl, rfl⟩) | ((with_reducible refine (KV.out _ (hK1.al [.int .i64 0, .slice none 0 0] 41).drew.drop).mono ?_); rintro e w7 ⟨rfl, rfl⟩))
      | (go_at_call 175; rw [HW1.out, HW2.out]; clear HG HA; first
        | ((with_reducible refine (KM2.out _ hK1.drew).mono ?_); rintro e w4 ⟨A', c', rfl, hK⟩; have hK4 := hK1.drew.join hK; have HG := Lib.hid (box2 hK4.drop); have HA := Lib.hid (box2 (hK4.al [.int .i64 0, .slice none 0 0] 41).drop.drop); have hK5 := hK4.al [.int .i64 t.b.base, .slice A' es.length c'] 41; have HS := Lib.hid (box2 hK5.drop.drop))
        | ((refine (KM2.out _ (hK1.al [.int .i64 0, .slice none 0 0] 41).drew.drop).mono ?_); rintro e w4 ⟨A', c', rfl, hK⟩; have hK4 := (hK1.al [.int .i64 0, .slice none 0 0] 41).drew.join hK; have HG := Lib.hid (box2 hK4.drop.drop); obtain ⟨g1, f1, l1⟩ := hK4.drop.blkAt; have HA := HG; have hK5 := (hK4.sw1.st 0 (.int .i64 t.b.base)).st 1 (.slice A' es.length c'); have HS := Lib.hid (box2 hK5.drop.drop))))
    all_goals
      go_wp2_with fail
      go_meet
      exact ⟨_, _, _, rfl, rfl, hK5⟩
  case rest =>
    obtain ⟨g6, A', c', rfl, rfl, hK5⟩ := hcut
    clear HG HA HS KP KV KM2 hK1 a1 a2 a3
    obtain ⟨x1, x2, x3, a1, a2, a3, -⟩ := hK5.cells
    go_wp2_with fail
    rw [HY.out]
    refine (KM3.out _ hK5.drop.drop).mono ?_; rintro e w4 ⟨A2', c2', rfl, hK⟩
    have hK6 := hK5.join hK
    clear x1 x2 x3 a1 a2 a3
    obtain ⟨x1, x2, x3, a1, a2, a3, -⟩ := hK6.cells
    have hK7 := ((((hK6.sw3.st 2 (.int .i64 t.b.base)).st 3 (.slice A' es.length c')).st 4 (.int .i64 t.s.base)).st 5 (.slice A2' fs.length c2')).al [.int .i64 t.s.base, .slice A2' fs.length c2'] 41
    go_wp2_with fail
    go_ret
    refine ⟨rfl, A1, c1, A', c', A2', c2', ?_⟩
    refine Kn.only hK7 (by repeat (first | exact List.Sublist.refl _ | apply List.Sublist.cons_cons | apply List.Sublist.cons))
end Go.Proofs.YtgpmngcemnnpmaaDoor

namespace Go.Proofs.YtgpmngcemnnpmaaDoor
open Go.RowKit Go.Sort
theorem MB.congr {w0 w : World} {g : Nat} {rest : List Value} {T : TypeId} {k k' : Tri} {m : List Ent} (h : MB w0 g rest T k m w) (e : k = k') : MB w0 g rest T k' m w := e ▸ h
theorem l10ShiftM {w0 : World} {m : List Ent} {rest : List Value} {T : TypeId} {g : Nat} (t : Tri) (k by_ : Int) (w : World) (hM : MB w0 g rest T t m w) (hv : vmach t = true) (hb : (k = 3 ∧ by_ = 1) ∨ (k = 4 ∧ by_ = -1)) :
    Calls Tryd.prog 160 #[.pointer (some ⟨g, 0, none⟩), .int .i64 by_] w fun e w' => e = .returned (.bool (strokeT k t).2) ∧ MB w0 g rest T (strokeT k t).1 m w' := by
  obtain ⟨A1, c1, A2, c2, A3, c3, hK⟩ := hM
  obtain ⟨-, -, -, -, -, -, -, -, p0, p1⟩ := vmach_all hv
  refine (l10ShiftK t A1 A2 A3 c1 c2 c3 by_ w hK hv (by omega)).mono ?_
  rintro e w' ⟨h1, h2⟩
  rcases hbt : betB (t.carry + by_) 0 (vplaces t - 1) with _ | _
  · obtain ⟨rfl, hK'⟩ := h2 hbt
    have := betB_false.1 hbt
    have hs : strokeT k t = (t, true) := by
      rcases hb with ⟨rfl, rfl⟩ | ⟨rfl, rfl⟩
      · unfold strokeT; rw [if_neg (by decide), if_neg (by decide), if_pos rfl, if_pos (by omega)]
      · unfold strokeT; rw [if_neg (by decide), if_neg (by decide), if_neg (by decide), if_pos rfl, if_pos (by omega)]
    rw [hs]
    exact ⟨rfl, A1, c1, A2, c2, A3, c3, hK'⟩
  · obtain ⟨rfl, hK'⟩ := h1 hbt
    have := betB_iff.1 hbt
    have hs : strokeT k t = ({ t with carry := t.carry + by_ }, false) := by
      rcases hb with ⟨rfl, rfl⟩ | ⟨rfl, rfl⟩
      · unfold strokeT; rw [if_neg (by decide), if_neg (by decide), if_pos rfl, if_neg (by omega)]
      · unfold strokeT; rw [if_neg (by decide), if_neg (by decide), if_neg (by decide), if_pos rfl, if_neg (by omega)]; rfl
    rw [hs]
    exact ⟨rfl, A1, c1, A2, c2, A3, c3, hK'⟩
set_option maxRecDepth 100000 in
set_option maxHeartbeats 1600000 in
theorem l10DoK {w0 : World} {m : List Ent} {rest : List Value} {T : TypeId} {g : Nat} (t : Tri) (k : Int) (w : World) (hM : MB w0 g rest T t m w) (hv : vmach t = true) (hk : 1 ≤ k ∧ k ≤ 6) :
    Calls Tryd.prog 138 #[.pointer (some ⟨g, 0, none⟩), .int .i64 k] w fun e w' => e = .returned (.bool (strokeT k t).2) ∧ MB w0 g rest T (strokeT k t).1 m w' := by
  have hk' : k = 1 ∨ k = 2 ∨ k = 3 ∨ k = 4 ∨ k = 5 ∨ k = 6 := by omega
  clear hk
  rcases hk' with rfl | rfl | rfl | rfl | rfl | rfl
  · have KT := Lib.hid (l10TurnK t 1 w hM hv (.inl rfl))
    obtain ⟨r, hr⟩ : ∃ r, strokeT 1 t = r := ⟨_, rfl⟩
    have HR := Lib.hid (show turnT t 1 = r by rw [← hr]; rfl)
    rw [hr]
    clear hr hM hv
    go_enter Tryd.func138, Tryd.ntmps138
    go_wp2_with (go_at_call 159; refine KT.out.mono ?_; rw [HR.out]; rintro e w' ⟨rfl, hM⟩)
    go_ret
    exact ⟨rfl, hM⟩
  · have KT := Lib.hid (l10TurnK t (-1) w hM hv (.inr rfl))
    obtain ⟨r, hr⟩ : ∃ r, strokeT 2 t = r := ⟨_, rfl⟩
    have HR := Lib.hid (show turnT t (-1) = r by rw [← hr]; rfl)
    rw [hr]
    clear hr hM hv
    go_enter Tryd.func138, Tryd.ntmps138
    go_wp2_with (go_at_call 159; refine KT.out.mono ?_; rw [HR.out]; rintro e w' ⟨rfl, hM⟩)
    go_ret
    exact ⟨rfl, hM⟩
  · have KT := (l10ShiftM t 3 1 w hM hv (.inl ⟨rfl, rfl⟩))
    obtain ⟨r, hr⟩ : ∃ r, strokeT 3 t = r := ⟨_, rfl⟩
    rw [hr] at KT ⊢
    have KT := Lib.hid KT
    clear hr hM hv
    go_enter Tryd.func138, Tryd.ntmps138
    go_wp2_with (go_at_call 160; refine KT.out.mono ?_; rintro e w' ⟨rfl, hM⟩)
    go_ret
    exact ⟨rfl, hM⟩
  · have KT := (l10ShiftM t 4 (-1) w hM hv (.inr ⟨rfl, rfl⟩))
    obtain ⟨r, hr⟩ : ∃ r, strokeT 4 t = r := ⟨_, rfl⟩
    rw [hr] at KT ⊢
    have KT := Lib.hid KT
    clear hr hM hv
    go_enter Tryd.func138, Tryd.ntmps138
    go_wp2_with (go_at_call 160; refine KT.out.mono ?_; rintro e w' ⟨rfl, hM⟩)
    go_ret
    exact ⟨rfl, hM⟩
  · obtain ⟨k1, k2, k3, -⟩ := vmach_all hv
    obtain ⟨-, ⟨n3, n4⟩, -, -⟩ := vreg_iff.1 k2
    obtain ⟨-, ⟨n5, n6⟩, -, -⟩ := vreg_iff.1 k3
    have hS : strokeT 5 t = (⟨t.a, ⟨t.b.base, List.replicate t.b.digits.length 0⟩, ⟨t.s.base, List.replicate t.s.digits.length 0⟩, t.carry⟩, false) := by unfold strokeT; simp [digD_zero]
    rw [hS]
    obtain ⟨A1, c1, A2, c2, A3, c3, hK⟩ := hM
    clear hS hv k1 k2 k3
    obtain ⟨a1, a2, a3⟩ := hK.blkAt
    go_enter Tryd.func138, Tryd.ntmps138
    go_wp2_with fail
    refine (l10ZeroK (cs := (.int .i64 t.a.base :: .slice A1 t.a.digits.length c1 :: .int .i64 t.b.base :: .slice A2 t.b.digits.length c2 :: .int .i64 t.s.base :: .slice A3 t.s.digits.length c3 :: .int .i64 t.carry :: rest)) (o := 2) A2 c2 t.b.digits w hK.sw2 rfl (by omega) (by omega)).mono ?_; rintro e w1 ⟨rfl, hK1⟩
    go_wp2_with fail
    refine (l10ZeroK (cs := (.int .i64 t.a.base :: .slice A1 t.a.digits.length c1 :: .int .i64 t.b.base :: .slice A2 t.b.digits.length c2 :: .int .i64 t.s.base :: .slice A3 t.s.digits.length c3 :: .int .i64 t.carry :: rest)) (o := 4) A3 c3 t.s.digits w1 (hK1.sw1.sw2) rfl (by omega) (by omega)).mono ?_; rintro e w2 ⟨rfl, hK2⟩
    go_wp2_with fail
    go_ret
    refine ⟨rfl, A1, c1, A2, c2, A3, c3, ?_⟩
    simp only [List.length_replicate]
    exact hK2.sw1
  · obtain ⟨k1, k2, k3, -⟩ := vmach_all hv
    obtain ⟨-, ⟨n1, n2⟩, -, -⟩ := vreg_iff.1 k1
    have hS : strokeT 6 t = ({ t with a := ⟨t.a.base, List.replicate t.a.digits.length 0⟩ }, false) := by unfold strokeT; simp [digD_zero]
    rw [hS]
    obtain ⟨A1, c1, A2, c2, A3, c3, hK⟩ := hM
    clear hS hv k1 k2 k3
    go_enter Tryd.func138, Tryd.ntmps138
    go_wp2_with fail
    refine (l10ZeroK (cs := (.int .i64 t.a.base :: .slice A1 t.a.digits.length c1 :: .int .i64 t.b.base :: .slice A2 t.b.digits.length c2 :: .int .i64 t.s.base :: .slice A3 t.s.digits.length c3 :: .int .i64 t.carry :: rest)) (o := 0) A1 c1 t.a.digits w hK.sw3 rfl (by omega) (by omega)).mono ?_; rintro e w1 ⟨rfl, hK1⟩
    go_wp2_with fail
    go_ret
    refine ⟨rfl, A1, c1, A2, c2, A3, c3, ?_⟩
    simp only [List.length_replicate]
    exact hK1.sw3.sw3.sw3
end Go.Proofs.YtgpmngcemnnpmaaDoor

namespace Go.Proofs.YtgpmngcemnnpmaaDoor
open Go.RowKit Go.Sort
end Go.Proofs.YtgpmngcemnnpmaaDoor

namespace Go.Proofs.YtgpmngcemnnpmaaDoor
open Go.RowKit Go.Sort
/-- what SetValue returns for a valid machine -/
def SetRet (t : Tri) (v : Int) (w : World) (e : Ending) (w' : World) : Prop :=
  (v < pw t.a.base t.a.digits.length ∧ ∃ A1 c1 A2 c2 A3 c3, e = .returned (.tuple #[.agg #[.int .i64 t.a.base, .slice A1 (setT t v).a.digits.length c1, .int .i64 t.b.base, .slice A2 t.b.digits.length c2, .int .i64 t.s.base, .slice A3 t.s.digits.length c3, .int .i64 t.carry], .int .i64 0]) ∧
    Kn w [rowI A3 c3 t.s.digits, rowI A2 c2 t.b.digits, rowI A1 c1 (setT t v).a.digits] w') ∨
  (¬ v < pw t.a.base t.a.digits.length ∧ e = .returned (.tuple #[.agg #[.int .i64 0, .slice none 0 0, .int .i64 0, .slice none 0 0, .int .i64 0, .slice none 0 0, .int .i64 0], .int .i64 2]) ∧ Below w.heap.size w w')
set_option maxRecDepth 100000 in
set_option maxHeartbeats 3200000 in
theorem SetValueV_any (t : Tri) (A1 A2 A3 : Option Addr) (c1 c2 c3 : Nat) (v : Int) (w : World) (r1 : RI w A1 t.a.digits.length t.a.digits) (r2 : RI w A2 t.b.digits.length t.b.digits) (r3 : RI w A3 t.s.digits.length t.s.digits) (hv : vmach t = true) (h0 : 0 ≤ v) (h1 : v ≤ 1000000000000) :
    Calls Tryd.prog 139 #[.agg #[.int .i64 t.a.base, .slice A1 t.a.digits.length c1, .int .i64 t.b.base, .slice A2 t.b.digits.length c2, .int .i64 t.s.base, .slice A3 t.s.digits.length c3, .int .i64 t.carry], .int .i64 v] w (SetRet t v w) := by
  obtain ⟨k1, k2, k3, e1, e2, f1, f2, l1, p0, p1⟩ := vmach_all hv
  obtain ⟨⟨b1, b2⟩, ⟨n1, n2⟩, hd1, -⟩ := vreg_iff.1 k1
  obtain ⟨⟨b3, b4⟩, ⟨n3, n4⟩, hd2, -⟩ := vreg_iff.1 k2
  obtain ⟨⟨b5, b6⟩, ⟨n5, n6⟩, hd3, -⟩ := vreg_iff.1 k3
  have hz : Sized t := ⟨n1, n3, n5, n2, n4, n6⟩
  have hT : ∀ W, Kn w [.blk (w.heap.size + 1) [.int .i64 0, .slice none 0 0, .int .i64 0, .slice none 0 0, .int .i64 0, .slice none 0 0, .int .i64 0] 95, .blk w.heap.size [.int .i64 t.a.base, .slice A1 t.a.digits.length c1, .int .i64 t.b.base, .slice A2 t.b.digits.length c2, .int .i64 t.s.base, .slice A3 t.s.digits.length c3, .int .i64 t.carry] 95] W → TriC W ⟨w.heap.size, 0, none⟩ t A1 c1 A2 c2 A3 c3 := fun W h =>
    ⟨⟨h.drop.blkAt.1 0, h.drop.blkAt.1 1, h.drop.blkAt.1 2, h.drop.blkAt.1 3, h.drop.blkAt.1 4, h.drop.blkAt.1 5, h.drop.blkAt.1 6⟩, r1.below h.below, r2.below h.below, r3.below h.below⟩
  have KO := Lib.hid (fun W h => calls_val (l10Ok_any ⟨w.heap.size, 0, none⟩ t W (hT W h).tri ⟨by unfold SmallReg; omega, by unfold SmallReg; omega, by unfold SmallReg; omega⟩) (congrArg Value.bool hv))
  have KN := (fun W => l10Power_any t.a.base t.a.digits.length W b1 b2 (by omega))
  have hmo := pw_mono t.a.base (by omega) _ _ l1
  rw [← e1] at f1
  have hpc : powS t.a.base t.a.digits.length = pw t.a.base t.a.digits.length := by unfold powS; omega
  rw [hpc] at KN
  have hp1 := pw_pos t.a.base b1 t.a.digits.length
  have KW := Lib.hid (fun W h => l10Own_any w.heap.size t A1 A2 A3 c1 c2 c3 W (hT W h) hz)
  have KD := (fun W => l02NewV_any t.a.base t.a.digits.length v W b1 b2 (by omega) h0 (by omega))
  have hst : (setT t v).a.digits = digD t.a.base t.a.digits.length v := rfl
  obtain ⟨N, hN⟩ : ∃ N, pw t.a.base t.a.digits.length = N := ⟨_, rfl⟩
  have HN := Lib.hid hN
  rw [hN] at KN hp1 hmo
  obtain ⟨ds, hds⟩ : ∃ ds, digD t.a.base t.a.digits.length v = ds := ⟨_, rfl⟩
  rw [hds] at KD hst
  have HST := Lib.hid hst
  have KN := Lib.hid KN
  have KD := Lib.hid KD
  have hwn : IntKind.i64.wrap (N - 1) = N - 1 := wrapI64 (by omega)
  clear hst hds hN hpc hT r1 r2 r3 k1 k2 k3 hd1 hd2 hd3 e1 e2 hv hz
  rcases hbt : betB v 0 (N - 1) with _ | _
  · have KI := Lib.hid (fun W => calls_val (l00In_any v 0 (N - 1) W) (congrArg Value.bool hbt))
    have HV := Lib.hid (show ¬ v < N by have := betB_false.1 hbt; omega)
    clear hbt h0 h1 p0 p1
    go_enter Tryd.func139, Tryd.ntmps139
    go_wp2_with fail
    refine Calls.kn (((Kn.nil w).al [.int .i64 t.a.base, .slice A1 t.a.digits.length c1, .int .i64 t.b.base, .slice A2 t.b.digits.length c2, .int .i64 t.s.base, .slice A3 t.s.digits.length c3, .int .i64 t.carry] 95).al [.int .i64 0, .slice none 0 0, .int .i64 0, .slice none 0 0, .int .i64 0, .slice none 0 0, .int .i64 0] 95) ?_; intro w1 hK1
    simp only [World.size_alloc] at hK1
    refine (KO.out _ hK1).mono ?_; rintro e w2 ⟨rfl, q, rfl⟩
    have hK2 := hK1.drewN q
    generalize w1.drewN q = w2 at hK2 ⊢
    clear hK1
    obtain ⟨a1, a2, a3, d1, d2, d3, -⟩ := hK2.cells
    go_wp2_with (first | (go_at_call 84; refine (KN.out _).mono ?_; rintro e w' ⟨rfl, rfl⟩) | (go_at_call 77; refine (KI.out _).mono ?_; rintro e w' ⟨rfl, rfl⟩))
    refine bodyPost.kn (((((((hK2.st 0 (.int .i64 0)).st 1 (.slice none 0 0)).st 2 (.int .i64 0)).st 3 (.slice none 0 0)).st 4 (.int .i64 0)).st 5 (.slice none 0 0)).st 6 (.int .i64 0)) ?_; intro w6 hK6
    clear a1 a2 a3 d1 d2 d3
    obtain ⟨a1, a2, a3, -⟩ := hK6.cells
    exact bodyPost_ret (v := .tuple #[.agg #[.int .i64 0, .slice none 0 0, .int .i64 0, .slice none 0 0, .int .i64 0, .slice none 0 0, .int .i64 0], .int .i64 2]) (by simp [results, Tryd.results139, go_sem, a1]) rfl (.inr ⟨by rw [HN.out]; have := HV.out; omega, rfl, hK6.below⟩)
  · have KI := Lib.hid (fun W => calls_val (l00In_any v 0 (N - 1) W) (congrArg Value.bool hbt))
    have HV : Hid (v < N) := by have := betB_iff.1 hbt; simp only [Hid]; omega
    clear hbt h0 h1 p0 p1
    go_enter Tryd.func139, Tryd.ntmps139
    go_wp2_with fail
    refine Calls.kn (((Kn.nil w).al [.int .i64 t.a.base, .slice A1 t.a.digits.length c1, .int .i64 t.b.base, .slice A2 t.b.digits.length c2, .int .i64 t.s.base, .slice A3 t.s.digits.length c3, .int .i64 t.carry] 95).al [.int .i64 0, .slice none 0 0, .int .i64 0, .slice none 0 0, .int .i64 0, .slice none 0 0, .int .i64 0] 95) ?_; intro w1 hK1
    simp only [World.size_alloc] at hK1
    refine (KO.out _ hK1).mono ?_; rintro e w2 ⟨rfl, q, rfl⟩
    have hK2 := hK1.drewN q
    generalize w1.drewN q = w2 at hK2 ⊢
    clear hK1
    obtain ⟨a1, a2, a3, d1, d2, d3, -⟩ := hK2.cells
    go_wp2_with (first | (go_at_call 84; refine (KN.out _).mono ?_; rintro e w' ⟨rfl, rfl⟩) | (go_at_call 77; refine (KI.out _).mono ?_; rintro e w' ⟨rfl, rfl⟩))
    refine (KW.out _ hK2).mono ?_; rintro e w3 ⟨B1, h1, B2, h2, B3, h3, rfl, hKC⟩
    have hK3 := hK2.join hKC
    clear hK2 hKC a1 a2 a3 d1 d2 d3
    obtain ⟨a1, a2, a3, d1, d2, d3, -⟩ := hK3.cells
    go_wp2_with fail
    refine Calls.kn (hK3.al [.int .i64 t.a.base, .slice B1 t.a.digits.length h1, .int .i64 t.b.base, .slice B2 t.b.digits.length h2, .int .i64 t.s.base, .slice B3 t.s.digits.length h3, .int .i64 t.carry] 95) ?_; intro w4 hK4
    refine (KD.out _).mono ?_; rintro e w5 ⟨E1, g1, rfl, hKD⟩
    have hK5 := hK4.join hKD
    clear hK3 hK4 hKD a1 a2 a3 d1 d2 d3
    obtain ⟨x1, x2, x3, a1, a2, a3, d1, d2, d3, -⟩ := hK5.cells
    have ne1 := hK5.ne 1 5 rfl rfl (by decide)
    have ne2 := ne1.symm
    go_wp2_with fail
    refine bodyPost.kn ((((((((((((hK5.sw1.st 0 (.int .i64 t.a.base)).st 1 (.slice E1 ds.length g1)).front 5 rfl).st 0 (.int .i64 t.a.base)).st 1 (.slice E1 ds.length g1)).st 2 (.int .i64 t.b.base)).st 3 (.slice B2 t.b.digits.length h2)).st 4 (.int .i64 t.s.base)).st 5 (.slice B3 t.s.digits.length h3)).st 6 (.int .i64 t.carry))).al_ _) ?_; intro w6 hK6
    clear x1 x2 x3 a1 a2 a3 d1 d2 d3
    obtain ⟨a1, a2, a3, -⟩ := hK6.cells
    refine bodyPost_ret (v := .tuple #[.agg #[.int .i64 t.a.base, .slice E1 ds.length g1, .int .i64 t.b.base, .slice B2 t.b.digits.length h2, .int .i64 t.s.base, .slice B3 t.s.digits.length h3, .int .i64 t.carry], .int .i64 0]) (by simp [results, Tryd.results139, go_sem, a1]) rfl (.inl ⟨by rw [HN.out]; exact HV.out, E1, g1, B2, h2, B3, h3, by rw [HST.out], ?_⟩)
    rw [HST.out]
    exact hK6.sel [3, 4, 2] 99 (by decide) (by decide)
end Go.Proofs.YtgpmngcemnnpmaaDoor

namespace Go.Proofs.YtgpmngcemnnpmaaDoor
open Go.RowKit Go.Sort
/-- does a number fit a machine's setting? -/
def fits (t : Tri) (v : Int) : Bool := decide (0 ≤ v ∧ v < pw t.a.base t.a.digits.length)
/-- what SetValue returns for a valid machine and any number -/
def SetG (t : Tri) (v : Int) (w : World) (e : Ending) (w' : World) : Prop :=
  (fits t v = true ∧ ∃ A1 c1 A2 c2 A3 c3, e = .returned (.tuple #[.agg #[.int .i64 t.a.base, .slice A1 (setT t v).a.digits.length c1, .int .i64 t.b.base, .slice A2 t.b.digits.length c2, .int .i64 t.s.base, .slice A3 t.s.digits.length c3, .int .i64 t.carry], .int .i64 0]) ∧
    Kn w [rowI A3 c3 t.s.digits, rowI A2 c2 t.b.digits, rowI A1 c1 (setT t v).a.digits] w') ∨
  (fits t v = false ∧ e = .returned (.tuple #[.agg #[.int .i64 0, .slice none 0 0, .int .i64 0, .slice none 0 0, .int .i64 0, .slice none 0 0, .int .i64 0], .int .i64 2]) ∧ Below w.heap.size w w')
set_option maxRecDepth 100000 in
set_option maxHeartbeats 3200000 in
theorem specSetValueG (t : Tri) (A1 A2 A3 : Option Addr) (c1 c2 c3 : Nat) (v : Int) (w : World) (r1 : RI w A1 t.a.digits.length t.a.digits) (r2 : RI w A2 t.b.digits.length t.b.digits) (r3 : RI w A3 t.s.digits.length t.s.digits) (hv : vmach t = true) :
    Calls Tryd.prog 139 #[.agg #[.int .i64 t.a.base, .slice A1 t.a.digits.length c1, .int .i64 t.b.base, .slice A2 t.b.digits.length c2, .int .i64 t.s.base, .slice A3 t.s.digits.length c3, .int .i64 t.carry], .int .i64 v] w (SetG t v w) := by
  obtain ⟨k1, k2, k3, e1, e2, f1, f2, l1, p0, p1⟩ := vmach_all hv
  obtain ⟨⟨b1, b2⟩, ⟨n1, n2⟩, hd1, -⟩ := vreg_iff.1 k1
  obtain ⟨⟨b3, b4⟩, ⟨n3, n4⟩, hd2, -⟩ := vreg_iff.1 k2
  obtain ⟨⟨b5, b6⟩, ⟨n5, n6⟩, hd3, -⟩ := vreg_iff.1 k3
  have hmo := pw_mono t.a.base (by omega) _ _ l1
  rw [← e1] at f1
  by_cases hin : 0 ≤ v ∧ v ≤ 1000000000000
  · refine (SetValueV_any t A1 A2 A3 c1 c2 c3 v w r1 r2 r3 hv hin.1 hin.2).mono ?_
    rintro e w' (⟨h1, h2⟩ | ⟨h1, h2, h3⟩)
    · exact .inl ⟨decide_eq_true ⟨hin.1, h1⟩, h2⟩
    · exact .inr ⟨decide_eq_false (fun h => h1 h.2), h2, h3⟩
  · have hT : ∀ W, Kn w [.blk (w.heap.size + 1) [.int .i64 0, .slice none 0 0, .int .i64 0, .slice none 0 0, .int .i64 0, .slice none 0 0, .int .i64 0] 95, .blk w.heap.size [.int .i64 t.a.base, .slice A1 t.a.digits.length c1, .int .i64 t.b.base, .slice A2 t.b.digits.length c2, .int .i64 t.s.base, .slice A3 t.s.digits.length c3, .int .i64 t.carry] 95] W → TriC W ⟨w.heap.size, 0, none⟩ t A1 c1 A2 c2 A3 c3 := fun W h =>
      ⟨⟨h.drop.blkAt.1 0, h.drop.blkAt.1 1, h.drop.blkAt.1 2, h.drop.blkAt.1 3, h.drop.blkAt.1 4, h.drop.blkAt.1 5, h.drop.blkAt.1 6⟩, r1.below h.below, r2.below h.below, r3.below h.below⟩
    have KO := Lib.hid (fun W h => calls_val (l10Ok_any ⟨w.heap.size, 0, none⟩ t W (hT W h).tri ⟨by unfold SmallReg; omega, by unfold SmallReg; omega, by unfold SmallReg; omega⟩) (congrArg Value.bool hv))
    have KN := (fun W => l10Power_any t.a.base t.a.digits.length W b1 b2 (by omega))
    have hpc : powS t.a.base t.a.digits.length = pw t.a.base t.a.digits.length := by unfold powS; omega
    rw [hpc] at KN
    have hp1 := pw_pos t.a.base b1 t.a.digits.length
    have HF := Lib.hid (show fits t v = false from decide_eq_false (fun h => hin ⟨h.1, by omega⟩))
    obtain ⟨N, hN⟩ : ∃ N, pw t.a.base t.a.digits.length = N := ⟨_, rfl⟩
    rw [hN] at KN hp1 hmo
    have KN := Lib.hid KN
    have hwn : IntKind.i64.wrap (N - 1) = N - 1 := wrapI64 (by omega)
    have hbt : betB v 0 (N - 1) = false := betB_false.2 (by omega)
    have KI := Lib.hid (fun W => calls_val (l00In_any v 0 (N - 1) W) (congrArg Value.bool hbt))
    clear hN hpc hT r1 r2 r3 k1 k2 k3 hd1 hd2 hd3 e1 e2 hv hbt hin p0 p1
    go_enter Tryd.func139, Tryd.ntmps139
    go_wp2_with fail
    refine Calls.kn (((Kn.nil w).al [.int .i64 t.a.base, .slice A1 t.a.digits.length c1, .int .i64 t.b.base, .slice A2 t.b.digits.length c2, .int .i64 t.s.base, .slice A3 t.s.digits.length c3, .int .i64 t.carry] 95).al [.int .i64 0, .slice none 0 0, .int .i64 0, .slice none 0 0, .int .i64 0, .slice none 0 0, .int .i64 0] 95) ?_; intro w1 hK1
    simp only [World.size_alloc] at hK1
    refine (KO.out _ hK1).mono ?_; rintro e w2 ⟨rfl, q, rfl⟩
    have hK2 := hK1.drewN q
    generalize w1.drewN q = w2 at hK2 ⊢
    clear hK1
    obtain ⟨a1, a2, a3, d1, d2, d3, -⟩ := hK2.cells
    go_wp2_with (first | (go_at_call 84; refine (KN.out _).mono ?_; rintro e w' ⟨rfl, rfl⟩) | (go_at_call 77; refine (KI.out _).mono ?_; rintro e w' ⟨rfl, rfl⟩))
    refine bodyPost.kn (((((((hK2.st 0 (.int .i64 0)).st 1 (.slice none 0 0)).st 2 (.int .i64 0)).st 3 (.slice none 0 0)).st 4 (.int .i64 0)).st 5 (.slice none 0 0)).st 6 (.int .i64 0)) ?_; intro w6 hK6
    clear a1 a2 a3 d1 d2 d3
    obtain ⟨a1, a2, a3, -⟩ := hK6.cells
    exact bodyPost_ret (v := .tuple #[.agg #[.int .i64 0, .slice none 0 0, .int .i64 0, .slice none 0 0, .int .i64 0, .slice none 0 0, .int .i64 0], .int .i64 2]) (by simp [results, Tryd.results139, go_sem, a1]) rfl (.inr ⟨HF.out, rfl, hK6.below⟩)
set_option maxRecDepth 100000 in
set_option maxHeartbeats 3200000 in
theorem SetValueG (t : Tri) (A1 A2 A3 : Option Addr) (c1 c2 c3 : Nat) (v : Int) (w : World) (r1 : RI w A1 t.a.digits.length t.a.digits) (r2 : RI w A2 t.b.digits.length t.b.digits) (r3 : RI w A3 t.s.digits.length t.s.digits) (hv : vmach t = true) (hv1 : v ≤ 9223372036854775807) :
    Calls Tryd.prog 147 #[.agg #[.int .i64 t.a.base, .slice A1 t.a.digits.length c1, .int .i64 t.b.base, .slice A2 t.b.digits.length c2, .int .i64 t.s.base, .slice A3 t.s.digits.length c3, .int .i64 t.carry], .int .i64 v] w (SetG t v w) := by
  obtain ⟨k1, k2, k3, e1, e2, f1, f2, l1, p0, p1⟩ := vmach_all hv
  obtain ⟨⟨b1, b2⟩, ⟨n1, n2⟩, hd1, -⟩ := vreg_iff.1 k1
  obtain ⟨⟨b3, b4⟩, ⟨n3, n4⟩, hd2, -⟩ := vreg_iff.1 k2
  obtain ⟨⟨b5, b6⟩, ⟨n5, n6⟩, hd3, -⟩ := vreg_iff.1 k3
  have hz : Sized t := ⟨n1, n3, n5, n2, n4, n6⟩
  have KO := Lib.hid (fun W (hW : Below w.heap.size w W) => calls_val (ValidMachine_any t A1 A2 A3 c1 c2 c3 W (r1.below hW) (r2.below hW) (r3.below hW) ⟨by unfold SmallReg; omega, by unfold SmallReg; omega, by unfold SmallReg; omega⟩) (congrArg Value.bool hv))
  have hK0 := ((Kn.nil w).al [.int .i64 t.a.base, .slice A1 t.a.digits.length c1, .int .i64 t.b.base, .slice A2 t.b.digits.length c2, .int .i64 t.s.base, .slice A3 t.s.digits.length c3, .int .i64 t.carry] 95).al [.int .i64 0, .slice none 0 0, .int .i64 0, .slice none 0 0, .int .i64 0, .slice none 0 0, .int .i64 0] 95
  simp only [World.size_alloc] at hK0
  by_cases h0 : v < 0
  · have HF := Lib.hid (show fits t v = false from decide_eq_false (fun h => by omega))
    clear k1 k2 k3 hd1 hd2 hd3 e1 e2 hv hz r1 r2 r3
    go_enter Tryd.func147, Tryd.ntmps147
    go_wp2_with fail
    refine Calls.kn hK0 ?_; intro w1 hK1
    refine (KO.out _ hK1.below).mono ?_; rintro e w2 ⟨rfl, hw⟩
    have hK2 := hK1.keep hw
    clear hK1 hw hK0
    obtain ⟨a1, a2, a3, d1, d2, d3, -⟩ := hK2.cells
    go_wp2_with fail
    refine bodyPost.kn (((((((hK2.st 0 (.int .i64 0)).st 1 (.slice none 0 0)).st 2 (.int .i64 0)).st 3 (.slice none 0 0)).st 4 (.int .i64 0)).st 5 (.slice none 0 0)).st 6 (.int .i64 0)) ?_; intro w6 hK6
    clear a1 a2 a3 d1 d2 d3
    obtain ⟨a1, a2, a3, -⟩ := hK6.cells
    exact bodyPost_ret (v := .tuple #[.agg #[.int .i64 0, .slice none 0 0, .int .i64 0, .slice none 0 0, .int .i64 0, .slice none 0 0, .int .i64 0], .int .i64 2]) (by simp [results, Tryd.results147, go_sem, a1]) rfl (.inr ⟨HF.out, rfl, hK6.below⟩)
  · have hrz := restD_zero t.a.base b1 t.a.digits.length v (by omega)
    have HF := Lib.hid (show fits t v = decide (v < pw t.a.base t.a.digits.length) by
      unfold fits
      by_cases h : v < pw t.a.base t.a.digits.length
      · rw [decide_eq_true h, decide_eq_true ⟨by omega, h⟩]
      · rw [decide_eq_false h, decide_eq_false (fun h' => h h'.2)])
    have KW := (fun W (hW : Below w.heap.size w W) => withSetting_any t A1 A2 A3 c1 c2 c3 v W (r1.below hW) (r2.below hW) (r3.below hW) hz b1 b2 (by omega) hv1)
    rw [hrz] at KW
    have HST := Lib.hid (show (setT t v).a.digits = digD t.a.base t.a.digits.length v from rfl)
    obtain ⟨ds, hds⟩ : ∃ ds, digD t.a.base t.a.digits.length v = ds := ⟨_, rfl⟩
    rw [hds] at KW HST
    have hK := KW
    clear hds hK
    rcases hlt : decide (v < pw t.a.base t.a.digits.length) with _ | _
    · rw [hlt] at KW HF
      have KW := Lib.hid KW
      clear hlt hrz k1 k2 k3 hd1 hd2 hd3 e1 e2 hv hz r1 r2 r3
      go_enter Tryd.func147, Tryd.ntmps147
      go_wp2_with fail
      refine Calls.kn hK0 ?_; intro w1 hK1
      refine (KO.out _ hK1.below).mono ?_; rintro e w2 ⟨rfl, hw⟩
      have hK2 := hK1.keep hw
      clear hK1 hw hK0
      obtain ⟨a1, a2, a3, d1, d2, d3, -⟩ := hK2.cells
      go_wp2_with fail
      refine (KW.out _ hK2.below).mono ?_; rintro e w3 ⟨B1, g1, B2, g2, B3, g3, rfl, hKC⟩
      have hK3 := hK2.join hKC
      clear hK2 hKC a1 a2 a3 d1 d2 d3
      obtain ⟨a1, a2, a3, d1, d2, d3, -⟩ := hK3.cells
      go_wp2_with fail
      refine bodyPost.kn (((((((hK3.front 3 rfl).st 0 (.int .i64 0)).st 1 (.slice none 0 0)).st 2 (.int .i64 0)).st 3 (.slice none 0 0)).st 4 (.int .i64 0)).st 5 (.slice none 0 0) |>.st 6 (.int .i64 0) |>.al_ (.cells #[.int .i64 t.a.base, .slice B1 ds.length g1, .int .i64 t.b.base, .slice B2 t.b.digits.length g2, .int .i64 t.s.base, .slice B3 t.s.digits.length g3, .int .i64 t.carry] 95)) ?_; intro w6 hK6
      clear a1 a2 a3 d1 d2 d3
      obtain ⟨a1, a2, a3, -⟩ := hK6.cells
      exact bodyPost_ret (v := .tuple #[.agg #[.int .i64 0, .slice none 0 0, .int .i64 0, .slice none 0 0, .int .i64 0, .slice none 0 0, .int .i64 0], .int .i64 2]) (by simp [results, Tryd.results147, go_sem, a1]) rfl (.inr ⟨HF.out, rfl, hK6.below⟩)
    · rw [hlt] at KW HF
      have KW := Lib.hid KW
      clear hlt hrz k1 k2 k3 hd1 hd2 hd3 e1 e2 hv hz r1 r2 r3
      go_enter Tryd.func147, Tryd.ntmps147
      go_wp2_with fail
      refine Calls.kn hK0 ?_; intro w1 hK1
      refine (KO.out _ hK1.below).mono ?_; rintro e w2 ⟨rfl, hw⟩
      have hK2 := hK1.keep hw
      clear hK1 hw hK0
      obtain ⟨a1, a2, a3, d1, d2, d3, -⟩ := hK2.cells
      go_wp2_with fail
      refine (KW.out _ hK2.below).mono ?_; rintro e w3 ⟨B1, g1, B2, g2, B3, g3, rfl, hKC⟩
      have hK3 := hK2.join hKC
      clear hK2 hKC a1 a2 a3 d1 d2 d3
      obtain ⟨a1, a2, a3, d1, d2, d3, -⟩ := hK3.cells
      go_wp2_with fail
      refine bodyPost.kn (((((((hK3.front 3 rfl).st 0 (.int .i64 t.a.base)).st 1 (.slice B1 ds.length g1)).st 2 (.int .i64 t.b.base)).st 3 (.slice B2 t.b.digits.length g2)).st 4 (.int .i64 t.s.base)).st 5 (.slice B3 t.s.digits.length g3) |>.st 6 (.int .i64 t.carry) |>.al_ (.cells #[.int .i64 t.a.base, .slice B1 ds.length g1, .int .i64 t.b.base, .slice B2 t.b.digits.length g2, .int .i64 t.s.base, .slice B3 t.s.digits.length g3, .int .i64 t.carry] 95)) ?_; intro w6 hK6
      clear a1 a2 a3 d1 d2 d3
      obtain ⟨a1, a2, a3, -⟩ := hK6.cells
      refine bodyPost_ret (v := .tuple #[.agg #[.int .i64 t.a.base, .slice B1 ds.length g1, .int .i64 t.b.base, .slice B2 t.b.digits.length g2, .int .i64 t.s.base, .slice B3 t.s.digits.length g3, .int .i64 t.carry], .int .i64 0]) (by simp [results, Tryd.results147, go_sem, a1]) rfl (.inl ⟨HF.out, B1, g1, B2, g2, B3, g3, by rw [HST.out], ?_⟩)
      rw [HST.out]
      exact hK6.sel [1, 2, 3] 99 (by decide) (by decide)
end Go.Proofs.YtgpmngcemnnpmaaDoor

namespace Go.Proofs.YtgpmngcemnnpmaaDoor
open Go.RowKit Go.Sort
/-- the rows of a machine are among the things that are owned -/
def Own3 (m : List Ent) (A1 : Option Addr) (c1 : Nat) (A2 : Option Addr) (c2 : Nat) (A3 : Option Addr) (c3 : Nat) (t : Tri) : Prop := rowI A1 c1 t.a.digits ∈ m ∧ rowI A2 c2 t.b.digits ∈ m ∧ rowI A3 c3 t.s.digits ∈ m
theorem Own3.mono {m m' : List Ent} {A1 A2 A3 : Option Addr} {c1 c2 c3 : Nat} {t : Tri} (h : Own3 m A1 c1 A2 c2 A3 c3 t) (hs : ∀ e ∈ m, e ∈ m') : Own3 m' A1 c1 A2 c2 A3 c3 t := ⟨hs _ h.1, hs _ h.2.1, hs _ h.2.2⟩
theorem Kn.riM {w0 w : World} {m : List Ent} {A : Option Addr} {c : Nat} {ds : List Int} (h : Kn w0 m w) (he : rowI A c ds ∈ m) : RI w A ds.length ds := by
  obtain ⟨i, hi⟩ := List.getElem?_of_mem he
  exact Kn.riv (h.front i hi)
theorem Own3.ri {w0 w : World} {m m' : List Ent} {A1 A2 A3 : Option Addr} {c1 c2 c3 : Nat} {t : Tri} (h : Own3 m A1 c1 A2 c2 A3 c3 t) (hK : Kn w0 m' w) (hs : ∀ e ∈ m, e ∈ m') : RI w A1 t.a.digits.length t.a.digits ∧ RI w A2 t.b.digits.length t.b.digits ∧ RI w A3 t.s.digits.length t.s.digits :=
  ⟨hK.riM (hs _ h.1), hK.riM (hs _ h.2.1), hK.riM (hs _ h.2.2)⟩
/-- the same, and all things of F beside them -/
def Own3F (F m : List Ent) (A1 : Option Addr) (c1 : Nat) (A2 : Option Addr) (c2 : Nat) (A3 : Option Addr) (c3 : Nat) (t : Tri) : Prop := Own3 m A1 c1 A2 c2 A3 c3 t ∧ ∀ e ∈ F, e ∈ m
theorem Own3F.mono {F m m' : List Ent} {A1 A2 A3 : Option Addr} {c1 c2 c3 : Nat} {t : Tri} (h : Own3F F m A1 c1 A2 c2 A3 c3 t) (hs : ∀ e ∈ m, e ∈ m') : Own3F F m' A1 c1 A2 c2 A3 c3 t := ⟨h.1.mono hs, fun e he => hs _ (h.2 e he)⟩
/-- a session in block g; the things of F are kept beside it -/
def SesI (F : List Ent) (w0 : World) (g : Nat) (s : SS) (w : World) : Prop := ∃ U1 u1 U2 u2 U3 u3 A1 c1 A2 c2 A3 c3 SA sc BA bc m, Kn w0 (.blk g [.int .i64 s.start.a.base, .slice U1 s.start.a.digits.length u1, .int .i64 s.start.b.base, .slice U2 s.start.b.digits.length u2, .int .i64 s.start.s.base, .slice U3 s.start.s.digits.length u3, .int .i64 s.start.carry, .int .i64 s.m.a.base, .slice A1 s.m.a.digits.length c1, .int .i64 s.m.b.base, .slice A2 s.m.b.digits.length c2, .int .i64 s.m.s.base, .slice A3 s.m.s.digits.length c3, .int .i64 s.m.carry, .slice SA s.str.length sc, .slice BA s.bel.length bc, .bool s.ended] 104 :: rowI SA sc s.str :: rowI BA bc s.bel :: m) w ∧ Own3F F m U1 u1 U2 u2 U3 u3 s.start ∧ Own3 m A1 c1 A2 c2 A3 c3 s.m
theorem lineS_ended {s : SS} (i : Int) (bs : List UInt8) (h : s.ended = true) : lineS s i bs = (s, 5) := by unfold lineS; rw [if_pos h]
theorem box7s {w0 w : World} {m : List Ent} {g : Nat} {v0 v1 v2 v3 v4 v5 v6 p0 p1 p2 p3 p4 p5 p6 : Value} {l : List Value} {T : TypeId} (h : Kn w0 (.blk g (p0 :: p1 :: p2 :: p3 :: p4 :: p5 :: p6 :: v0 :: v1 :: v2 :: v3 :: v4 :: v5 :: v6 :: l) T :: m) w) :
    w.cell? ⟨g, 7, none⟩ = some v0 ∧ w.cell? ⟨g, 8, none⟩ = some v1 ∧ w.cell? ⟨g, 9, none⟩ = some v2 ∧ w.cell? ⟨g, 10, none⟩ = some v3 ∧ w.cell? ⟨g, 11, none⟩ = some v4 ∧ w.cell? ⟨g, 12, none⟩ = some v5 ∧ w.cell? ⟨g, 13, none⟩ = some v6 :=
  ⟨h.blkAt.1 7, h.blkAt.1 8, h.blkAt.1 9, h.blkAt.1 10, h.blkAt.1 11, h.blkAt.1 12, h.blkAt.1 13⟩
attribute [local go_sem ↓] Go.wp_at_zero Go.wp_at_succ
set_option maxRecDepth 100000 in
set_option maxHeartbeats 6400000 in
theorem lineI_stroke {F : List Ent} {w0 : World} {g k : Nat} (s : SS) (i : Int) (L : ByteArray) (w : World) (hS : SesI F w0 g s w) (hg : s.Good k) (hk : k ≤ 1000000) (he : s.ended = false) (hq : kindOf (strB L) ≠ 0) :
    Calls Tryd.prog 120 #[.pointer (some ⟨g, 0, none⟩), .int .i64 i, .string L] w fun e w' => e = .returned (.int .i64 0) ∧ SesI F w0 g (lineS s i (strB L)).1 w' := by
  have HKN := (fun W => strokeNamed_any L W)
  have hb := kindOf_bd (strB L)
  have HLS := Lib.hid (show (lineS s i (strB L)).1 = ⟨s.start, (strokeT (kindOf (strB L)) s.m).1, s.str ++ [kindOf (strB L)], if (strokeT (kindOf (strB L)) s.m).2 then s.bel ++ [i] else s.bel, s.ended⟩ by
    unfold lineS; rw [if_neg (by rw [he]; decide), if_pos hq, he])
  rw [decide_eq_true hq] at HKN
  obtain ⟨kd, hkd⟩ : ∃ kd, kindOf (strB L) = kd := ⟨_, rfl⟩
  rw [hkd] at HKN hb hq HLS
  have hk1 : 1 ≤ kd ∧ kd ≤ 6 := by omega
  have KT := (fun (A1 A2 A3 : Option Addr) (c1 c2 c3 : Nat) W r1 r2 r3 => stroke_any s.m A1 A2 A3 c1 c2 c3 kd W r1 r2 r3 hg.m hk1)
  obtain ⟨⟨t, bell⟩, hr⟩ : ∃ r, strokeT kd s.m = r := ⟨_, rfl⟩
  rw [hr] at KT HLS
  replace HKN := Lib.hid HKN
  replace KT := Lib.hid KT
  have hsl := hg.str
  have hsl10 : s.str.length ≤ 10000000 := by omega
  have hbl := hg.bel
  clear hr hkd hq hg
  obtain ⟨U1, u1, U2, u2, U3, u3, A1, c1, A2, c2, A3, c3, SA, sc, BA, bc, m, hK, hu, hm⟩ := hS
  have HU := Lib.hid hu
  have HM := Lib.hid hm
  clear hu hm
  obtain ⟨a1, a2, a3⟩ := hK.blkAt
  go_enter Tryd.func120, Tryd.ntmps120
  go_wp2_with fail
  refine (HKN.out _).mono ?_; rintro e w1 ⟨rfl, hw⟩
  have hK1 := hK.keep hw
  clear a1 a2 a3 hK hw
  obtain ⟨a1, a2, a3⟩ := hK1.blkAt
  go_wp2_with fail
  obtain ⟨r1, r2, r3⟩ := HM.out.ri hK1 (fun e h => by simp [h])
  refine (KT.out _ _ _ _ _ _ _ r1 r2 r3).mono ?_; rintro e w2 ⟨B1, d1, B2, d2, B3, d3, rfl, hKn⟩
  have hK2 : Kn w0 (rowI SA sc s.str :: .blk g [.int .i64 s.start.a.base, .slice U1 s.start.a.digits.length u1, .int .i64 s.start.b.base, .slice U2 s.start.b.digits.length u2, .int .i64 s.start.s.base, .slice U3 s.start.s.digits.length u3, .int .i64 s.start.carry, .int .i64 s.m.a.base, .slice A1 s.m.a.digits.length c1, .int .i64 s.m.b.base, .slice A2 s.m.b.digits.length c2, .int .i64 s.m.s.base, .slice A3 s.m.s.digits.length c3, .int .i64 s.m.carry, .slice SA s.str.length sc, .slice BA s.bel.length bc, .bool s.ended] 104 :: rowI BA bc s.bel :: rowI B3 d3 t.s.digits :: rowI B2 d2 t.b.digits :: rowI B1 d1 t.a.digits :: m) w2 := (hK1.join hKn).sel [4, 3, 5, 0, 1, 2] 6 (by decide) (by decide)
  clear a1 a2 a3 hK1 hKn r1 r2 r3
  obtain ⟨a1, a2, a3, -⟩ := hK2.cells
  go_upto_region 6 with fail
  refine Code.wp.kn ((hK2.al [.int .i64 t.a.base, .slice B1 t.a.digits.length d1, .int .i64 t.b.base, .slice B2 t.b.digits.length d2, .int .i64 t.s.base, .slice B3 t.s.digits.length d3, .int .i64 t.carry] 95).sel [1, 0, 2, 3] 4 (by decide) (by decide)) ?_; intro w3 hK3
  clear a1 a2 a3
  obtain ⟨g9, hg9⟩ : ∃ g, w2.heap.size = g := ⟨_, rfl⟩
  rw [hg9] at hK3 ⊢
  clear hg9 hK2
  replace hK3 : Kn w0 (rowI SA sc s.str :: .blk g9 [.int .i64 t.a.base, .slice B1 t.a.digits.length d1, .int .i64 t.b.base, .slice B2 t.b.digits.length d2, .int .i64 t.s.base, .slice B3 t.s.digits.length d3, .int .i64 t.carry] 95 :: .blk g [.int .i64 s.start.a.base, .slice U1 s.start.a.digits.length u1, .int .i64 s.start.b.base, .slice U2 s.start.b.digits.length u2, .int .i64 s.start.s.base, .slice U3 s.start.s.digits.length u3, .int .i64 s.start.carry, .int .i64 s.m.a.base, .slice A1 s.m.a.digits.length c1, .int .i64 s.m.b.base, .slice A2 s.m.b.digits.length c2, .int .i64 s.m.s.base, .slice A3 s.m.s.digits.length c3, .int .i64 s.m.carry, .slice SA s.str.length sc, .slice BA s.bel.length bc, .bool s.ended] 104 :: rowI BA bc s.bel :: rowI B3 d3 t.s.digits :: rowI B2 d2 t.b.digits :: rowI B1 d1 t.a.digits :: m) w3 := hK3
  obtain ⟨str', hstr⟩ : ∃ l, s.str ++ [kd] = l := ⟨_, rfl⟩
  rw [hstr] at HLS
  have HSTR := Lib.hid hstr
  clear hstr
  obtain ⟨b1, b2, b3, a1, a2, a3, -⟩ := hK3.cells
  have hA : Kn w0 (.blk w3.heap.size [.int .i64 kd] 2 :: .row (.slice SA s.str.length sc) 2 1 s.str.length (s.str.map (Value.int .i64)) :: .blk g9 [.int .i64 t.a.base, .slice B1 t.a.digits.length d1, .int .i64 t.b.base, .slice B2 t.b.digits.length d2, .int .i64 t.s.base, .slice B3 t.s.digits.length d3, .int .i64 t.carry] 95 :: _) _ := (hK3.al [.int .i64 kd] 2).drew
  go_region_law (refine kn_stepI (by rfl) _ _ (by rfl) (.slice SA s.str.length sc) s.str (by rfl) (by rfl) hA hsl10 ?_; intro v5 w6 hK9; rw [HSTR.out] at hK9; obtain ⟨A5, c5, rfl⟩ := row_form hK9.at0; clear b1 b2 b3 a1 a2 a3; obtain ⟨x1, x2, x3, a1, a2, a3, -⟩ := hK9.cells)
  all_goals
    have hKb := (((((((hK9.front 2 rfl).st 7 (.int .i64 t.a.base)).st 8 (.slice B1 t.a.digits.length d1)).st 9 (.int .i64 t.b.base)).st 10 (.slice B2 t.b.digits.length d2)).st 11 (.int .i64 t.s.base)).st 12 (.slice B3 t.s.digits.length d3)).st 13 (.int .i64 t.carry) |>.st 14 (.slice A5 str'.length c5)
    go_upto_region 7 with fail
    refine Code.wp.kn (w0 := w0) (m := .blk g [.int .i64 s.start.a.base, .slice U1 s.start.a.digits.length u1, .int .i64 s.start.b.base, .slice U2 s.start.b.digits.length u2, .int .i64 s.start.s.base, .slice U3 s.start.s.digits.length u3, .int .i64 s.start.carry, .int .i64 t.a.base, .slice B1 t.a.digits.length d1, .int .i64 t.b.base, .slice B2 t.b.digits.length d2, .int .i64 t.s.base, .slice B3 t.s.digits.length d3, .int .i64 t.carry, .slice A5 str'.length c5, .slice BA s.bel.length bc, .bool s.ended] 104 :: rowI A5 c5 str' :: rowI BA bc s.bel :: rowI B3 d3 t.s.digits :: rowI B2 d2 t.b.digits :: rowI B1 d1 t.a.digits :: m) (hKb.sel [0, 1, 3, 4, 5, 6] 7 (by decide) (by decide)) ?_; intro w7 hK7
    clear hKb x1 x2 x3 a1 a2 a3 hA hK9
    have HK7 := Lib.hid hK7
    obtain ⟨a1, a2, a3, -⟩ := hK7.cells
    rcases bell with _ | _
    · go_wp2_with fail
      go_ret
      have hls := HLS.out
      simp only [Bool.false_eq_true, if_false] at hls
      rw [hls]
      exact ⟨rfl, U1, u1, U2, u2, U3, u3, B1, d1, B2, d2, B3, d3, A5, c5, BA, bc, rowI B3 d3 t.s.digits :: rowI B2 d2 t.b.digits :: rowI B1 d1 t.a.digits :: m, HK7.out, HU.out.mono (fun e h => by simp [h]), ⟨by simp, by simp, by simp⟩⟩
    · have hA : Kn w0 (.blk w7.heap.size [.int .i64 i] 2 :: .row (.slice BA s.bel.length bc) 2 1 s.bel.length (s.bel.map (Value.int .i64)) :: _) _ := (hK7.front 2 rfl).al [.int .i64 i] 2
      obtain ⟨bel', hbel⟩ : ∃ l, s.bel ++ [i] = l := ⟨_, rfl⟩
      rw [hbel] at HLS
      have HBEL := Lib.hid hbel
      have hbl10 : s.bel.length ≤ 10000000 := by omega
      clear hbel
      go_wp2_with (at_builtin; refine kn_pushI rfl _ _ rfl (.slice BA s.bel.length bc) s.bel rfl rfl hA hbl10 ?_; intro v8 w8 hK8; rw [HBEL.out] at hK8; obtain ⟨A6, c6, rfl⟩ := row_form hK8.at0; clear a1 a2 a3; obtain ⟨a1, a2, a3, -⟩ := hK8.cells)
      go_ret
      have hls := HLS.out
      simp only [if_true] at hls
      rw [hls]
      exact ⟨rfl, U1, u1, U2, u2, U3, u3, B1, d1, B2, d2, B3, d3, A5, c5, A6, c6, rowI B3 d3 t.s.digits :: rowI B2 d2 t.b.digits :: rowI B1 d1 t.a.digits :: m, ((hK8.front 1 rfl).st 15 (.slice A6 bel'.length c6)).sel [0, 2, 1, 3, 4, 5] 6 (by decide) (by decide), HU.out.mono (fun e h => by simp [h]), ⟨by simp, by simp, by simp⟩⟩
end Go.Proofs.YtgpmngcemnnpmaaDoor

namespace Go.Proofs.YtgpmngcemnnpmaaDoor
open Go.RowKit Go.Sort
end Go.Proofs.YtgpmngcemnnpmaaDoor

namespace Go.Proofs.YtgpmngcemnnpmaaDoor
open Go.RowKit Go.Sort
end Go.Proofs.YtgpmngcemnnpmaaDoor

namespace Go.Proofs.YtgpmngcemnnpmaaDoor
open Go.RowKit Go.Sort
theorem instrOk_bd1 {op arg : Int} (h : instrOk op arg = true) : 1 ≤ op ∧ op ≤ 10 ∧ 0 ≤ arg ∧ arg ≤ 1000000000000 := by
  rcases op_cases op with rfl | rfl | rfl | rfl | rfl | rfl | rfl | rfl | rfl | rfl | h1
  rotate_right 1
  · rw [instrOk_else h1] at h; cases h
  all_goals
    simp [instrOk, betB] at h
    omega
theorem Ev.mono {L : List Ins} {t : Task} {s s' : RS} {b : Bool} (h : Ev L t s s' b) : s.done ≤ s'.done := by
  induction h with
  | s0 => exact Nat.le_refl _
  | sFull h => simp [RS.tick]
  | sStep h he ih => simp only [] at ih; omega
  | rEnd h => exact Nat.le_refl _
  | rCode hi h => exact Nat.le_refl _
  | rSetFull hi hl hc ho h => simp [RS.tick]
  | rSetBad hi hl hc ho h hf => simp
  | rSet hi hl hc ho h hf he ih => simp only [] at ih; omega
  | rLoop hi hl hc ho hm h1 he ih1 ih2 => omega
  | rStr hi hl hc ho h1' h1 he ih1 ih2 => omega
  | lEnd h8 hk => exact Nat.le_refl _
  | lFull h8 h => simp [RS.tick]
  | lOut h8 h h1 ho ih => simp only [] at ih; omega
  | lStep h8 h h1 ho he ih1 ih2 => simp only [] at ih1; omega
/-- what holds at the head of a round of a loop -/
def AtRound (L : List Ins) (x : Ins) (i e : Nat) (s : RS) (k : Nat) (s1 : RS) : Prop :=
  (s1.code = 0 ∧ (x.op = 8 → (k : Int) ≤ x.arg) ∧ ∀ s' b', Ev L (.loop x.op x.arg i e k) s1 s' b' → Ev L (.loop x.op x.arg i e 0) s s' false) ∨ (¬ s1.code = 0 ∧ Ev L (.loop x.op x.arg i e 0) s s1 false)
theorem AtRound.next {L : List Ins} {x : Ins} {i e : Nat} {s s1 s3 : RS} {k : Nat} {b3 : Bool} (HE : ∀ s' b', Ev L (.loop x.op x.arg i e k) s1 s' b' → Ev L (.loop x.op x.arg i e 0) s s' false) (hne : ¬ (x.op = 8 ∧ x.arg ≤ (k : Int))) (hd : ¬ s1.done = 3000)
    (he : Ev L (.run i e) ⟨s1.m, s1.tr, s1.done + 1, 0⟩ s3 b3) (h9 : ¬ (x.op = 9 ∧ b3 = true)) (h8 : x.op = 8 → (k : Int) + 1 ≤ x.arg) : AtRound L x i e s (k + 1) s3 := by
  by_cases hc : s3.code = 0
  · exact .inl ⟨hc, fun h => by have := h8 h; omega, fun s' b' h => HE s' false (Ev.lStep hne hd he ⟨hc, h9⟩ h)⟩
  · exact .inr ⟨hc, HE s3 false (Ev.lOut hne hd he (.inl hc))⟩
end Go.Proofs.YtgpmngcemnnpmaaDoor

namespace Go.Proofs.YtgpmngcemnnpmaaDoor
open Go.RowKit Go.Sort
theorem Ev.stop {L : List Ins} {j tt : Nat} {s s' : RS} {b : Bool} (h : Ev L (.run j tt) s s' b) (hc : ¬ s.code = 0) : s' = s ∧ b = false := by
  cases h <;> first | exact ⟨rfl, rfl⟩ | contradiction
end Go.Proofs.YtgpmngcemnnpmaaDoor

namespace Go.Proofs.YtgpmngcemnnpmaaDoor
open Go.RowKit Go.Sort
end Go.Proofs.YtgpmngcemnnpmaaDoor

namespace Go.Proofs.YtgpmngcemnnpmaaDoor
open Go.RowKit Go.Sort
end Go.Proofs.YtgpmngcemnnpmaaDoor

namespace Go.Proofs.YtgpmngcemnnpmaaDoor
open Go.RowKit Go.Sort
theorem box8 {w0 w : World} {m : List Ent} {g g' : Nat} {v0 v1 v2 v3 v4 v5 v6 y0 y1 : Value} {l : List Value} {r1 r2 r3 r4 : Ent} {T T' : TypeId} (h : Kn w0 (.blk g (v0 :: v1 :: v2 :: v3 :: v4 :: v5 :: v6 :: l) T :: r1 :: r2 :: r3 :: r4 :: .blk g' [y0, y1] T' :: m) w) :
    w.cell? ⟨g, 0, none⟩ = some v0 ∧ w.cell? ⟨g, 1, none⟩ = some v1 ∧ w.cell? ⟨g, 2, none⟩ = some v2 ∧ w.cell? ⟨g, 3, none⟩ = some v3 ∧ w.cell? ⟨g, 4, none⟩ = some v4 ∧ w.cell? ⟨g, 5, none⟩ = some v5 ∧ w.cell? ⟨g, 6, none⟩ = some v6 ∧ w.cell? ⟨g', 1, none⟩ = some y1 :=
  ⟨h.blkAt.1 0, h.blkAt.1 1, h.blkAt.1 2, h.blkAt.1 3, h.blkAt.1 4, h.blkAt.1 5, h.blkAt.1 6, h.drop.drop.drop.drop.drop.blkAt.1 1⟩
end Go.Proofs.YtgpmngcemnnpmaaDoor

namespace Go.Proofs.YtgpmngcemnnpmaaDoor
open Go.RowKit Go.Sort
/-- how a run begins -/
def startR (t : Tri) : RS := ⟨t, [], 0, 0⟩
theorem startR_good {t : Tri} (h : vmach t = true) : (startR t).Good := ⟨h, Nat.le_refl _, fun _ => by simp [startR], by simp [startR]⟩
theorem sized_of {t : Tri} (h : vmach t = true) : Sized t := by
  obtain ⟨q1, q2, q3, -⟩ := vmach_all h
  obtain ⟨-, ⟨n1, n2⟩, -⟩ := vreg_iff.1 q1
  obtain ⟨-, ⟨n3, n4⟩, -⟩ := vreg_iff.1 q2
  obtain ⟨-, ⟨n5, n6⟩, -⟩ := vreg_iff.1 q3
  exact ⟨n1, n3, n5, n2, n4, n6⟩
end Go.Proofs.YtgpmngcemnnpmaaDoor

namespace Go.Proofs.YtgpmngcemnnpmaaDoor
open Go.RowKit Go.Sort
theorem rdN_bd (bs : List UInt8) : -9223372036854775807 ≤ rdN bs ∧ rdN bs ≤ 9223372036854775807 := by
  unfold rdN
  rcases h : rdDec bs with _ | n
  · simp
  · show -9223372036854775807 ≤ n ∧ n ≤ 9223372036854775807
    unfold rdDec at h
    split at h
    · rename_i hc
      injection h with h
      rw [Bool.and_eq_true, Bool.and_eq_true, decide_eq_true_eq] at hc
      have h1 := foldD_bd _ hc.1.2
      have h2 : 10 ^ (signOff bs).length ≤ 10 ^ 18 := Nat.pow_le_pow_right (by omega) hc.1.1.2
      unfold numOf at h
      split at h <;> omega
    · cases h
def setW : ByteArray := ⟨#[115, 101, 116, 32]⟩
def showW : ByteArray := ⟨#[115, 104, 111, 119, 32]⟩
theorem SesI.of {F : List Ent} {w0 w : World} {g : Nat} {s : SS} {U1 U2 U3 A1 A2 A3 SA BA : Option Addr} {u1 u2 u3 c1 c2 c3 sc bc : Nat} {m : List Ent} (hK : Kn w0 (.blk g [.int .i64 s.start.a.base, .slice U1 s.start.a.digits.length u1, .int .i64 s.start.b.base, .slice U2 s.start.b.digits.length u2, .int .i64 s.start.s.base, .slice U3 s.start.s.digits.length u3, .int .i64 s.start.carry, .int .i64 s.m.a.base, .slice A1 s.m.a.digits.length c1, .int .i64 s.m.b.base, .slice A2 s.m.b.digits.length c2, .int .i64 s.m.s.base, .slice A3 s.m.s.digits.length c3, .int .i64 s.m.carry, .slice SA s.str.length sc, .slice BA s.bel.length bc, .bool s.ended] 104 :: rowI SA sc s.str :: rowI BA bc s.bel :: m) w) (hu : Own3F F m U1 u1 U2 u2 U3 u3 s.start) (hm : Own3 m A1 c1 A2 c2 A3 c3 s.m) : SesI F w0 g s w :=
  ⟨U1, u1, U2, u2, U3, u3, A1, c1, A2, c2, A3, c3, SA, sc, BA, bc, m, hK, hu, hm⟩
theorem lineI_ended {F : List Ent} {w0 : World} {g : Nat} (s : SS) (i : Int) (L : ByteArray) (w : World) (hS : SesI F w0 g s w) (he : s.ended = true) :
    Calls Tryd.prog 120 #[.pointer (some ⟨g, 0, none⟩), .int .i64 i, .string L] w fun e w' => e = .returned (.int .i64 (lineS s i (strB L)).2) ∧ SesI F w0 g (lineS s i (strB L)).1 w' := by
  rw [lineS_ended i (strB L) he]
  have HS := Lib.hid hS
  obtain ⟨U1, u1, U2, u2, U3, u3, A1, c1, A2, c2, A3, c3, SA, sc, BA, bc, m, hK, -, -⟩ := hS
  obtain ⟨a1, a2, a3⟩ := hK.blkAt
  clear hK
  go_enter Tryd.func120, Tryd.ntmps120
  go_wp2_with fail
  go_ret
  exact ⟨rfl, HS.out⟩
theorem nameI0 {L : ByteArray} (hq : kindOf (strB L) = 0) : Hid (∀ W, Calls Tryd.prog 99 #[.string L] W fun e w' => e = .returned (.tuple #[.int .i64 0, .bool false]) ∧ Below W.heap.size W w') := by
  have h := (fun W => strokeNamed_any L W)
  rw [hq, decide_eq_false (fun h => h rfl)] at h
  exact h
theorem setNo {L : ByteArray} (hs : L.size ≤ 1048576) (hb : begins setB (strB L) = false) : Hid (∀ W, Calls Tryd.prog 118 #[.string L, .string ⟨#[115, 101, 116, 32]⟩] W fun e w' => e = .returned (.tuple #[.string ⟨#[]⟩, .bool false]) ∧ W = w') := by
  have h := (fun W => behind_any L setW W (by omega) (by decide))
  have hb' : begins (strB setW) (strB L) = false := hb
  rw [restB_no hb', hb'] at h
  exact h
theorem showNo {L : ByteArray} (hs : L.size ≤ 1048576) (hb : begins showB (strB L) = false) : Hid (∀ W, Calls Tryd.prog 118 #[.string L, .string ⟨#[115, 104, 111, 119, 32]⟩] W fun e w' => e = .returned (.tuple #[.string ⟨#[]⟩, .bool false]) ∧ W = w') := by
  have h := (fun W => behind_any L showW W (by omega) (by decide))
  have hb' : begins (strB showW) (strB L) = false := hb
  rw [restB_no hb', hb'] at h
  exact h
theorem setYes {L : ByteArray} (hs : L.size ≤ 1048576) (hb : begins setB (strB L) = true) : ∃ R : ByteArray, strB R = (strB L).drop 4 ∧ R.size ≤ 1048576 ∧ ∀ W, Calls Tryd.prog 118 #[.string L, .string ⟨#[115, 101, 116, 32]⟩] W fun e w' => e = .returned (.tuple #[.string R, .bool true]) ∧ W = w' := by
  have h := (fun W => behind_any L setW W (by omega) (by decide))
  have hb' : begins (strB setW) (strB L) = true := hb
  rw [restB_yes hb', hb'] at h
  exact ⟨L.extract 4 L.size, strB_drop L 4, by rw [extract_size]; omega, h⟩
theorem showYes {L : ByteArray} (hs : L.size ≤ 1048576) (hb : begins showB (strB L) = true) : ∃ R : ByteArray, strB R = (strB L).drop 5 ∧ R.size ≤ 1048576 ∧ ∀ W, Calls Tryd.prog 118 #[.string L, .string ⟨#[115, 104, 111, 119, 32]⟩] W fun e w' => e = .returned (.tuple #[.string R, .bool true]) ∧ W = w' := by
  have h := (fun W => behind_any L showW W (by omega) (by decide))
  have hb' : begins (strB showW) (strB L) = true := hb
  rw [restB_yes hb', hb'] at h
  exact ⟨L.extract 5 L.size, strB_drop L 5, by rw [extract_size]; omega, h⟩
theorem begins_ne {p bs : List UInt8} (h : begins p bs = true) {q : List UInt8} (hq : q.length ≤ p.length) : bs ≠ q := by
  rintro rfl
  have := (begins_iff.1 h).1
  omega
theorem show_not_set {bs : List UInt8} (h : begins showB bs = true) : begins setB bs = false := by
  rcases hb : begins setB bs with _ | _
  · rfl
  · have h1 := (begins_iff.1 h).2
    have h2 := (begins_iff.1 hb).2
    have h3 : (bs.take 5).take 4 = bs.take 4 := by rw [List.take_take]; rfl
    have h4 : bs.take 5 = showB := h1
    have h5 : bs.take 4 = setB := h2
    rw [h4, h5] at h3
    exact absurd h3 (by decide)
set_option maxRecDepth 100000 in
set_option maxHeartbeats 3200000 in
theorem lineI_end {F : List Ent} {w0 : World} {g : Nat} (s : SS) (i : Int) (L : ByteArray) (w : World) (hS : SesI F w0 g s w) (he : s.ended = false) (hq : kindOf (strB L) = 0) (hL : L.size ≤ 1048576) (h1 : begins setB (strB L) = false) (h2 : begins showB (strB L) = false) :
    Calls Tryd.prog 120 #[.pointer (some ⟨g, 0, none⟩), .int .i64 i, .string L] w fun e w' => e = .returned (.int .i64 (lineS s i (strB L)).2) ∧ SesI F w0 g (lineS s i (strB L)).1 w' := by
  have HKN := nameI0 hq
  have HB1 := setNo hL h1
  have HB2 := showNo hL h2
  have HL := Lib.hid (show lineS s i (strB L) = if strB L = endB then ({ s with ended := true }, 0) else (s, 2) by
    unfold lineS
    rw [if_neg (by rw [he]; decide), if_neg (fun h => h hq), h1, h2]
    rfl)
  clear h1 h2 hq
  rcases hqe : (L.toList == [101, 110, 100]) with _ | _
  · have HQ : Hid (lineS s i (strB L) = (s, 2)) := by
      simp only [Hid]
      rw [HL.out, if_neg]
      rw [strB_toList, beq_eq_false_iff_ne] at hqe
      exact hqe
    obtain ⟨U1, u1, U2, u2, U3, u3, A1, c1, A2, c2, A3, c3, SA, sc, BA, bc, m, hK, hu, hm⟩ := hS
    have HU := Lib.hid hu
    have HM := Lib.hid hm
    clear hu hm
    obtain ⟨a1, a2, a3⟩ := hK.blkAt
    go_enter Tryd.func120, Tryd.ntmps120
    go_wp2_with fail
    refine (HKN.out _).mono ?_; rintro e w1 ⟨rfl, hw⟩
    have hK1 := hK.keep hw
    clear a1 a2 a3 hK hw
    obtain ⟨a1, a2, a3⟩ := hK1.blkAt
    go_wp2_with (first | (go_at_call 118; first | ((with_reducible refine (HB1.out _).mono ?_); rintro e w2 ⟨rfl, rfl⟩) | ((with_reducible refine (HB2.out _).mono ?_); rintro e w2 ⟨rfl, rfl⟩)))
    go_ret
    rw [HQ.out]
    exact ⟨rfl, SesI.of hK1 HU.out HM.out⟩
  · have HQ : Hid (lineS s i (strB L) = ({ s with ended := true }, 0)) := by
      simp only [Hid]
      rw [HL.out, if_pos]
      rw [strB_toList, beq_iff_eq] at hqe
      exact hqe
    obtain ⟨U1, u1, U2, u2, U3, u3, A1, c1, A2, c2, A3, c3, SA, sc, BA, bc, m, hK, hu, hm⟩ := hS
    have HU := Lib.hid hu
    have HM := Lib.hid hm
    clear hu hm
    obtain ⟨a1, a2, a3⟩ := hK.blkAt
    go_enter Tryd.func120, Tryd.ntmps120
    go_wp2_with fail
    refine (HKN.out _).mono ?_; rintro e w1 ⟨rfl, hw⟩
    have hK1 := hK.keep hw
    clear a1 a2 a3 hK hw
    obtain ⟨a1, a2, a3⟩ := hK1.blkAt
    go_wp2_with (first | (go_at_call 118; first | ((with_reducible refine (HB1.out _).mono ?_); rintro e w2 ⟨rfl, rfl⟩) | ((with_reducible refine (HB2.out _).mono ?_); rintro e w2 ⟨rfl, rfl⟩)))
    go_ret
    rw [HQ.out]
    exact ⟨rfl, SesI.of (s := { s with ended := true }) (hK1.st 16 (.bool true)) HU.out HM.out⟩
set_option maxRecDepth 100000 in
set_option maxHeartbeats 3200000 in
theorem lineI_show {F : List Ent} {w0 : World} {g k : Nat} (s : SS) (i : Int) (L : ByteArray) (w : World) (hS : SesI F w0 g s w) (hg : s.Good k) (he : s.ended = false) (hq : kindOf (strB L) = 0) (hL : L.size ≤ 1048576) (h2 : begins showB (strB L) = true) (ht : TB w0) :
    Calls Tryd.prog 120 #[.pointer (some ⟨g, 0, none⟩), .int .i64 i, .string L] w fun e w' => e = .returned (.int .i64 (lineS s i (strB L)).2) ∧ SesI F w0 g (lineS s i (strB L)).1 w' := by
  have HKN := nameI0 hq
  have HB1 := setNo hL (show_not_set h2)
  obtain ⟨R, hR, hRs, hRc⟩ := showYes hL h2
  have hmt : mtext s.m = ⟨(strB (mtext s.m)).toArray⟩ := (str_eq.2 rfl).symm
  have HL := Lib.hid (show lineS s i (strB L) = if strB R = strB (mtextL s.m) then (s, 0) else (s, 4) by
    unfold lineS
    rw [if_neg (by rw [he]; decide), if_neg (fun h => h hq), if_neg (begins_ne h2 (by decide)), show_not_set h2, h2, hR]
    rfl)
  have hml : mtext s.m = mtextL s.m := by unfold mtext; rw [if_pos hg.m]
  rw [← hml] at HL
  have HB2 := Lib.hid hRc
  have hz := sized_of hg.m
  have hsm : SmallTri s.m := ⟨by have := hz.a; unfold SmallReg; omega, by have := hz.b; unfold SmallReg; omega, by have := hz.s; unfold SmallReg; omega⟩
  have HMT := (fun (A1 A2 A3 : Option Addr) (c1 c2 c3 : Nat) W r1 r2 r3 (hw : TB W) => MachineText_any s.m A1 A2 A3 c1 c2 c3 W r1 r2 r3 hsm hw)
  obtain ⟨T, hT⟩ : ∃ T, mtext s.m = T := ⟨_, rfl⟩
  rw [hT] at HMT HL
  replace HMT := Lib.hid HMT
  have HTB := Lib.hid (fun W (hW : Below w0.heap.size w0 W) => TB.below ht hW)
  clear h2 hq hR hRc hT hml hmt hsm hz hg ht
  rcases hqe : (R.toList == T.toList) with _ | _
  · have HQ : Hid (lineS s i (strB L) = (s, 4)) := by
      simp only [Hid]
      rw [HL.out, if_neg]
      rw [strB_toList, strB_toList, beq_eq_false_iff_ne] at hqe
      exact hqe
    obtain ⟨U1, u1, U2, u2, U3, u3, A1, c1, A2, c2, A3, c3, SA, sc, BA, bc, m, hK, hu, hm⟩ := hS
    have HU := Lib.hid hu
    have HM := Lib.hid hm
    clear hu hm
    obtain ⟨a1, a2, a3⟩ := hK.blkAt
    go_enter Tryd.func120, Tryd.ntmps120
    go_wp2_with fail
    refine (HKN.out _).mono ?_; rintro e w1 ⟨rfl, hw⟩
    have hK1 := hK.keep hw
    clear a1 a2 a3 hK hw
    obtain ⟨a1, a2, a3⟩ := hK1.blkAt
    go_wp2_with (first | (go_at_call 118; first | ((with_reducible refine (HB1.out _).mono ?_); rintro e w2 ⟨rfl, rfl⟩) | ((with_reducible refine (HB2.out _).mono ?_); rintro e w2 ⟨rfl, rfl⟩)))
    obtain ⟨r1, r2, r3⟩ := HM.out.ri hK1 (fun e h => by simp [h])
    refine (HMT.out _ _ _ _ _ _ _ r1 r2 r3 (HTB.out _ hK1.below)).mono ?_; rintro e w2 ⟨rfl, hw⟩
    have hK2 := hK1.keep hw
    clear a1 a2 a3 hK1 hw r1 r2 r3
    go_wp2_with fail
    go_ret
    rw [HQ.out]
    exact ⟨rfl, SesI.of hK2 HU.out HM.out⟩
  · have HQ : Hid (lineS s i (strB L) = (s, 0)) := by
      simp only [Hid]
      rw [HL.out, if_pos]
      rw [strB_toList, strB_toList, beq_iff_eq] at hqe
      exact hqe
    obtain ⟨U1, u1, U2, u2, U3, u3, A1, c1, A2, c2, A3, c3, SA, sc, BA, bc, m, hK, hu, hm⟩ := hS
    have HU := Lib.hid hu
    have HM := Lib.hid hm
    clear hu hm
    obtain ⟨a1, a2, a3⟩ := hK.blkAt
    go_enter Tryd.func120, Tryd.ntmps120
    go_wp2_with fail
    refine (HKN.out _).mono ?_; rintro e w1 ⟨rfl, hw⟩
    have hK1 := hK.keep hw
    clear a1 a2 a3 hK hw
    obtain ⟨a1, a2, a3⟩ := hK1.blkAt
    go_wp2_with (first | (go_at_call 118; first | ((with_reducible refine (HB1.out _).mono ?_); rintro e w2 ⟨rfl, rfl⟩) | ((with_reducible refine (HB2.out _).mono ?_); rintro e w2 ⟨rfl, rfl⟩)))
    obtain ⟨r1, r2, r3⟩ := HM.out.ri hK1 (fun e h => by simp [h])
    refine (HMT.out _ _ _ _ _ _ _ r1 r2 r3 (HTB.out _ hK1.below)).mono ?_; rintro e w2 ⟨rfl, hw⟩
    have hK2 := hK1.keep hw
    clear a1 a2 a3 hK1 hw r1 r2 r3
    go_wp2_with fail
    go_ret
    rw [HQ.out]
    exact ⟨rfl, SesI.of hK2 HU.out HM.out⟩
set_option maxRecDepth 100000 in
set_option maxHeartbeats 3200000 in
theorem lineI_set {F : List Ent} {w0 : World} {g k : Nat} (s : SS) (i : Int) (L : ByteArray) (w : World) (hS : SesI F w0 g s w) (hg : s.Good k) (he : s.ended = false) (hq : kindOf (strB L) = 0) (hL : L.size ≤ 1048576) (h1 : begins setB (strB L) = true) (ht : TB w0) :
    Calls Tryd.prog 120 #[.pointer (some ⟨g, 0, none⟩), .int .i64 i, .string L] w fun e w' => e = .returned (.int .i64 (lineS s i (strB L)).2) ∧ SesI F w0 g (lineS s i (strB L)).1 w' := by
  have HKN := nameI0 hq
  obtain ⟨R, hR, hRs, hRc⟩ := setYes hL h1
  have HL := Lib.hid (show lineS s i (strB L) = if (rdDec (strB R)).isSome && fits s.m (rdN (strB R)) then ({ s with m := setT s.m (rdN (strB R)) }, 0) else (s, 3) by
    unfold lineS fits
    rw [if_neg (by rw [he]; decide), if_neg (fun h => h hq), if_neg (begins_ne h1 (by decide)), h1, hR]
    rfl)
  have HB1 := Lib.hid hRc
  have HRD := (fun W hW => ReadDecimal_any R W (by omega) hW)
  have hvb := rdN_bd (strB R)
  obtain ⟨v, hv⟩ : ∃ v, rdN (strB R) = v := ⟨_, rfl⟩
  obtain ⟨ok, hok⟩ : ∃ b, (rdDec (strB R)).isSome = b := ⟨_, rfl⟩
  rw [hv, hok] at HRD HL
  rw [hv] at hvb
  replace HRD := Lib.hid HRD
  have HSV := Lib.hid (fun (A1 A2 A3 : Option Addr) (c1 c2 c3 : Nat) W r1 r2 r3 => SetValueG s.m A1 A2 A3 c1 c2 c3 v W r1 r2 r3 hg.m hvb.2)
  have HTB := Lib.hid (fun W (hW : Below w0.heap.size w0 W) => TB.below ht hW)
  obtain ⟨ds, hds⟩ : ∃ ds, (setT s.m v).a.digits = ds := ⟨_, rfl⟩
  have HDS := Lib.hid hds
  have HST := Lib.hid (show setT s.m v = ⟨⟨s.m.a.base, ds⟩, s.m.b, s.m.s, s.m.carry⟩ by rw [← hds]; rfl)
  clear h1 hq hR hRc hv hok hg ht hds
  rcases ok with _ | _
  · have HQ : Hid (lineS s i (strB L) = (s, 3)) := by
      simp only [Hid]
      rw [HL.out, if_neg (by simp)]
    obtain ⟨U1, u1, U2, u2, U3, u3, A1, c1, A2, c2, A3, c3, SA, sc, BA, bc, m, hK, hu, hm⟩ := hS
    have HU := Lib.hid hu
    have HM := Lib.hid hm
    clear hu hm
    obtain ⟨a1, a2, a3⟩ := hK.blkAt
    go_enter Tryd.func120, Tryd.ntmps120
    go_wp2_with fail
    refine (HKN.out _).mono ?_; rintro e w1 ⟨rfl, hw⟩
    have hK1 := hK.keep hw
    clear a1 a2 a3 hK hw
    obtain ⟨a1, a2, a3⟩ := hK1.blkAt
    go_wp2_with (first | (go_at_call 118; (refine (HB1.out _).mono ?_; rintro e w2 ⟨rfl, rfl⟩)))
    refine (HRD.out _ (HTB.out _ hK1.below)).mono ?_; rintro e w2 ⟨rfl, hw⟩
    have hK2 := hK1.keep hw
    clear a1 a2 a3 hK1 hw
    obtain ⟨a1, a2, a3⟩ := hK2.blkAt
    go_wp2_with fail
    obtain ⟨r1, r2, r3⟩ := HM.out.ri hK2 (fun e h => by simp [h])
    refine (HSV.out _ _ _ _ _ _ _ r1 r2 r3).mono ?_; rintro e w3 (⟨hf, B1, d1, B2, d2, B3, d3, rfl, hKn⟩ | ⟨hf, rfl, hw⟩)
    · rw [HDS.out] at hKn ⊢
      have hK3 := ((hK2.join hKn).sel [3, 4, 5] 6 (by decide) (by decide)).al_ (.cells #[.int .i64 s.m.a.base, .slice B1 ds.length d1, .int .i64 s.m.b.base, .slice B2 s.m.b.digits.length d2, .int .i64 s.m.s.base, .slice B3 s.m.s.digits.length d3, .int .i64 s.m.carry] 95)
      clear a1 a2 a3 hK2 hKn r1 r2 r3
      go_wp2_with fail
      go_ret
      rw [HQ.out]
      exact ⟨rfl, SesI.of (m := m) hK3 HU.out HM.out⟩
    · have hK3 := (hK2.keep hw).al_ (.cells #[.int .i64 0, .slice none 0 0, .int .i64 0, .slice none 0 0, .int .i64 0, .slice none 0 0, .int .i64 0] 95)
      clear a1 a2 a3 hK2 hw r1 r2 r3
      go_wp2_with fail
      go_ret
      rw [HQ.out]
      exact ⟨rfl, SesI.of hK3 HU.out HM.out⟩
  · obtain ⟨U1, u1, U2, u2, U3, u3, A1, c1, A2, c2, A3, c3, SA, sc, BA, bc, m, hK, hu, hm⟩ := hS
    have HU := Lib.hid hu
    have HM := Lib.hid hm
    clear hu hm
    obtain ⟨a1, a2, a3⟩ := hK.blkAt
    go_enter Tryd.func120, Tryd.ntmps120
    go_wp2_with fail
    refine (HKN.out _).mono ?_; rintro e w1 ⟨rfl, hw⟩
    have hK1 := hK.keep hw
    clear a1 a2 a3 hK hw
    obtain ⟨a1, a2, a3⟩ := hK1.blkAt
    go_wp2_with (first | (go_at_call 118; (refine (HB1.out _).mono ?_; rintro e w2 ⟨rfl, rfl⟩)))
    refine (HRD.out _ (HTB.out _ hK1.below)).mono ?_; rintro e w2 ⟨rfl, hw⟩
    have hK2 := hK1.keep hw
    clear a1 a2 a3 hK1 hw
    obtain ⟨a1, a2, a3⟩ := hK2.blkAt
    go_wp2_with fail
    obtain ⟨r1, r2, r3⟩ := HM.out.ri hK2 (fun e h => by simp [h])
    refine (HSV.out _ _ _ _ _ _ _ r1 r2 r3).mono ?_; rintro e w3 (⟨hf, B1, d1, B2, d2, B3, d3, rfl, hKn⟩ | ⟨hf, rfl, hw⟩)
    · have HQ : Hid (lineS s i (strB L) = ({ s with m := ⟨⟨s.m.a.base, ds⟩, s.m.b, s.m.s, s.m.carry⟩ }, 0)) := by
        simp only [Hid]
        rw [HL.out, hf, HST.out]; rfl
      rw [HDS.out] at hKn ⊢
      have hK3 : Kn w0 (.blk g [.int .i64 s.start.a.base, .slice U1 s.start.a.digits.length u1, .int .i64 s.start.b.base, .slice U2 s.start.b.digits.length u2, .int .i64 s.start.s.base, .slice U3 s.start.s.digits.length u3, .int .i64 s.start.carry, .int .i64 s.m.a.base, .slice A1 s.m.a.digits.length c1, .int .i64 s.m.b.base, .slice A2 s.m.b.digits.length c2, .int .i64 s.m.s.base, .slice A3 s.m.s.digits.length c3, .int .i64 s.m.carry, .slice SA s.str.length sc, .slice BA s.bel.length bc, .bool s.ended] 104 :: rowI SA sc s.str :: rowI BA bc s.bel :: rowI B3 d3 s.m.s.digits :: rowI B2 d2 s.m.b.digits :: rowI B1 d1 ds :: m) w3 := (hK2.join hKn).sel [3, 4, 5, 0, 1, 2] 6 (by decide) (by decide)
      clear a1 a2 a3 hK2 hKn r1 r2 r3 hf
      obtain ⟨a1, a2, a3⟩ := hK3.blkAt
      go_wp2_with fail
      go_ret
      rw [HQ.out]
      exact ⟨rfl, SesI.of (s := { s with m := ⟨⟨s.m.a.base, ds⟩, s.m.b, s.m.s, s.m.carry⟩ }) (m := rowI B3 d3 s.m.s.digits :: rowI B2 d2 s.m.b.digits :: rowI B1 d1 ds :: m) ((((((((hK3.st 7 (.int .i64 s.m.a.base)).st 8 (.slice B1 ds.length d1)).st 9 (.int .i64 s.m.b.base)).st 10 (.slice B2 s.m.b.digits.length d2)).st 11 (.int .i64 s.m.s.base)).st 12 (.slice B3 s.m.s.digits.length d3)).st 13 (.int .i64 s.m.carry)).al_ (.cells #[.int .i64 s.m.a.base, .slice B1 ds.length d1, .int .i64 s.m.b.base, .slice B2 s.m.b.digits.length d2, .int .i64 s.m.s.base, .slice B3 s.m.s.digits.length d3, .int .i64 s.m.carry] 95)) (HU.out.mono (fun e h => by simp [h])) ⟨by simp, by simp, by simp⟩⟩
    · have HQ : Hid (lineS s i (strB L) = (s, 3)) := by
        simp only [Hid]
        rw [HL.out, hf]; rfl
      have hK3 := (hK2.keep hw).al_ (.cells #[.int .i64 0, .slice none 0 0, .int .i64 0, .slice none 0 0, .int .i64 0, .slice none 0 0, .int .i64 0] 95)
      clear a1 a2 a3 hK2 hw r1 r2 r3 hf
      go_wp2_with fail
      go_ret
      rw [HQ.out]
      exact ⟨rfl, SesI.of hK3 HU.out HM.out⟩
end Go.Proofs.YtgpmngcemnnpmaaDoor

namespace Go.Proofs.YtgpmngcemnnpmaaDoor
open Go.RowKit Go.Sort
/-! rows of strings -/
def StrM (w : World) (p : Addr) (s : ByteArray) : Prop := w.cell? p = some (.string s)
theorem steady_StrM : Steady StrM := by
  intro w w' p s hp hb h
  unfold StrM at *
  rw [hb.cell hp]; exact h
def rowSN (A : Option Addr) (n c : Nat) (ss : List ByteArray) : Ent := .row (.slice A n c) 9 1 n (ss.map Value.string)
theorem Kn.rlSN {w0 w : World} {m : List Ent} {A : Option Addr} {n c : Nat} {ss : List ByteArray} (h : Kn w0 (rowSN A n c ss :: m) w) : ss.length = n ∧ RL StrM 1 w A n ss := by
  have h0 : w.ownsRow 0 9 1 (.slice A n c) n (ss.map Value.string) := h.at0
  have hl : ss.length = n := by have := h0.1; simpa using this
  refine ⟨hl, hl, fun hn => ?_⟩
  rcases h0.2 with ⟨hv, hn'⟩ | ⟨g, cap, cur, hv, -, hg, -⟩
  · omega
  · injection hv with h1 h2 h3
    refine ⟨_, h1, (Array.getElem?_eq_some_iff.1 hg).1, fun k hk => ?_⟩
    rw [h1] at h0
    have := h0.cells (g := g) rfl k _ (by rw [List.getElem?_map, List.getElem?_eq_getElem hk]; rfl)
    rw [Nat.mul_one]
    exact this
theorem Kn.rlS {w0 w : World} {m : List Ent} {A : Option Addr} {n c : Nat} {ss : List ByteArray} (h : Kn w0 (rowS (.slice A n c) ss :: m) w) : n = ss.length ∧ RL StrM 1 w A n ss := by
  have h0 : w.ownsRow 0 9 1 (.slice A n c) ss.length (ss.map Value.string) := h.at0
  have hn : n = ss.length := by
    rcases h0.2 with ⟨hv, hn'⟩ | ⟨g, cap, cur, hv, -, hg, -⟩
    · injection hv with h1 h2 h3; omega
    · injection hv
  subst hn
  exact ⟨rfl, (Kn.rlSN (m := m) (c := c) h).2⟩
def totS (ss : List ByteArray) : Nat := (ss.map (·.size)).sum
theorem totS_mem {ss : List ByteArray} {s : ByteArray} (h : s ∈ ss) : s.size ≤ totS ss := by
  induction ss with
  | nil => cases h
  | cons a l ih =>
    unfold totS at *
    rw [List.map_cons, List.sum_cons]
    rcases List.mem_cons.1 h with rfl | h
    · omega
    · have := ih h; omega
theorem totS_snoc (ss : List ByteArray) (s : ByteArray) : totS (ss ++ [s]) = totS ss + s.size := by simp [totS]
set_option maxHeartbeats 800000 in
theorem szStringS_any (A : Option Addr) (n c : Nat) (ss : List ByteArray) (left : Int) (w : World) (hr : RL StrM 1 w A n ss) (hsz : ∀ s ∈ ss, s.size ≤ 9223372036854775807) (h1 : 0 ≤ left) (h2 : left ≤ 1048576) (hn : n ≤ 9223372036854775807) :
    Calls Tryd.prog 28 #[.slice A n c, .int .i64 left] w fun e w' => e = .returned (.int .i64 (if (n : Int) + totS ss ≤ left then left - n - totS ss else -1)) ∧ w = w' := by
  have HL := Lib.hid hr.1
  have HR := Lib.hid hr
  have HZ := Lib.hid hsz
  clear hr hsz
  by_cases h : (n : Int) ≤ left
  · have hi : ¬ left - (n : Int) < 0 := by omega
    obtain ⟨R, hR⟩ : ∃ R : Int, (if (n : Int) + totS ss ≤ left then left - n - totS ss else -1) = R := ⟨_, rfl⟩
    rw [hR]
    have HRR := Lib.hid hR
    clear hR
    go_enter Tryd.func28, Tryd.ntmps28
    go_wp2_with fail
    go_loopw [5, 1] (fun i lf wr => ∃ k : Nat, k ≤ n ∧ i = .int .i64 k ∧ lf = .int .i64 (left - n - totS (ss.take k)) ∧ (n : Int) + totS (ss.take k) ≤ left ∧ w = wr) (fun i _ _ => n - (intOf i).toNat)
    case atStart => exact ⟨0, Nat.zero_le _, rfl, by simp [totS], by simp [totS]; omega, rfl⟩
    case round =>
      obtain ⟨k, hk, rfl, rfl, hle, rfl⟩ := hrel
      by_cases hkn : k < n
      · obtain ⟨ad, hA, hlt, hkl, hx⟩ := HR.out.at_ hkn
        unfold StrM at hx
        rw [Nat.mul_one] at hx
        have hzz := HZ.out _ (List.getElem_mem hkl)
        obtain ⟨x, hxe⟩ : ∃ x, ss[k] = x := ⟨_, rfl⟩
        have htk : totS (ss.take (k + 1)) = totS (ss.take k) + x.size := by rw [List.take_succ_eq_append_getElem hkl, totS_snoc, hxe]
        rw [hxe] at hx hzz
        obtain ⟨T, hT⟩ : ∃ T, totS (ss.take k) = T := ⟨_, rfl⟩
        rw [hT] at htk hle ⊢
        have HT := Lib.hid hT
        have HTK := Lib.hid htk
        have HXE := Lib.hid hxe
        clear hT htk hxe
        have hi0 : (0 : Int) ≤ (k : Int) := by omega
        have hi1 : (k : Int) < (n : Int) := by omega
        subst hA
        by_cases hbad : left - (n : Int) - T - x.size < 0
        · go_wp2_with fail
          go_ret
          exact ⟨ret_int (by
            have hall : totS (ss.take (k + 1)) ≤ totS ss := by
              unfold totS
              conv => rhs; rw [← List.take_append_drop (k + 1) ss, List.map_append, List.sum_append]
              omega
            have := HTK.out
            have hr := HRR.out
            rw [if_neg (by omega)] at hr
            exact hr), by first | rfl | trivial⟩
        · go_wp2_with fail
          go_roundw
          case rel => exact ⟨k + 1, by omega, by go_num, by rw [HTK.out]; congr 1; omega, by rw [HTK.out]; omega, by first | rfl | trivial⟩
          case measure => simp [intOf]; omega
      · have hi1 : ¬ (k : Int) < (n : Int) := by omega
        have hT : totS (ss.take k) = totS ss := by rw [List.take_of_length_le (by have := HL.out; omega)]
        rw [hT] at hle ⊢
        have HLE := Lib.hid hle
        clear hle hT
        go_wp2_with fail
        go_ret
        exact ⟨ret_int (by
          have hr := HRR.out
          rw [if_pos HLE.out] at hr
          exact hr), by first | rfl | trivial⟩
  · have hi : left - (n : Int) < 0 := by omega
    go_enter Tryd.func28, Tryd.ntmps28
    go_wp2
    go_ret
    exact ⟨ret_int (by first | rfl | omega), rfl⟩
theorem info_str : (Tryd.prog.info? 9).map (fun i => (i.zero, i.size, i.bytes)) = some (some (.string ⟨#[]⟩), 1, 16) := by kernel_rfl
set_option maxRecDepth 100000 in
set_option maxHeartbeats 1600000 in
theorem toStringS_kn (A : Option Addr) (n c : Nat) (xs : List ByteArray) (w : World) (hr : RL StrM 1 w A n xs) (hm : n ≤ 1048576) :
    Calls Tryd.prog 30 #[.slice A n c] w fun e w' => ∃ X x, e = .returned (.slice X n x) ∧ Kn w [rowSN X n x xs] w' := by
  have HL := Lib.hid hr.1
  have HR := Lib.hid hr
  obtain ⟨i0, hi, hz0, hz1, hz2⟩ := info_parts info_str
  clear hr
  go_enter Tryd.func30, Tryd.ntmps30
  go_wp2_with (at_make; refine wpList_make_full _ rfl _ _ 57 rfl w.heap.size 9 i0 _ 1 Tryd.underlying57 hi hz0 hz1 _ _ _ _ n rfl rfl rfl rfl (by rw [hz2]; omega) (by unfold maxLen; omega) (Nat.le_refl _) ?_; intro w1 hown1 hg1)
  have hb1 : Below w.heap.size w w1 := (Below.refl _ _).grown hg1 (Nat.le_refl _) (by simp)
  have hK1 : Kn w [.row (.slice (some ⟨w.heap.size, 0, none⟩) n n) 9 1 n _] w1 := (Kn.nil w).add (e := .row (.slice (some ⟨w.heap.size, 0, none⟩) n n) 9 1 n _) hb1 (by
    refine ⟨hown1.1, ?_⟩
    rcases hown1.2 with hn | ⟨g, cap, cur, e, hbg, rest⟩
    · exact .inl hn
    · exact .inr ⟨g, cap, cur, e, Nat.zero_le _, rest⟩) (fun k hk => by
    have hk' : (Value.slice (some ⟨w.heap.size, 0, none⟩) n n).ownBlock = some k := hk
    simp only [Value.ownBlock, Option.some.injEq] at hk'
    omega)
  clear hg1 hown1 hb1 hi hz0 hz1 hz2
  go_loopw [4] (fun i wr => ∃ (k : Nat) (cs : List Value), k ≤ n ∧ i = .int .i64 k ∧ Kn w [.row (.slice (some ⟨w.heap.size, 0, none⟩) n n) 9 1 n cs] wr ∧ (∀ (i : Nat) (h : i < xs.length), i < k → cs[i]? = some (.string xs[i]))) (fun i _ => n - (intOf i).toNat)
  case atStart => exact ⟨0, _, Nat.zero_le _, rfl, hK1, fun i h h' => by omega⟩
  case round =>
    clear hK1
    obtain ⟨k, cs, hk, rfl, hK, hcs⟩ := hrel
    have hcl : cs.length = n * 1 := (show wr.ownsRow 0 9 1 _ n cs from hK.at0).1
    have HCS := Lib.hid hcs
    have HCL := Lib.hid hcl
    by_cases hkn : k < n
    · obtain ⟨ad, hA, hlt, hkl, hx⟩ := (HR.out.below steady_StrM hK.below).at_ hkn
      unfold StrM at hx
      rw [Nat.mul_one] at hx
      obtain ⟨x, hxe⟩ : ∃ x, xs[k] = x := ⟨_, rfl⟩
      rw [hxe] at hx
      have HX := Lib.hid hxe
      have hi0 : (0 : Int) ≤ (k : Int) := by omega
      have hi1 : (k : Int) < (n : Int) := by omega
      subst hA
      clear hxe hcs
      obtain ⟨u0, hu0⟩ : ∃ u, cs[k]? = some u := ⟨_, List.getElem?_eq_getElem (by omega)⟩
      obtain ⟨y1, y2⟩ := Kn.rowCell hK hu0
      clear hu0 hcl
      go_wp2_with fail
      go_roundw
      case rel =>
        refine ⟨k + 1, _, by omega, by go_num, hK.rowSt k (.string x), fun i h h' => ?_⟩
        have hcl := HCL.out
        rcases Nat.lt_or_ge i k with h1 | h1
        · rw [List.getElem?_set_ne (by omega)]
          exact HCS.out i h h1
        · obtain rfl : i = k := by omega
          have hx := HX.out
          rw [hx, List.getElem?_set_self (by omega)]
      case measure => simp [intOf]; omega
    · have hce : cs = xs.map Value.string := by
        apply List.ext_getElem?
        intro j
        by_cases hj : j < xs.length
        · rw [hcs j hj (by have := HL.out; omega), List.getElem?_map, List.getElem?_eq_getElem hj]; rfl
        · rw [List.getElem?_eq_none (by have := HL.out; omega), List.getElem?_eq_none (by rw [List.length_map]; omega)]
      have HCE := Lib.hid hce
      have hi1 : ¬ (k : Int) < (n : Int) := by omega
      clear hcs hcl hce
      go_wp2_with fail
      go_ret
      exact ⟨_, _, rfl, by unfold rowSN; rw [← HCE.out]; exact hK⟩
set_option maxHeartbeats 1600000 in
theorem eqStringS_same (A B : Option Addr) (n c d : Nat) (xs : List ByteArray) (w : World) (hr : RL StrM 1 w A n xs) (hs : RL StrM 1 w B n xs) (hm : n ≤ 1048576) :
    Calls Tryd.prog 32 #[.slice A n c, .slice B n d] w fun e w' => e = .returned (.bool true) ∧ ∃ q, w' = w.drewN q := by
  have HR := Lib.hid hr
  have HS := Lib.hid hs
  clear hr hs
  go_enter Tryd.func32, Tryd.ntmps32
  go_wp2_with fail
  go_loopw [5] (fun i wr => ∃ (k : Nat), k ≤ n ∧ i = .int .i64 k ∧ ∃ q, wr = w.drewN q) (fun i _ => n - (intOf i).toNat)
  case atStart => exact ⟨0, Nat.zero_le _, rfl, 0, rfl⟩
  case round =>
    obtain ⟨k, hk, rfl, q, rfl⟩ := hrel
    by_cases hkn : k < n
    · obtain ⟨ad, hA, hlt, hkl, hx⟩ := HR.out.at_ hkn
      obtain ⟨bd, hB, hlt2, hkl2, hy⟩ := HS.out.at_ hkn
      unfold StrM at hx hy
      rw [Nat.mul_one] at hx hy
      obtain ⟨x, hxe⟩ : ∃ x, xs[k] = x := ⟨_, rfl⟩
      rw [hxe] at hx hy
      have hi0 : (0 : Int) ≤ (k : Int) := by omega
      have hi1 : (k : Int) < (n : Int) := by omega
      have hxx : (x.toList == x.toList) = true := by simp
      subst hA
      subst hB
      clear hxe hlt hlt2
      go_wp2_with fail
      go_quiet (fail)
      go_wp2_with fail
      go_roundw
      case rel => exact ⟨k + 1, by omega, by go_num, by first | exact ⟨_, rfl⟩ | exact ⟨_, World.drewN_drewN _ _ _⟩⟩
      case measure => simp [intOf]; omega
    · have hi1 : ¬ (k : Int) < (n : Int) := by omega
      go_wp2_with fail
      go_ret
      exact ⟨rfl, q, rfl⟩
end Go.Proofs.YtgpmngcemnnpmaaDoor

namespace Go.Proofs.YtgpmngcemnnpmaaDoor
open Go.RowKit Go.Sort
/-! marks of strings -/
def mkT (k : Int) : ByteArray := ⟨(109 :: digs k.toNat).toArray⟩
def marksS (k : Int) (n : Nat) : List ByteArray := (List.range n).map (fun (i : Nat) => mkT (k + (i : Int)))
theorem marksS_len (k : Int) (n : Nat) : (marksS k n).length = n := by simp [marksS]
theorem marksS_get (k : Int) (n i : Nat) (h : i < (marksS k n).length) : (marksS k n)[i] = mkT (k + i) := by simp [marksS]
theorem eqS_same (A B : Option Addr) (n c d : Nat) (xs : List ByteArray) (w : World) (hr : RL StrM 1 w A n xs) (hs : RL StrM 1 w B n xs) (hm : n ≤ 1048576) :
    Calls Tryd.prog 32 #[.slice A n c, .slice B n d] w fun e w' => e = .returned (.bool true) ∧ Below w.heap.size w w' := by
  refine (eqStringS_same A B n c d xs w hr hs hm).mono ?_
  rintro e w' ⟨rfl, q, rfl⟩
  exact ⟨rfl, drewN_below q⟩
theorem size_app (a b : ByteArray) : (a ++ b).size = a.size + b.size := ByteArray.size_append
theorem strB_app (a b : ByteArray) : strB (a ++ b) = strB a ++ strB b := by unfold strB; simp
set_option maxHeartbeats 800000 in
theorem markText_any (u0 : Nat) (w : World) (h0 : 0 < u0) (h1 : u0 ≤ 100000000) :
    Calls Tryd.prog 68 #[.int .i64 u0] w fun e w' => e = .returned (.string (mkT u0)) ∧ Below w.heap.size w w' := by
  have hlen := digs_len (u0 : Int) (by omega) (by omega)
  have hu0 : ((u0 : Int)).natAbs = u0 := by omega
  rw [hu0] at hlen
  have hp : ¬ (u0 : Int) ≤ 0 := by omega
  clear hu0
  go_enter Tryd.func68, Tryd.ntmps68
  go_wp2_with fail
  clear hp
  go_loopw [0, 3] (fun k o wr => ∃ (u : Nat) (s : ByteArray), u ≤ u0 ∧ k = .int .i64 u ∧ o = .string s ∧ digs u0 = digs u ++ strB s ∧ Below w.heap.size w wr) (fun k _ _ => (intOf k).natAbs)
  case atStart => exact ⟨u0, ⟨#[]⟩, Nat.le_refl _, rfl, rfl, by simp [strB], Below.refl _ _⟩
  case round =>
    obtain ⟨u, s, hu, rfl, rfl, hdg, hbr⟩ := hrel
    have hbl : s.size ≤ 21 := by rw [hdg] at hlen; simp [strB_len] at hlen; omega
    have HG := Lib.hid hdg; clear hdg
    rcases Nat.eq_zero_or_pos u with hu1 | hu1
    · subst hu1
      have HE : Hid (mkT u0 = (⟨#[109]⟩ : ByteArray) ++ s) := by
        have hg := HG.out
        rw [show digs 0 = [] from rfl, List.nil_append] at hg
        unfold mkT
        rw [Hid, Int.toNat_natCast, str_eq, strB_app, hg]
        rfl
      go_wp2_with fail
      go_ret
      exact ⟨ret_str HE.out.symm, hbr⟩
    · have HN : Hid (digs u0 = digs (u / 10) ++ (UInt8.ofNat (48 + u % 10) :: strB s)) := by rw [Hid, HG.out, digs_step u (by omega)]; simp
      have hi1 : (0 : Int) < (u : Int) := by omega
      obtain ⟨d, hd⟩ : ∃ d : Nat, u % 10 = d := ⟨_, rfl⟩
      have hd1 : d < 10 := by omega
      obtain ⟨q, hq⟩ : ∃ q : Nat, u / 10 = q := ⟨_, rfl⟩
      have hq1 : q < u := by omega
      have t1 : (u : Int).tmod 10 = (d : Int) := by rw [Int.tmod_eq_emod_of_nonneg (by omega)]; omega
      have t2 : (u : Int).tdiv 10 = (q : Int) := by rw [Int.tdiv_eq_ediv_of_nonneg (by omega)]; omega
      have t3 : (u : Int) % 10 = (d : Int) := by omega
      have t4 : (u : Int) / 10 = (q : Int) := by omega
      rw [hq, hd] at HN
      have hbv : byteV (UInt8.ofNat (48 + d)) = .int .u8 (48 + (d : Int)) := by
        unfold byteV
        congr 1
        rw [UInt8.toNat_ofNat']
        omega
      obtain ⟨bb, hbb⟩ : ∃ b, UInt8.ofNat (48 + d) = b := ⟨_, rfl⟩
      rw [hbb] at hbv HN
      have hcv := conv_bytes (wr.alloc (.cells #[.int .u8 (48 + (d : Int))] 5)) (some ⟨wr.heap.size, 0, none⟩) 1 1 [bb] ⟨rfl, fun _ => ⟨_, rfl, by simp, fun j u hu => by
        cases j with
        | zero =>
          simp at hu; subst hu
          rw [hbv]
          exact (cell_of_row _ wr.heap.size _ _ 5 (0, 0) (heap_alloc_new _ _)).trans (by simp)
        | succ j => simp at hu⟩⟩
      have HQ := Lib.hid hq
      clear hd hq hbv hbb
      have hw1 : IntKind.u8.wrap (48 + (d : Int)) = 48 + d := wrapB (by omega)
      go_wp2_with fail
      go_roundw
      case rel => exact ⟨q, _, by omega, rfl, rfl, by rw [strB_app]; exact HN.out, hbr.alloc hbr.size _⟩
      case measure => simp [intOf]; omega
set_option maxRecDepth 100000 in
set_option maxHeartbeats 800000 in
theorem markS_kn (w0 : World) (m : List Ent) (A : Option Addr) (n c : Nat) (ss : List ByteArray) (k : Int) (w : World) (hK : Kn w0 (rowSN A n c ss :: m) w) (h0 : 1 ≤ k) (hk : k + n ≤ 40000000) :
    Calls Tryd.prog 33 #[.slice A n c, .int .i64 k] w fun e w' => e = .returned (.int .i64 (k + n)) ∧ Kn w0 (rowSN A n c (marksS k n) :: m) w' := by
  obtain ⟨k0, rfl⟩ : ∃ k0 : Nat, k = (k0 : Int) := ⟨k.toNat, by omega⟩
  have hl := hK.rlSN.1
  rcases Nat.eq_zero_or_pos n with hn | hn
  · subst hn
    obtain rfl : ss = [] := List.eq_nil_of_length_eq_zero hl
    go_enter Tryd.func33, Tryd.ntmps33
    go_wp2_with fail
    go_loopw [1, 5] (fun kk i wr => i = .int .i64 0 ∧ kk = .int .i64 k0 ∧ w = wr) (fun _ i _ => 0)
    case atStart => exact ⟨rfl, rfl, rfl⟩
    case round =>
      obtain ⟨rfl, rfl, rfl⟩ := hrel
      go_wp2_with fail
      go_ret
      exact ⟨ret_int (by simp), by simpa [marksS] using hK⟩
  · obtain ⟨g, c', hv⟩ := Kn.rowForm hK hn
    injection hv with hv1 hv2 hv3
    subst hv1
    clear hv2 hv3
    go_enter Tryd.func33, Tryd.ntmps33
    go_wp2_with fail
    go_loopw [1, 5] (fun kk i wr => ∃ (j : Nat) (cs : List Value), j ≤ n ∧ i = .int .i64 j ∧ kk = .int .i64 ((k0 + j : Nat) : Int) ∧ Kn w0 (.row (.slice (some ⟨g, 0, none⟩) n c) 9 1 n cs :: m) wr ∧ (∀ (i : Nat), i < j → cs[i]? = some (.string (mkT (k0 + i))))) (fun _ i _ => n - (intOf i).toNat)
    case atStart => exact ⟨0, _, Nat.zero_le _, rfl, rfl, hK, fun i h => by omega⟩
    case round =>
      clear hK
      obtain ⟨j, cs, hj, rfl, rfl, hK, hcs⟩ := hrel
      have hcl : cs.length = n * 1 := (show wr.ownsRow 0 9 1 _ n cs from hK.at0).1
      have HCS := Lib.hid hcs
      have HCL := Lib.hid hcl
      by_cases hkn : j < n
      · obtain ⟨N, hN⟩ : ∃ N, k0 + j = N := ⟨_, rfl⟩
        rw [hN]
        have KM := (markText_any N wr (by omega) (by omega))
        obtain ⟨T, hT⟩ : ∃ T, mkT (N : Int) = T := ⟨_, rfl⟩
        rw [hT] at KM
        have KM := Lib.hid KM
        have HN := Lib.hid hN
        have HT := Lib.hid hT
        have hNb : N ≤ 40000000 := by omega
        have hi0 : (0 : Int) ≤ (j : Int) := by omega
        have hi1 : (j : Int) < (n : Int) := by omega
        obtain ⟨u0, hu0⟩ : ∃ u, cs[j]? = some u := ⟨_, List.getElem?_eq_getElem (by omega)⟩
        have HU := Lib.hid hu0
        clear hN hT hcs hcl hu0
        go_wp2_with fail
        refine KM.out.mono ?_; rintro e w1 ⟨rfl, hw⟩
        have hK1 := hK.keep hw
        obtain ⟨y1, y2⟩ := Kn.rowCell hK1 HU.out
        clear hK hw
        go_wp2_with fail
        go_roundw
        case rel =>
          refine ⟨j + 1, _, by omega, by go_num, by rw [← HN.out]; go_num, hK1.rowSt j (.string T), fun i h => ?_⟩
          have hcl := HCL.out
          rcases Nat.lt_or_ge i j with h1 | h1
          · rw [List.getElem?_set_ne (by omega)]
            exact HCS.out i h1
          · obtain rfl : i = j := by omega
            rw [List.getElem?_set_self (by omega), ← HT.out, ← HN.out, Int.natCast_add]
        case measure => simp [intOf]; omega
      · have hce : cs = (marksS k0 n).map Value.string := by
          apply List.ext_getElem?
          intro i
          by_cases hi : i < n
          · rw [hcs i (by omega), List.getElem?_map, List.getElem?_eq_getElem (by rw [marksS_len]; exact hi), marksS_get]; rfl
          · rw [List.getElem?_eq_none (by omega), List.getElem?_eq_none (by rw [List.length_map, marksS_len]; omega)]
        have HCE := Lib.hid hce
        have hi1 : ¬ (j : Int) < (n : Int) := by omega
        obtain rfl : j = n := by omega
        clear hcs hcl hce
        go_wp2_with fail
        go_ret
        exact ⟨ret_int (by omega), by unfold rowSN; rw [← HCE.out]; exact hK⟩
set_option maxRecDepth 100000 in
set_option maxHeartbeats 800000 in
theorem heldS_any (A : Option Addr) (n c : Nat) (k : Int) (w : World) (hr : RL StrM 1 w A n (marksS k n)) (h0 : 1 ≤ k) (hk : k + n ≤ 40000000) :
    Calls Tryd.prog 34 #[.slice A n c, .int .i64 k] w fun e w' => e = .returned (.int .i64 (k + n)) ∧ Below w.heap.size w w' := by
  obtain ⟨k0, rfl⟩ : ∃ k0 : Nat, k = (k0 : Int) := ⟨k.toNat, by omega⟩
  have HR := Lib.hid (fun W (hW : Below w.heap.size w W) => hr.below steady_StrM hW)
  clear hr
  go_enter Tryd.func34, Tryd.ntmps34
  go_wp2_with fail
  go_loopw [1, 5] (fun kk i wr => ∃ (j : Nat), j ≤ n ∧ i = .int .i64 j ∧ kk = .int .i64 ((k0 + j : Nat) : Int) ∧ Below w.heap.size w wr) (fun _ i _ => n - (intOf i).toNat)
  case atStart => exact ⟨0, Nat.zero_le _, rfl, rfl, Below.refl _ _⟩
  case round =>
    obtain ⟨j, hj, rfl, rfl, hb⟩ := hrel
    by_cases hkn : j < n
    · obtain ⟨N, hN⟩ : ∃ N, k0 + j = N := ⟨_, rfl⟩
      rw [hN]
      have KM := (fun W => markText_any N W (by omega) (by omega))
      obtain ⟨T, hT⟩ : ∃ T, mkT (N : Int) = T := ⟨_, rfl⟩
      rw [hT] at KM
      obtain ⟨ad, hA, hlt, hkl, hx⟩ := (HR.out wr hb).at_ hkn
      unfold StrM at hx
      rw [Nat.mul_one, marksS_get, show (k0 : Int) + (j : Int) = (N : Int) by omega, hT] at hx
      have KM := Lib.hid KM
      have HN := Lib.hid hN
      have hNb : N ≤ 40000000 := by omega
      have hi0 : (0 : Int) ≤ (j : Int) := by omega
      have hi1 : (j : Int) < (n : Int) := by omega
      have HX := Lib.hid (fun W (hW : Below wr.heap.size wr W) => (hW.cell (p := ad.add j) (by rw [block_of_add]; exact hlt)).trans hx)
      have HG := Lib.hid (HX.out _ (Below.refl _ _).drew)
      have hTT : (T.toList == T.toList) = true := by simp
      subst hA
      clear hN hT hkl
      go_wp2_with fail
      go_region_held3 (fun W => W.cell? (ad.add j) = some (.string T)) (first | with_reducible exact HG.out | exact HG.out) (
        (go_at_call 68; (refine (KM.out _).mono ?_); rintro e w1 ⟨rfl, hw⟩; have hw2 := (Below.refl wr.heap.size wr).drew.trans (hw.mono (by simp)); clear HG; have HG := Lib.hid (HX.out _ hw2)))
      all_goals
        go_wp2_with fail
        go_roundw
        case rel => exact ⟨j + 1, by omega, by go_num, by rw [← HN.out]; go_num, hb.trans (hw2.mono hb.size)⟩
        case measure => simp [intOf]; omega
    · have hi1 : ¬ (j : Int) < (n : Int) := by omega
      obtain rfl : j = n := by omega
      go_wp2_with fail
      go_ret
      exact ⟨ret_int (by omega), hb⟩
end Go.Proofs.YtgpmngcemnnpmaaDoor
