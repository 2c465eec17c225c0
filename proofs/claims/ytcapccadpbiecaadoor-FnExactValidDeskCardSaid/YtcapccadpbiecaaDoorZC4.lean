/- Part 4: lemmas and contracts of the claim's functions. -/
import Derived.Test.YtcapccadpbiecaaDoorZC1
import Derived.Test.YtcapccadpbiecaaDoorZC2
import Derived.Test.YtcapccadpbiecaaDoorZC3
namespace Go.Proofs.YtcapccadpbiecaaDoor
open Go.RowKit Go.Sort
theorem box2 {w0 w : World} {m : List Ent} {g : Nat} {v0 v1 : Value} {l : List Value} {T : TypeId} (h : Kn w0 (.blk g (v0 :: v1 :: l) T :: m) w) : w.cell? ⟨g, 0, none⟩ = some v0 ∧ w.cell? ⟨g, 1, none⟩ = some v1 :=
  ⟨h.blkAt.1 0, h.blkAt.1 1⟩
set_option maxRecDepth 100000 in
set_option maxHeartbeats 1600000 in
theorem withSetting_any (t : Tri) (A1 A2 A3 : Option Addr) (c1 c2 c3 : Nat) (v : Int) (w : World) (r1 : RI w A1 t.a.digits.length t.a.digits) (r2 : RI w A2 t.b.digits.length t.b.digits) (r3 : RI w A3 t.s.digits.length t.s.digits) (hz : Sized t)
    (hb : 2 ≤ t.a.base) (hb2 : t.a.base ≤ 16) (h0 : 0 ≤ v) (h1 : v ≤ 9223372036854775807) :
    Calls Tryd.prog 199 #[.agg #[.int .i64 t.a.base, .slice A1 t.a.digits.length c1, .int .i64 t.b.base, .slice A2 t.b.digits.length c2, .int .i64 t.s.base, .slice A3 t.s.digits.length c3, .int .i64 t.carry], .int .i64 v] w fun e w' => ∃ A1 c1 A2 c2 A3 c3, e = .returned (.tuple #[.agg #[.int .i64 t.a.base, .slice A1 (digD t.a.base t.a.digits.length v).length c1, .int .i64 t.b.base, .slice A2 t.b.digits.length c2, .int .i64 t.s.base, .slice A3 t.s.digits.length c3, .int .i64 t.carry], .bool (restD t.a.base t.a.digits.length v == 0)]) ∧
      Kn w [rowI A3 c3 t.s.digits, rowI A2 c2 t.b.digits, rowI A1 c1 (digD t.a.base t.a.digits.length v)] w' := by
  have KR := (fun W => registerOf_any t.a.base t.a.digits.length v W hb hb2 (by have := hz.a; omega) h0 h1)
  have KC := Lib.hid (fun W (hW : Below w.heap.size w W) => copiedM_any t A1 A2 A3 c1 c2 c3 W (r1.below hW) (r2.below hW) (r3.below hW) hz)
  have KW := Lib.hid (fun W => width_any t.a.base A1 t.a.digits.length c1 W)
  obtain ⟨ds, hds⟩ : ∃ ds, digD t.a.base t.a.digits.length v = ds := ⟨_, rfl⟩
  obtain ⟨ok, hok⟩ : ∃ ok, (restD t.a.base t.a.digits.length v == 0) = ok := ⟨_, rfl⟩
  rw [hds, hok] at KR
  rw [hds, hok]
  have KR := Lib.hid KR
  clear hds hok r1 r2 r3 hz hb hb2 h0 h1
  go_enter Tryd.func199, Tryd.ntmps199
  go_wp2_with (first | (refine wpList.kn ((Kn.nil w).al [.int .i64 t.a.base, .slice A1 t.a.digits.length c1, .int .i64 t.b.base, .slice A2 t.b.digits.length c2, .int .i64 t.s.base, .slice A3 t.s.digits.length c3, .int .i64 t.carry] 37) ?_; intro w1 hK1))
  have hK2 := hK1.al [.int .i64 0, .slice none 0 0, .int .i64 0, .slice none 0 0, .int .i64 0, .slice none 0 0, .int .i64 0] 37
  generalize w1.alloc (.cells #[.int .i64 0, .slice none 0 0, .int .i64 0, .slice none 0 0, .int .i64 0, .slice none 0 0, .int .i64 0] 37) = w2 at hK2 ⊢
  have HG := Lib.hid (box2 hK2.drew.drop)
  have HA := Lib.hid (box2 (hK2.drew.al [.int .i64 0, .slice none 0 0] 35).drop.drop)
  have HS := HG
  go_cut [6, 7] (fun pp oo wx => ∃ (g : Nat) (A' : Option Addr) (c' : Nat), pp = .pointer (some ⟨g, 0, none⟩) ∧ oo = .bool ok ∧ Kn w [.blk g [.int .i64 t.a.base, .slice A' ds.length c'] 35, rowI A' c' ds, .blk w1.heap.size [.int .i64 0, .slice none 0 0, .int .i64 0, .slice none 0 0, .int .i64 0, .slice none 0 0, .int .i64 0] 37, .blk w.heap.size [.int .i64 t.a.base, .slice A1 t.a.digits.length c1, .int .i64 t.b.base, .slice A2 t.b.digits.length c2, .int .i64 t.s.base, .slice A3 t.s.digits.length c3, .int .i64 t.carry] 37] wx)
  case first =>
    go_region_held3 (fun W => W.cell? ⟨w.heap.size, 0, none⟩ = some (.int .i64 t.a.base) ∧ W.cell? ⟨w.heap.size, 1, none⟩ = some (.slice A1 t.a.digits.length c1))
      (first | with_reducible exact HG.out | with_reducible exact HA.out | with_reducible exact HS.out | exact HG.out | exact HA.out | exact HS.out) (first
      | (go_at_call 123; with_reducible refine (KW.out _).mono ?_; rintro e w3 ⟨rfl, hw3⟩; first | (have hK3 := hK2.drew.keep hw3; clear HG HA; have HG := Lib.hid (box2 hK3.drop); have HA := Lib.hid (box2 (hK3.al [.int .i64 0, .slice none 0 0] 35).drop.drop)) | (have hK3 := (hK2.al [.int .i64 0, .slice none 0 0] 35).drew.keep hw3; clear HG; have HG := Lib.hid (box2 hK3.drop.drop)))
      | (go_at_call 182; with_reducible refine (KR.out _).mono ?_; rintro e w4 ⟨A', c', rfl, hK⟩; clear HG HA; first
        | (have hK4 := hK3.join hK; have HG := Lib.hid (box2 (v0 := .int .i64 t.a.base) hK4.drop.drop.drop); obtain ⟨g1, f1, l1⟩ := hK4.drop.blkAt; have hK5 := (hK4.sw1.st 0 (.int .i64 t.a.base)).st 1 (.slice A' ds.length c'); have HS := Lib.hid (box2 hK5.drop.drop.drop); have HA := HG)
        | (have hK4 := (hK3.al [.int .i64 0, .slice none 0 0] 35).join hK; have HG := Lib.hid (box2 (v0 := .int .i64 t.a.base) hK4.drop.drop.drop); obtain ⟨g1, f1, l1⟩ := hK4.drop.blkAt; have hK5 := (hK4.sw1.st 0 (.int .i64 t.a.base)).st 1 (.slice A' ds.length c'); have HS := Lib.hid (box2 hK5.drop.drop.drop); have HA := HG)
        | (have hK4 := hK3.join hK; have HG := Lib.hid (box2 hK4.drop.drop); have HA := Lib.hid (box2 (hK4.al [.int .i64 0, .slice none 0 0] 35).drop.drop.drop); have hK5 := hK4.al [.int .i64 t.a.base, .slice A' ds.length c'] 35; have HS := Lib.hid (box2 hK5.drop.drop.drop))))
    all_goals
      go_wp2_with fail
      go_meet
      exact ⟨_, _, _, rfl, rfl, hK5⟩
  case rest =>
    obtain ⟨g, B1, e1, rfl, rfl, hK⟩ := hcut
    clear HG HA HS hK1 hK2 KR KW
    obtain ⟨a1, a2, a3, d1, d2, d3, g1, f1, l1, -⟩ := hK.cells
    go_wp2_with fail
    with_reducible refine (KC.out _ hK.below).mono ?_; rintro e w5 ⟨A4, e4, A5, e5, A6, e6, rfl, hKC⟩
    have hK5 := hK.join hKC
    clear a1 a2 a3 d1 d2 d3 g1 f1 l1 hK hKC
    obtain ⟨a1, a2, a3, d1, d2, d3, g1, f1, l1, -⟩ := hK5.cells
    go_wp2_with fail
    refine bodyPost.kn (((((((((hK5.sw5.st 0 _).st 1 _).st 2 _).st 3 _).st 4 _).st 5 _).st 6 _).al_ _)) ?_; intro w6 hK6
    clear a1 a2 a3 d1 d2 d3 g1 f1 l1
    obtain ⟨a1, a2, a3, -⟩ := hK6.cells
    refine bodyPost_ret (v := .tuple #[.agg #[.int .i64 t.a.base, .slice B1 ds.length e1, .int .i64 t.b.base, .slice A5 t.b.digits.length e5, .int .i64 t.s.base, .slice A6 t.s.digits.length e6, .int .i64 t.carry], .bool ok]) (by simp [results, Tryd.results199, go_sem, a1]) rfl ⟨B1, e1, A5, e5, A6, e6, rfl, ?_⟩
    exact hK6.drop.drop2.drop2.drop3
end Go.Proofs.YtcapccadpbiecaaDoor

namespace Go.Proofs.YtcapccadpbiecaaDoor
open Go.RowKit Go.Sort
/-- a register's digits when a number is added, and whether it goes round -/
def shiftD (b : Int) (ds : List Int) (x : Int) : List Int := digD b ds.length (((valL b ds + x).tmod (pw b ds.length) + pw b ds.length).tmod (pw b ds.length))
def shiftB (b : Int) (ds : List Int) (x : Int) : Bool := decide (valL b ds + x < 0) || decide (pw b ds.length ≤ valL b ds + x)
theorem shiftD_len (b : Int) (ds : List Int) (x : Int) : (shiftD b ds x).length = ds.length := digD_len _ _ _
set_option maxRecDepth 100000 in
set_option maxHeartbeats 1600000 in
theorem shifted_any (b : Int) (A : Option Addr) (c : Nat) (ds : List Int) (x : Int) (w : World) (hr : RI w A ds.length ds) (hv : vreg b ds = true) (hp : pw b ds.length ≤ 1000000000001) (hx0 : -1000000000001 ≤ x) (hx1 : x ≤ 1000000000001) :
    Calls Tryd.prog 163 #[.agg #[.int .i64 b, .slice A ds.length c], .int .i64 x] w fun e w' => ∃ A' c', e = .returned (.tuple #[.agg #[.int .i64 b, .slice A' (shiftD b ds x).length c'], .bool (shiftB b ds x)]) ∧ Kn w [rowI A' c' (shiftD b ds x)] w' := by
  obtain ⟨⟨b1, b2⟩, ⟨n1, n2⟩, hd, hl⟩ := vreg_iff.1 hv
  have hp1 := pw_pos b b1 ds.length
  have hv0 := (valL_bd b b1 ds (fun d h => (hd d h).1)).1
  have KN := (fun W => values_any b A ds.length c W b1 b2 (by omega))
  have hpc : powC b ds.length = pw b ds.length := by unfold powC; rw [if_pos hp]
  rw [hpc] at KN
  have KV := (fun W (hW : Below w.heap.size w W) => value_any b A ds.length c ds W b1 b2 hd (hr.below hW) n2)
  have hsd : shiftD b ds x = digD b ds.length (((valL b ds + x).tmod (pw b ds.length) + pw b ds.length).tmod (pw b ds.length)) := rfl
  have hsb : shiftB b ds x = (decide (valL b ds + x < 0) || decide (pw b ds.length ≤ valL b ds + x)) := rfl
  obtain ⟨N, hN⟩ : ∃ N, pw b ds.length = N := ⟨_, rfl⟩
  obtain ⟨V, hV⟩ : ∃ V, valL b ds = V := ⟨_, rfl⟩
  rw [hN] at KN hsd hsb hp hp1
  rw [hV] at KV hsd hsb hv0 hl
  obtain ⟨S, hS⟩ : ∃ S, V + x = S := ⟨_, rfl⟩
  rw [hS] at hsd hsb
  have hSb : -1000000000001 ≤ S ∧ S ≤ 2000000000001 := by omega
  have hm1 : -N < S.tmod N ∧ S.tmod N < N := by
    have h1 := Int.tmod_lt_of_pos S (show 0 < N by omega)
    have h2 := Int.lt_tmod_of_pos S (show 0 < N by omega)
    omega
  have hm2 : 0 ≤ (S.tmod N + N).tmod N ∧ (S.tmod N + N).tmod N < N := ⟨Int.tmod_nonneg _ (by omega), Int.tmod_lt_of_pos _ (by omega)⟩
  have hwr : IntKind.i64.wrap (S.tmod N + N) = S.tmod N + N := wrapI64 (by omega)
  have nz1 : N ≠ 0 := by omega
  have nz2 : (N == 0) = false := by simp; omega
  have nz3 : ¬ N = 0 := by omega
  have KW := (fun W => withValue_any b A ds.length c ((S.tmod N + N).tmod N) W b1 b2 (by omega) hm2.1 (by omega))
  rw [← hsd] at KW
  obtain ⟨es, hes⟩ : ∃ es, shiftD b ds x = es := ⟨_, rfl⟩
  rw [hes] at KW ⊢
  obtain ⟨bell, hbl⟩ : ∃ e, shiftB b ds x = e := ⟨_, rfl⟩
  have HSB := Lib.hid (hbl.symm.trans hsb)
  rw [hbl]
  have KN := Lib.hid KN
  have KV := Lib.hid KV
  have KW := Lib.hid KW
  have HSS := Lib.hid hS
  have hV2 : -9223372036854775808 ≤ V + x ∧ V + x ≤ 9223372036854775807 := by omega
  clear hsd hsb hes hbl hr hv hd hl hpc hN hV hS
  go_enter Tryd.func163, Tryd.ntmps163
  go_wp2_with (first | (refine wpList.kn ((Kn.nil w).al [.int .i64 b, .slice A ds.length c] 35) ?_; intro w1 hK1))
  have hK2 := hK1.al [.int .i64 0, .slice none 0 0] 35
  generalize w1.alloc (.cells #[.int .i64 0, .slice none 0 0] 35) = w2 at hK2 ⊢
  have HG := Lib.hid (box2 hK2.drew.drop)
  go_cut [6, 7] (fun pp oo wx => pp = .int .i64 N ∧ oo = .int .i64 S ∧ Kn w [.blk w1.heap.size [.int .i64 0, .slice none 0 0] 35, .blk w.heap.size [.int .i64 b, .slice A ds.length c] 35] wx)
  case first =>
    go_region_held3 (fun W => W.cell? ⟨w.heap.size, 0, none⟩ = some (.int .i64 b) ∧ W.cell? ⟨w.heap.size, 1, none⟩ = some (.slice A ds.length c))
      (first | with_reducible exact HG.out | exact HG.out) (first
      | (go_at_call 159; with_reducible refine (KN.out _).mono ?_; rintro e w3 ⟨rfl, hw3⟩; have hK3 := hK2.drew.keep hw3; clear HG; have HG := Lib.hid (box2 hK3.drop))
      | (go_at_call 164; with_reducible refine (KV.out _ hK3.below).mono ?_; rintro e w4 ⟨rfl, hw4⟩; have hK4 := hK3.keep hw4; clear HG; have HG := Lib.hid (box2 hK4.drop)))
    all_goals
      go_wp2_with fail
      go_meet
      exact ⟨rfl, by rw [HSS.out, wrapI64 (by omega)], hK4⟩
  case rest =>
    obtain ⟨rfl, rfl, hK⟩ := hcut
    clear HG hK1 hK2
    clear hV2 hv0
    have HG := Lib.hid (box2 hK.drew.drop)
    have HS := HG
    obtain ⟨a1, a2, a3⟩ := hK.blkAt
    rcases hlt : decide (S < 0) with _ | _
    · have hl2 := of_decide_eq_false hlt
      rcases hge : decide (N ≤ S) with _ | _
      · have hg2 := of_decide_eq_false hge
        rw [hlt, hge] at HSB
        go_wp2_with fail
        go_region_held3 (fun W => W.cell? ⟨w.heap.size, 0, none⟩ = some (.int .i64 b) ∧ W.cell? ⟨w.heap.size, 1, none⟩ = some (.slice A ds.length c)) (first | with_reducible exact HG.out | with_reducible exact HS.out | exact HG.out) (first
            | (go_at_call 165; with_reducible refine (KW.out _).mono ?_; rintro e w3 ⟨A', c', rfl, hK'⟩; have hK3 := hK.drew.join hK'; clear HG; have HG := Lib.hid (box2 hK3.drop.drop); have hK4 := (hK3.sw1.st 0 (.int .i64 b)).st 1 (.slice A' es.length c'); have HS := Lib.hid (box2 hK4.drop.drop); clear a1 a2 a3; obtain ⟨a1, a2, a3⟩ := hK3.drop.blkAt)
          )
        all_goals
          go_wp2_with fail
          refine bodyPost.kn hK4 ?_; intro w6 hK6
          clear a1 a2 a3
          obtain ⟨a1, a2, a3, -⟩ := hK6.cells
          refine bodyPost_ret (v := .tuple #[.agg #[.int .i64 b, .slice A' es.length c'], .bool bell]) (by simp [results, Tryd.results163, go_sem, a1]; rw [HSB.out]; try simp) rfl ⟨A', c', rfl, ?_⟩
          exact hK6.drop.drop1
      · have hg2 := of_decide_eq_true hge
        rw [hlt, hge] at HSB
        go_wp2_with fail
        go_region_held3 (fun W => W.cell? ⟨w.heap.size, 0, none⟩ = some (.int .i64 b) ∧ W.cell? ⟨w.heap.size, 1, none⟩ = some (.slice A ds.length c)) (first | with_reducible exact HG.out | with_reducible exact HS.out | exact HG.out) (first
            | (go_at_call 165; with_reducible refine (KW.out _).mono ?_; rintro e w3 ⟨A', c', rfl, hK'⟩; have hK3 := hK.drew.join hK'; clear HG; have HG := Lib.hid (box2 hK3.drop.drop); have hK4 := (hK3.sw1.st 0 (.int .i64 b)).st 1 (.slice A' es.length c'); have HS := Lib.hid (box2 hK4.drop.drop); clear a1 a2 a3; obtain ⟨a1, a2, a3⟩ := hK3.drop.blkAt)
          )
        all_goals
          go_wp2_with fail
          refine bodyPost.kn hK4 ?_; intro w6 hK6
          clear a1 a2 a3
          obtain ⟨a1, a2, a3, -⟩ := hK6.cells
          refine bodyPost_ret (v := .tuple #[.agg #[.int .i64 b, .slice A' es.length c'], .bool bell]) (by simp [results, Tryd.results163, go_sem, a1]; rw [HSB.out]; try simp) rfl ⟨A', c', rfl, ?_⟩
          exact hK6.drop.drop1
    · have hl2 := of_decide_eq_true hlt
      have hbe : bell = true := by rw [HSB.out, hlt]; rfl
      have HSB := Lib.hid hbe
      clear hbe
      obtain ⟨x1, x2⟩ := box2 hK.drop
      go_wp2_with fail
      first | (go_region_law (go_simp; go_at_call 165; with_reducible refine (KW.out _).mono ?_; rintro e w3 ⟨A', c', rfl, hK'⟩; have hK3 := hK.drew.join hK'; clear HG; have HG := Lib.hid (box2 hK3.drop.drop); have hK4 := (hK3.sw1.st 0 (.int .i64 b)).st 1 (.slice A' es.length c'); have HS := Lib.hid (box2 hK4.drop.drop); clear a1 a2 a3; obtain ⟨a1, a2, a3⟩ := hK3.drop.blkAt)) | fail "no"
      all_goals
        go_wp2_with fail
        refine bodyPost.kn hK4 ?_; intro w6 hK6
        clear a1 a2 a3
        obtain ⟨a1, a2, a3, -⟩ := hK6.cells
        refine bodyPost_ret (v := .tuple #[.agg #[.int .i64 b, .slice A' es.length c'], .bool bell]) (by simp [results, Tryd.results163, go_sem, a1]; rw [HSB.out]; try simp) rfl ⟨A', c', rfl, ?_⟩
        exact hK6.drop.drop1
end Go.Proofs.YtcapccadpbiecaaDoor

namespace Go.Proofs.YtcapccadpbiecaaDoor
open Go.RowKit Go.Sort
theorem restD_succ (b : Int) (k : Nat) (v : Int) : restD b (k + 1) v = restD b k (v.tdiv b) := by
  induction k with
  | zero => rfl
  | succ k ih => rw [restD, ih]; rfl
theorem digD_cons (b : Int) (k : Nat) (v : Int) : digD b (k + 1) v = v.tmod b :: digD b k (v.tdiv b) := by
  induction k with
  | zero => rfl
  | succ k ih => rw [digD, ih, restD_succ]; rfl
theorem pw_succ (b : Int) (k : Nat) : pw b (k + 1) = pw b k * b := rfl
theorem valL_lt (b : Int) (hb : 2 ≤ b) (ds : List Int) (hd : ∀ d ∈ ds, 0 ≤ d ∧ d < b) : valL b ds < pw b ds.length := by
  induction ds with
  | nil => simp [valL, pw]
  | cons d ds ih =>
    have h1 := ih (fun x hx => hd x (List.mem_cons_of_mem _ hx))
    have h2 := (hd d (List.mem_cons_self ..)).2
    have h3 : valL b ds * b ≤ (pw b ds.length - 1) * b := Int.mul_le_mul_of_nonneg_right (by omega) (by omega)
    rw [List.length_cons, pw_succ]
    have h4 : (pw b ds.length - 1) * b = pw b ds.length * b - b := by rw [Int.sub_mul]; omega
    simp only [valL]
    omega
theorem valL_digD (b : Int) (hb : 2 ≤ b) : ∀ (k : Nat) (v : Int), 0 ≤ v → v < pw b k → v ≤ 1000000000000 → valL b (digD b k v) = v
  | 0, v, h0, h1, _ => by simp only [pw] at h1; simp [digD, valL]; omega
  | k + 1, v, h0, h1, h2 => by
    rw [digD_cons]
    have e1 : v.tdiv b = v / b := Int.tdiv_eq_ediv_of_nonneg h0
    have e2 : v.tmod b = v % b := Int.tmod_eq_emod_of_nonneg h0
    have h3 : 0 ≤ v / b := Int.ediv_nonneg h0 (by omega)
    have h4 : v / b < pw b k := by rw [pw_succ] at h1; exact Int.ediv_lt_of_lt_mul (by omega) h1
    have h5 : v / b ≤ v := Int.ediv_le_self b h0
    simp only [valL]
    rw [e1, e2, valL_digD b hb k (v / b) h3 h4 (by omega)]
    have h6 := Int.emod_add_mul_ediv v b
    have h7 : v / b * b + v % b = v := by rw [Int.mul_comm]; omega
    rw [h7]; omega
theorem digD_ok (b : Int) (hb : 2 ≤ b) : ∀ (k : Nat) (v : Int), 0 ≤ v → ∀ d ∈ digD b k v, 0 ≤ d ∧ d < b
  | 0, _, _, d, h => by simp [digD] at h
  | k + 1, v, h0, d, h => by
    rw [digD_cons] at h
    have e1 : v.tdiv b = v / b := Int.tdiv_eq_ediv_of_nonneg h0
    have e2 : v.tmod b = v % b := Int.tmod_eq_emod_of_nonneg h0
    rcases List.mem_cons.1 h with rfl | h
    · rw [e2]; exact ⟨Int.emod_nonneg _ (by omega), Int.emod_lt_of_pos _ (by omega)⟩
    · rw [e1] at h; exact digD_ok b hb k _ (Int.ediv_nonneg h0 (by omega)) d h
theorem digD_vreg (b : Int) (hb : 2 ≤ b) (hb2 : b ≤ 16) (k : Nat) (hk : 1 ≤ k) (hk2 : k ≤ 16) (v : Int) (h0 : 0 ≤ v) (h1 : v < pw b k) (h2 : v ≤ 1000000000000) : vreg b (digD b k v) = true := by
  rw [vreg_iff, digD_len, valL_digD b hb k v h0 h1 h2]
  exact ⟨⟨hb, hb2⟩, ⟨by omega, by omega⟩, digD_ok b hb k v h0, h2⟩
theorem digD_zero (b : Int) : ∀ k : Nat, digD b k 0 = List.replicate k 0
  | 0 => rfl
  | k + 1 => by rw [digD_cons, Int.zero_tdiv, Int.zero_tmod, digD_zero b k]; rfl
/-- the shifted digits are valid again -/
theorem shiftD_vreg (b : Int) (ds : List Int) (x : Int) (hv : vreg b ds = true) (hp : pw b ds.length ≤ 1000000000001) : vreg b (shiftD b ds x) = true := by
  obtain ⟨⟨b1, b2⟩, ⟨n1, n2⟩, -, -⟩ := vreg_iff.1 hv
  have hp1 := pw_pos b b1 ds.length
  have h1 := Int.tmod_lt_of_pos ((valL b ds + x).tmod (pw b ds.length) + pw b ds.length) (show 0 < pw b ds.length by omega)
  have h2 := Int.lt_tmod_of_pos (valL b ds + x) (show 0 < pw b ds.length by omega)
  exact digD_vreg b b1 b2 _ (by omega) (by omega) _ (Int.tmod_nonneg _ (by omega)) h1 (by omega)
end Go.Proofs.YtcapccadpbiecaaDoor

namespace Go.Proofs.YtcapccadpbiecaaDoor
open Go.RowKit Go.Sort
/-- a turn: the setting times the unit is added -/
def turnT (t : Tri) (sign : Int) : Tri × Bool :=
  let u := pw t.b.base t.carry.toNat
  (⟨t.a, ⟨t.b.base, shiftD t.b.base t.b.digits (sign * (valL t.a.base t.a.digits * u))⟩, ⟨t.s.base, shiftD t.s.base t.s.digits (sign * u)⟩, t.carry⟩, shiftB t.b.base t.b.digits (sign * (valL t.a.base t.a.digits * u)))
/-- a stroke, and whether the bell rings -/
def strokeT (k : Int) (t : Tri) : Tri × Bool :=
  if k = 1 then turnT t 1
  else if k = 2 then turnT t (-1)
  else if k = 3 then (if t.carry + 1 = vplaces t then (t, true) else ({ t with carry := t.carry + 1 }, false))
  else if k = 4 then (if t.carry = 0 then (t, true) else ({ t with carry := t.carry - 1 }, false))
  else if k = 5 then (⟨t.a, ⟨t.b.base, digD t.b.base t.b.digits.length 0⟩, ⟨t.s.base, digD t.s.base t.s.digits.length 0⟩, t.carry⟩, false)
  else if k = 6 then ({ t with a := ⟨t.a.base, digD t.a.base t.a.digits.length 0⟩ }, false)
  else (t, false)
theorem pw_add (b : Int) (m n : Nat) : pw b (m + n) = pw b m * pw b n := by
  induction n with
  | zero => simp [pw]
  | succ n ih => rw [← Nat.add_assoc, pw_succ, ih, pw_succ, Int.mul_assoc]
theorem vmach_all {t : Tri} (h : vmach t = true) : t.a.ok = true ∧ t.b.ok = true ∧ t.s.ok = true ∧ t.a.base = t.b.base ∧ t.s.base = t.b.base ∧ pw t.b.base t.b.digits.length ≤ 1000000000001 ∧ pw t.s.base t.s.digits.length ≤ 1000000000001 ∧
    t.a.digits.length ≤ t.b.digits.length ∧ 0 ≤ t.carry ∧ t.carry ≤ vplaces t - 1 := by
  simp only [vmach, Bool.and_eq_true, beq_iff_eq, fullB, decide_eq_true_eq] at h
  obtain ⟨⟨⟨⟨h1, h2⟩, h3⟩, ⟨⟨h4, h5⟩, h6⟩, h7⟩, h8, h9⟩ := h
  obtain ⟨p, q⟩ := betB_iff.1 h9
  exact ⟨h1, h2, h3, h4, h5, h6, h7, h8, p, q⟩
theorem vmach_mk {t : Tri} (h1 : t.a.ok = true) (h2 : t.b.ok = true) (h3 : t.s.ok = true) (h4 : t.a.base = t.b.base) (h5 : t.s.base = t.b.base) (h6 : pw t.b.base t.b.digits.length ≤ 1000000000001) (h7 : pw t.s.base t.s.digits.length ≤ 1000000000001)
    (h8 : t.a.digits.length ≤ t.b.digits.length) (h9 : 0 ≤ t.carry) (h10 : t.carry ≤ vplaces t - 1) : vmach t = true := by
  simp only [vmach, Bool.and_eq_true, beq_iff_eq, fullB, decide_eq_true_eq]
  exact ⟨⟨⟨⟨h1, h2⟩, h3⟩, ⟨⟨h4, h5⟩, h6⟩, h7⟩, h8, betB_iff.2 ⟨h9, h10⟩⟩
theorem reg_ok {r : Reg} : r.ok = vreg r.base r.digits := rfl
/-- no sum of a turn runs over -/
theorem turn_bd {t : Tri} (h : vmach t = true) : 1 ≤ pw t.b.base t.carry.toNat ∧ pw t.b.base t.carry.toNat ≤ 1000000000001 ∧ 0 ≤ valL t.a.base t.a.digits * pw t.b.base t.carry.toNat ∧ valL t.a.base t.a.digits * pw t.b.base t.carry.toNat ≤ 1000000000001 := by
  obtain ⟨k1, k2, k3, e1, e2, f1, f2, l1, c0, c1⟩ := vmach_all h
  obtain ⟨⟨b1, b2⟩, ⟨n1, n2⟩, hd, hl⟩ := vreg_iff.1 k1
  have hu := pw_pos t.b.base (by omega) t.carry.toNat
  have hv0 := (valL_bd t.a.base b1 t.a.digits (fun d h => (hd d h).1)).1
  have hv1 := valL_lt t.a.base b1 t.a.digits hd
  have hadd := pw_add t.b.base t.a.digits.length t.carry.toNat
  have hc : t.a.digits.length + t.carry.toNat ≤ t.b.digits.length := by unfold vplaces at c1; omega
  have hm := pw_mono t.b.base (by omega) _ _ hc
  rw [e1] at hv1
  have h3 : valL t.a.base t.a.digits * pw t.b.base t.carry.toNat ≤ pw t.b.base t.a.digits.length * pw t.b.base t.carry.toNat := Int.mul_le_mul_of_nonneg_right (by rw [e1]; omega) (by omega)
  have hm2 := pw_mono t.b.base (by omega) t.carry.toNat t.b.digits.length (by omega)
  exact ⟨hu, by omega, Int.mul_nonneg hv0 (by omega), by omega⟩
theorem turnT_ok {t : Tri} (h : vmach t = true) (sign : Int) : vmach (turnT t sign).1 = true := by
  obtain ⟨k1, k2, k3, e1, e2, f1, f2, l1, c0, c1⟩ := vmach_all h
  refine vmach_mk k1 (shiftD_vreg _ _ _ k2 f1) (shiftD_vreg _ _ _ k3 f2) e1 e2 ?_ ?_ ?_ c0 ?_
  · simp only [turnT, shiftD_len]; exact f1
  · simp only [turnT, shiftD_len]; exact f2
  · simp only [turnT, shiftD_len]; exact l1
  · simp only [turnT, vplaces, shiftD_len]; exact c1
theorem zero_ok {b : Int} {ds : List Int} (h : vreg b ds = true) : vreg b (digD b ds.length 0) = true := by
  obtain ⟨⟨b1, b2⟩, ⟨n1, n2⟩, -, -⟩ := vreg_iff.1 h
  have := pw_pos b b1 ds.length
  exact digD_vreg b b1 b2 _ (by omega) (by omega) 0 (by omega) (by omega) (by omega)
theorem strokeT_ok {t : Tri} (k : Int) (h : vmach t = true) : vmach (strokeT k t).1 = true := by
  obtain ⟨k1, k2, k3, e1, e2, f1, f2, l1, c0, c1⟩ := vmach_all h
  unfold strokeT
  split
  · exact turnT_ok h 1
  split
  · exact turnT_ok h (-1)
  split
  · split
    · exact h
    · rename_i hc
      exact vmach_mk k1 k2 k3 e1 e2 f1 f2 l1 (by simp only []; omega) (by simp only [vplaces] at c1 hc ⊢; omega)
  split
  · split
    · exact h
    · rename_i hc
      exact vmach_mk k1 k2 k3 e1 e2 f1 f2 l1 (by simp only []; omega) (by simp only [vplaces] at c1 hc ⊢; omega)
  split
  · refine vmach_mk k1 (zero_ok k2) (zero_ok k3) e1 e2 (by simp only [digD_len]; exact f1) (by simp only [digD_len]; exact f2) (by simp only [digD_len]; exact l1) c0 (by simp only [vplaces, digD_len]; exact c1)
  split
  · refine vmach_mk (zero_ok k1) k2 k3 e1 e2 f1 f2 (by simp only [digD_len]; exact l1) c0 (by simp only [vplaces, digD_len]; exact c1)
  · exact h
end Go.Proofs.YtcapccadpbiecaaDoor

namespace Go.Proofs.YtcapccadpbiecaaDoor
open Go.RowKit Go.Sort
/-! programs, plainly: depths, matches, what a run does -/
def depA (xs : List Ins) (k : Nat) : Int := (progD (xs.take k)).getD 0
theorem vprog_len {xs : List Ins} (h : vprog xs = true) : xs.length ≤ 120 := by
  unfold vprog at h; simp only [Bool.and_eq_true, decide_eq_true_eq] at h; exact h.2
theorem vprog_some {xs : List Ins} (h : vprog xs = true) (k : Nat) : progD (xs.take k) = some (depA xs k) := by
  unfold vprog at h; simp only [Bool.and_eq_true, decide_eq_true_eq] at h
  unfold depA
  cases hp : progD (xs.take k) with
  | none => rw [progD_none hp] at h; cases h.1
  | some d => rfl
theorem depA_zero (xs : List Ins) : depA xs 0 = 0 := rfl
theorem depA_end {xs : List Ins} (h : vprog xs = true) {k : Nat} (hk : xs.length ≤ k) : depA xs k = 0 := by
  unfold vprog at h; simp only [Bool.and_eq_true, decide_eq_true_eq] at h
  unfold depA; rw [List.take_of_length_le hk, h.1]; rfl
theorem dep_step {xs : List Ins} (h : vprog xs = true) {k : Nat} (hk : k < xs.length) : instrOk xs[k].op xs[k].arg = true ∧ depthStep xs[k].op (depA xs k) = some (depA xs (k + 1)) := by
  have h1 := vprog_some h (k + 1)
  rw [progD_succ hk, vprog_some h k] at h1
  simp only [stepI, Option.bind_some] at h1
  split at h1
  · rename_i hi; exact ⟨hi, h1⟩
  · cases h1
theorem dep_bd {xs : List Ins} (h : vprog xs = true) : ∀ k : Nat, 0 ≤ depA xs k ∧ depA xs k ≤ 4
  | 0 => by rw [depA_zero]; omega
  | k + 1 => by
    by_cases hk : k < xs.length
    · exact depthStep_bd (dep_step h hk).2 (dep_bd h k).1 (dep_bd h k).2
    · rw [depA_end h (by omega)]; omega
theorem dep_open {xs : List Ins} (h : vprog xs = true) {k : Nat} (hk : k < xs.length) (ho : opens xs[k].op = true) : depA xs (k + 1) = depA xs k + 1 := by
  have h1 := (dep_step h hk).2
  have h10 : ¬ xs[k].op = 10 := by intro h; rw [h] at ho; simp [opens] at ho
  unfold depthStep at h1
  rw [if_neg h10, ho] at h1
  simp only [if_true] at h1
  split at h1
  · cases h1
  · injection h1 with h1; omega
theorem dep_close {xs : List Ins} (h : vprog xs = true) {k : Nat} (hk : k < xs.length) (ho : xs[k].op = 10) : depA xs (k + 1) = depA xs k - 1 := by
  have h1 := (dep_step h hk).2
  unfold depthStep at h1
  rw [if_pos ho] at h1
  split at h1
  · cases h1
  · injection h1 with h1; omega
theorem dep_same {xs : List Ins} (h : vprog xs = true) {k : Nat} (hk : k < xs.length) (ho : opens xs[k].op = false) (h10 : ¬ xs[k].op = 10) : depA xs (k + 1) = depA xs k := by
  have h1 := (dep_step h hk).2
  unfold depthStep at h1
  rw [if_neg h10, ho] at h1
  simp only [Bool.false_eq_true, if_false] at h1
  injection h1 with h1; omega
theorem dep_near {xs : List Ins} (h : vprog xs = true) (k : Nat) : depA xs k - 1 ≤ depA xs (k + 1) ∧ depA xs (k + 1) ≤ depA xs k + 1 := by
  by_cases hk : k < xs.length
  · rcases ho : opens xs[k].op with _ | _
    · by_cases h10 : xs[k].op = 10
      · rw [dep_close h hk h10]; omega
      · rw [dep_same h hk ho h10]; omega
    · rw [dep_open h hk ho]; omega
  · rw [depA_end h (show xs.length ≤ k by omega), depA_end h (show xs.length ≤ k + 1 by omega)]; omega
/-- e is the end of the loop that begins at i -/
def IsMatch (xs : List Ins) (i e : Nat) : Prop := i ≤ e ∧ e < xs.length ∧ depA xs (e + 1) = depA xs i ∧ ∀ j, i < j → j ≤ e → depA xs i < depA xs j
theorem IsMatch.one {xs : List Ins} {i e f : Nat} (h1 : IsMatch xs i e) (h2 : IsMatch xs i f) : e = f := by
  obtain ⟨a1, a2, a3, a4⟩ := h1
  obtain ⟨b1, b2, b3, b4⟩ := h2
  rcases Nat.lt_trichotomy e f with h | h | h
  · have := b4 (e + 1) (by omega) (by omega); omega
  · exact h
  · have := a4 (f + 1) (by omega) (by omega); omega
/-- a part of a program in which all loops are whole -/
structure Seg (xs : List Ins) (i tt : Nat) : Prop where
  le : i ≤ tt
  len : tt ≤ xs.length
  dep : depA xs tt = depA xs i
  above : ∀ j, i ≤ j → j ≤ tt → depA xs i ≤ depA xs j
theorem Seg.all {xs : List Ins} (h : vprog xs = true) : Seg xs 0 xs.length :=
  ⟨Nat.zero_le _, Nat.le_refl _, by rw [depA_end h (Nat.le_refl _), depA_zero], fun j _ _ => by rw [depA_zero]; exact (dep_bd h j).1⟩
theorem Seg.lt {xs : List Ins} {i tt : Nat} (hs : Seg xs i tt) (hi : i < tt) : i < xs.length := Nat.lt_of_lt_of_le hi hs.len
theorem Seg.noEnd {xs : List Ins} (h : vprog xs = true) {i tt : Nat} (hs : Seg xs i tt) (hi : i < tt) : ¬ (xs[i]'(hs.lt hi)).op = 10 := by
  intro h10
  have h1 := dep_close h (hs.lt hi) h10
  have h2 := hs.above (i + 1) (by omega) (by omega)
  omega
theorem Seg.next {xs : List Ins} (h : vprog xs = true) {i tt : Nat} (hs : Seg xs i tt) (hi : i < tt) (ho : opens (xs[i]'(hs.lt hi)).op = false) : Seg xs (i + 1) tt := by
  have h1 := dep_same h (hs.lt hi) ho (hs.noEnd h hi)
  exact ⟨by omega, hs.len, by rw [h1]; exact hs.dep, fun j h2 h3 => by rw [h1]; exact hs.above j (by omega) h3⟩
theorem Seg.loop {xs : List Ins} (h : vprog xs = true) {i tt e : Nat} (hs : Seg xs i tt) (hi : i < tt) (ho : opens (xs[i]'(hs.lt hi)).op = true) (hm : IsMatch xs i e) :
    i < e ∧ e < tt ∧ Seg xs (i + 1) e ∧ Seg xs (e + 1) tt := by
  obtain ⟨m1, m2, m3, m4⟩ := hm
  have h1 := dep_open h (hs.lt hi) ho
  have he : i < e := by
    rcases Nat.lt_or_ge i e with h2 | h2
    · exact h2
    · obtain rfl : e = i := by omega
      omega
  have ht : e < tt := by
    rcases Nat.lt_or_ge e tt with h2 | h2
    · exact h2
    · have := m4 tt hi h2; have := hs.dep; omega
  have h3 := m4 e he (Nat.le_refl _)
  have h4 := dep_near h e
  refine ⟨he, ht, ⟨by omega, by omega, by omega, fun j h5 h6 => ?_⟩, ⟨by omega, hs.len, by rw [m3]; exact hs.dep, fun j h5 h6 => by rw [m3]; exact hs.above j (by omega) h6⟩⟩
  have := m4 j (by omega) h6
  omega
theorem Seg.noOpen {xs : List Ins} {i tt : Nat} (hs : Seg xs i tt) : xs.length = tt ∨ tt < xs.length := by have := hs.len; omega
/-- what a runner holds -/
structure RS where
  m : Tri
  tr : List Int
  done : Nat
  code : Int
def RS.tick (s : RS) : RS := ⟨s.m, s.tr, s.done + 1, if s.done = 3000 then 5 else 0⟩
theorem RS.tick_full {s : RS} (h : s.done = 3000) : s.tick = ⟨s.m, s.tr, s.done + 1, 5⟩ := by simp [RS.tick, h]
theorem RS.tick_ok {s : RS} (h : ¬ s.done = 3000) : s.tick = ⟨s.m, s.tr, s.done + 1, 0⟩ := by simp [RS.tick, h]
/-- the setting set tt a value that fits -/
def setT (t : Tri) (v : Int) : Tri := { t with a := ⟨t.a.base, digD t.a.base t.a.digits.length v⟩ }
def setFits (t : Tri) (v : Int) : Bool := restD t.a.base t.a.digits.length v == 0
inductive Task where
  | run (i tt : Nat)
  | loop (op arg : Int) (i e : Nat) (k : Nat)
  | str (kind : Int) (n : Nat)
/-- what is done by a part of a program; the last is whether the bell has rung -/
inductive Ev (L : List Ins) : Task → RS → RS → Bool → Prop where
  | s0 {kind s} : Ev L (.str kind 0) s s false
  | sFull {kind n s} (h : s.done = 3000) : Ev L (.str kind (n + 1)) s s.tick false
  | sStep {kind n s s' b} (h : ¬ s.done = 3000) (he : Ev L (.str kind n) ⟨(strokeT kind s.m).1, s.tr ++ [kind], s.done + 1, 0⟩ s' b) : Ev L (.str kind (n + 1)) s s' ((strokeT kind s.m).2 || b)
  | rEnd {i tt s} (h : tt ≤ i) : Ev L (.run i tt) s s false
  | rCode {i tt s} (hi : i < tt) (h : ¬ s.code = 0) : Ev L (.run i tt) s s false
  | rSetFull {i tt s} (hi : i < tt) (hl : i < L.length) (hc : s.code = 0) (ho : L[i].op = 1) (h : s.done = 3000) : Ev L (.run i tt) s s.tick false
  | rSetBad {i tt s} (hi : i < tt) (hl : i < L.length) (hc : s.code = 0) (ho : L[i].op = 1) (h : ¬ s.done = 3000) (hf : setFits s.m L[i].arg = false) : Ev L (.run i tt) s ⟨s.m, s.tr, s.done + 1, 10⟩ false
  | rSet {i tt s s' b} (hi : i < tt) (hl : i < L.length) (hc : s.code = 0) (ho : L[i].op = 1) (h : ¬ s.done = 3000) (hf : setFits s.m L[i].arg = true) (he : Ev L (.run (i + 1) tt) ⟨setT s.m L[i].arg, s.tr, s.done + 1, 0⟩ s' b) : Ev L (.run i tt) s s' b
  | rLoop {i tt e s s1 s' b b1} (hi : i < tt) (hl : i < L.length) (hc : s.code = 0) (ho : opens L[i].op = true) (hm : IsMatch L i e) (h1 : Ev L (.loop L[i].op L[i].arg (i + 1) e 0) s s1 b1) (he : Ev L (.run (e + 1) tt) s1 s' b) : Ev L (.run i tt) s s' b
  | rStr {i tt s s1 s' b b1} (hi : i < tt) (hl : i < L.length) (hc : s.code = 0) (ho : opens L[i].op = false) (h1' : ¬ L[i].op = 1) (h1 : Ev L (.str (L[i].op - 1) (max 1 L[i].arg).toNat) s s1 b1) (he : Ev L (.run (i + 1) tt) s1 s' b) : Ev L (.run i tt) s s' (b1 || b)
  | lEnd {op arg : Int} {i e k : Nat} {s : RS} (h8 : op = 8) (hk : arg ≤ (k : Int)) : Ev L (.loop op arg i e k) s s false
  | lFull {op arg : Int} {i e k : Nat} {s : RS} (h8 : ¬ (op = 8 ∧ arg ≤ (k : Int))) (h : s.done = 3000) : Ev L (.loop op arg i e k) s s.tick false
  | lOut {op arg : Int} {i e k : Nat} {s s1 : RS} {b : Bool} (h8 : ¬ (op = 8 ∧ arg ≤ (k : Int))) (h : ¬ s.done = 3000) (h1 : Ev L (.run i e) ⟨s.m, s.tr, s.done + 1, 0⟩ s1 b) (ho : ¬ s1.code = 0 ∨ (op = 9 ∧ b = true)) : Ev L (.loop op arg i e k) s s1 false
  | lStep {op arg : Int} {i e k : Nat} {s s1 s' : RS} {b b2 : Bool} (h8 : ¬ (op = 8 ∧ arg ≤ (k : Int))) (h : ¬ s.done = 3000) (h1 : Ev L (.run i e) ⟨s.m, s.tr, s.done + 1, 0⟩ s1 b) (ho : s1.code = 0 ∧ ¬ (op = 9 ∧ b = true)) (he : Ev L (.loop op arg i e (k + 1)) s1 s' b2) : Ev L (.loop op arg i e k) s s' false
theorem Ev.one {L : List Ins} {t : Task} {s s1 : RS} {b1 : Bool} (h : Ev L t s s1 b1) : ∀ {s2 : RS} {b2 : Bool}, Ev L t s s2 b2 → s1 = s2 ∧ b1 = b2 := by
  induction h with
  | s0 => intro s2 b2 h2; cases h2; exact ⟨rfl, rfl⟩
  | sFull h => intro s2 b2 h2; cases h2 with
    | sFull => exact ⟨rfl, rfl⟩
    | sStep h' => exact absurd h h'
  | sStep h he ih => intro s2 b2 h2; cases h2 with
    | sFull h' => exact absurd h' h
    | sStep _ h' => obtain ⟨rfl, rfl⟩ := ih h'; exact ⟨rfl, rfl⟩
  | rEnd h => intro s2 b2 h2; cases h2 <;> first | exact ⟨rfl, rfl⟩ | omega
  | rCode hi h => intro s2 b2 h2; cases h2 <;> first | exact ⟨rfl, rfl⟩ | contradiction
  | @rSetFull i _ _ hi hl hc ho h =>
    have hop : opens (L[i]'hl).op = false := by rw [ho]; rfl
    intro s2 b2 h2; cases h2 <;> first | exact ⟨rfl, rfl⟩ | contradiction | omega | simp_all
  | @rSetBad i _ _ hi hl hc ho h hf =>
    have hop : opens (L[i]'hl).op = false := by rw [ho]; rfl
    intro s2 b2 h2; cases h2 <;> first | exact ⟨rfl, rfl⟩ | contradiction | omega | simp_all
  | @rSet i _ _ _ _ hi hl hc ho h hf he ih =>
    have hop : opens (L[i]'hl).op = false := by rw [ho]; rfl
    intro s2 b2 h2; cases h2 with
    | rSet _ _ _ _ _ _ he' => exact ih he'
    | _ => first | contradiction | omega | simp_all
  | @rLoop i _ _ _ _ _ _ _ hi hl hc ho hm h1 he ih1 ih2 =>
    have hop : ¬ (L[i]'hl).op = 1 := by intro h; rw [h] at ho; simp [opens] at ho
    intro s2 b2 h2; cases h2 with
    | rLoop _ _ _ _ hm' h1' he' =>
      obtain rfl := hm.one hm'
      obtain ⟨rfl, -⟩ := ih1 h1'
      exact ih2 he'
    | _ => first | contradiction | omega | simp_all
  | rStr hi hl hc ho h1' h1 he ih1 ih2 =>
    intro s2 b2 h2; cases h2 with
    | rStr _ _ _ _ _ h1'' he' =>
      obtain ⟨rfl, rfl⟩ := ih1 h1''
      obtain ⟨rfl, rfl⟩ := ih2 he'
      exact ⟨rfl, rfl⟩
    | _ => first | contradiction | omega | simp_all
  | lEnd h8 hk => intro s2 b2 h2; cases h2 <;> first | exact ⟨rfl, rfl⟩ | (exfalso; rename_i h _; exact h ⟨h8, hk⟩) | (exfalso; simp_all)
  | lFull h8 h => intro s2 b2 h2; cases h2 with
    | lEnd a b => exact absurd ⟨a, b⟩ h8
    | lFull => exact ⟨rfl, rfl⟩
    | lOut _ h' => exact absurd h h'
    | lStep _ h' => exact absurd h h'
  | lOut h8 h h1 ho ih => intro s2 b2 h2; cases h2 with
    | lEnd a b => exact absurd ⟨a, b⟩ h8
    | lFull _ h' => exact absurd h' h
    | lOut _ _ h1' => exact ⟨(ih h1').1, rfl⟩
    | lStep _ _ h1' ho' =>
      obtain ⟨rfl, rfl⟩ := ih h1'
      rcases ho with ho | ho
      · exact absurd ho'.1 ho
      · exact absurd ho ho'.2
  | lStep h8 h h1 ho he ih1 ih2 => intro s2 b2 h2; cases h2 with
    | lEnd a b => exact absurd ⟨a, b⟩ h8
    | lFull _ h' => exact absurd h' h
    | lOut _ _ h1' ho' =>
      obtain ⟨rfl, rfl⟩ := ih1 h1'
      rcases ho' with ho' | ho'
      · exact absurd ho.1 ho'
      · exact absurd ho' ho.2
    | lStep _ _ h1' _ he' =>
      obtain ⟨rfl, rfl⟩ := ih1 h1'
      exact ⟨(ih2 he').1, rfl⟩
theorem restD_div (b : Int) (hb : 2 ≤ b) (k : Nat) (v : Int) (h0 : 0 ≤ v) : restD b k v = v / pw b k := by
  induction k with
  | zero => simp [restD, pw]
  | succ k ih =>
    have h1 := pw_pos b hb k
    rw [restD, ih, Int.tdiv_eq_ediv_of_nonneg (Int.ediv_nonneg h0 (by omega)), Int.ediv_ediv_of_nonneg (by omega)]; rfl
theorem restD_zero (b : Int) (hb : 2 ≤ b) (k : Nat) (v : Int) (h0 : 0 ≤ v) : (restD b k v == 0) = decide (v < pw b k) := by
  have h1 := pw_pos b hb k
  rw [restD_div b hb k v h0, Bool.eq_iff_iff, beq_iff_eq, decide_eq_true_iff]
  constructor
  · intro h
    rcases Int.lt_or_le v (pw b k) with h2 | h2
    · exact h2
    · have := Int.ediv_le_ediv (show 0 < pw b k by omega) h2
      rw [Int.ediv_self (by omega)] at this; omega
  · intro h; exact Int.ediv_eq_zero_of_lt h0 h
/-- what holds of a runner all the time -/
structure RS.Good (s : RS) : Prop where
  m : vmach s.m = true
  tr : s.tr.length ≤ s.done
  done : s.code = 0 → s.done ≤ 3000
  top : s.done ≤ 3001
theorem setT_ok {t : Tri} (v : Int) (h : vmach t = true) (h0 : 0 ≤ v) (h1 : v < pw t.a.base t.a.digits.length) : vmach (setT t v) = true := by
  obtain ⟨k1, k2, k3, e1, e2, f1, f2, l1, c0, c1⟩ := vmach_all h
  obtain ⟨⟨b1, b2⟩, ⟨n1, n2⟩, hd, hl⟩ := vreg_iff.1 k1
  have hm := pw_mono t.a.base (by omega) _ _ l1
  rw [e1] at hm
  refine vmach_mk (t := setT t v) (digD_vreg _ b1 b2 _ (by omega) (by omega) v h0 h1 ?_) k2 k3 e1 e2 f1 f2 (by simp only [setT, digD_len]; exact l1) c0 (by simp only [setT, vplaces, digD_len]; exact c1)
  rw [e1] at h1; omega
theorem RS.Good.tick {s : RS} (h : s.Good) (hc : s.code = 0) : s.tick.Good := by
  have h1 := h.done hc
  have h2 := h.tr
  unfold RS.tick
  split
  · exact ⟨h.m, by simp only []; omega, (fun h => by cases h), by simp only []; omega⟩
  · exact ⟨h.m, by simp only []; omega, fun _ => by simp only []; omega, by simp only []; omega⟩
theorem RS.Good.stroke {s : RS} (h : s.Good) (hc : s.code = 0) (hd : ¬ s.done = 3000) (k : Int) : (RS.mk (strokeT k s.m).1 (s.tr ++ [k]) (s.done + 1) 0).Good := by
  have h1 := h.done hc
  have h2 := h.tr
  exact ⟨strokeT_ok k h.m, by simp; omega, fun _ => by simp only []; omega, by simp only []; omega⟩
theorem RS.Good.more {s : RS} (h : s.Good) (hc : s.code = 0) (hd : ¬ s.done = 3000) (t : Tri) (ht : vmach t = true) (c : Int) : (RS.mk t s.tr (s.done + 1) c).Good := by
  have h1 := h.done hc
  have h2 := h.tr
  exact ⟨ht, by simp only []; omega, fun _ => by simp only []; omega, by simp only []; omega⟩
end Go.Proofs.YtcapccadpbiecaaDoor

namespace Go.Proofs.YtcapccadpbiecaaDoor
open Go.RowKit Go.Sort
/-! sessions, plainly -/
/-- the name of a stroke -/
def sname (k : Int) : ByteArray :=
  if k = 1 then ⟨#[97, 100, 100]⟩ else if k = 2 then ⟨#[115, 117, 98]⟩ else if k = 3 then ⟨#[114, 105, 103, 104, 116]⟩ else if k = 4 then ⟨#[108, 101, 102, 116]⟩ else if k = 5 then ⟨#[99, 108, 101, 97, 114]⟩ else if k = 6 then ⟨#[122, 101, 114, 111]⟩ else ⟨#[]⟩
def kindOf (bs : List UInt8) : Int :=
  if bs = strB (sname 1) then 1 else if bs = strB (sname 2) then 2 else if bs = strB (sname 3) then 3 else if bs = strB (sname 4) then 4 else if bs = strB (sname 5) then 5 else if bs = strB (sname 6) then 6 else 0
theorem kindOf_sname {k : Int} (h : 1 ≤ k ∧ k ≤ 6) : kindOf (strB (sname k)) = k := by
  have h' : k = 1 ∨ k = 2 ∨ k = 3 ∨ k = 4 ∨ k = 5 ∨ k = 6 := by omega
  rcases h' with rfl | rfl | rfl | rfl | rfl | rfl <;> decide
theorem kindOf_none {bs : List UInt8} (h : ∀ k : Int, 1 ≤ k → k ≤ 6 → strB (sname k) ≠ bs) : kindOf bs = 0 := by
  unfold kindOf
  rw [if_neg (fun e => h 1 (by omega) (by omega) e.symm), if_neg (fun e => h 2 (by omega) (by omega) e.symm), if_neg (fun e => h 3 (by omega) (by omega) e.symm), if_neg (fun e => h 4 (by omega) (by omega) e.symm), if_neg (fun e => h 5 (by omega) (by omega) e.symm), if_neg (fun e => h 6 (by omega) (by omega) e.symm)]
theorem kindOf_bd (bs : List UInt8) : 0 ≤ kindOf bs ∧ kindOf bs ≤ 6 := by
  unfold kindOf
  repeat (split; omega)
  omega
theorem sname_len (k : Int) : (sname k).size ≤ 5 := by
  unfold sname
  repeat (split; decide)
  decide
theorem kindOf_name {bs : List UInt8} (h : kindOf bs ≠ 0) : strB (sname (kindOf bs)) = bs := by
  unfold kindOf at h ⊢
  repeat' split
  all_goals first | (rename_i e; exact e.symm) | (exfalso; revert h; simp_all)
def setB : List UInt8 := [115, 101, 116, 32]
def showB : List UInt8 := [115, 104, 111, 119, 32]
def endB : List UInt8 := [101, 110, 100]
def startB : List UInt8 := [115, 116, 97, 114, 116, 32]
/-- does a line begin so, with more behind? -/
def begins (p bs : List UInt8) : Bool := decide (p.length < bs.length) && decide (bs.take p.length = p)
/-- what a session has done -/
structure SS where
  start : Tri
  m : Tri
  str : List Int
  bel : List Int
  ended : Bool
def lineS (s : SS) (i : Int) (bs : List UInt8) : SS × Int :=
  if s.ended then (s, 5)
  else if kindOf bs ≠ 0 then (⟨s.start, (strokeT (kindOf bs) s.m).1, s.str ++ [kindOf bs], if (strokeT (kindOf bs) s.m).2 then s.bel ++ [i] else s.bel, false⟩, 0)
  else if bs = endB then ({ s with ended := true }, 0)
  else if begins setB bs then
    (if (rdDec (bs.drop 4)).isSome && decide (0 ≤ rdN (bs.drop 4) ∧ rdN (bs.drop 4) < pw s.m.a.base s.m.a.digits.length) then ({ s with m := setT s.m (rdN (bs.drop 4)) }, 0) else (s, 3))
  else if begins showB bs then (if bs.drop 5 = strB (mtextL s.m) then (s, 0) else (s, 4))
  else (s, 2)
def goS (s : SS) (i : Int) : List (List UInt8) → SS × Int × Int
  | [] => if s.ended then (s, -1, 0) else (s, i, 5)
  | b :: t => if (lineS s i b).2 ≠ 0 then ((lineS s i b).1, i, (lineS s i b).2) else goS (lineS s i b).1 (i + 1) t
def zSS : SS := ⟨zTri, zTri, [], [], false⟩
def runS : List (List UInt8) → SS × Int × Int
  | [] => (zSS, 0, 1)
  | b :: t => if begins startB b && (rdM (b.drop 6)).isSome then goS ⟨rdMach (b.drop 6), rdMach (b.drop 6), [], [], false⟩ 1 t else (zSS, 0, 1)
structure SS.Good (s : SS) (k : Nat) : Prop where
  start : vmach s.start = true
  m : vmach s.m = true
  str : s.str.length ≤ k
  bel : s.bel.length ≤ k
theorem SS.Good.mono {s : SS} {k k' : Nat} (h : s.Good k) (hk : k ≤ k') : s.Good k' := ⟨h.start, h.m, Nat.le_trans h.str hk, Nat.le_trans h.bel hk⟩
theorem lineS_good {s : SS} {k : Nat} {i : Int} {bs : List UInt8} (h : s.Good k) : (lineS s i bs).1.Good (k + 1) := by
  unfold lineS
  split
  · exact h.mono (by omega)
  split
  · refine ⟨h.start, strokeT_ok _ h.m, by simp only [List.length_append, List.length_cons, List.length_nil]; have := h.str; omega, ?_⟩
    show (if _ then _ else _ : List Int).length ≤ _
    have := h.bel
    split
    · simp only [List.length_append, List.length_cons, List.length_nil]; omega
    · omega
  split
  · exact ⟨h.start, h.m, by have := h.str; show s.str.length ≤ _; omega, by have := h.bel; show s.bel.length ≤ _; omega⟩
  split
  · split
    · rename_i hc
      rw [Bool.and_eq_true, decide_eq_true_eq] at hc
      exact ⟨h.start, setT_ok _ h.m hc.2.1 hc.2.2, by have := h.str; show s.str.length ≤ _; omega, by have := h.bel; show s.bel.length ≤ _; omega⟩
    · exact h.mono (by omega)
  split
  · split <;> exact h.mono (by omega)
  · exact h.mono (by omega)
theorem goS_good : ∀ {l : List (List UInt8)} {s : SS} {k : Nat} {i : Int}, s.Good k → (goS s i l).1.Good (k + l.length)
  | [], s, k, i, h => by
    unfold goS
    split <;> exact h
  | b :: t, s, k, i, h => by
    unfold goS
    have h1 := lineS_good (i := i) (bs := b) h
    split
    · exact h1.mono (by simp only [List.length_cons]; omega)
    · have := goS_good (l := t) (i := i + 1) h1
      rw [List.length_cons, show k + (t.length + 1) = k + 1 + t.length by omega]
      exact this
theorem rdm_good {bs : List UInt8} (h : (rdM bs).isSome = true) : vmach (rdMach bs) = true := by
  obtain ⟨t, ht⟩ := Option.isSome_iff_exists.1 h
  rw [(rdm_some ht).1]
  exact (rdM_sound ht).1
theorem runS_good {l : List (List UInt8)} (h : (runS l).2.2 = 0) : (runS l).1.Good l.length := by
  match l, h with
  | [], h => simp [runS] at h
  | b :: t, h =>
    rcases hc : (begins startB b && (rdM (b.drop 6)).isSome) with _ | _
    · simp [runS, hc] at h
    · have hc' := hc
      rw [Bool.and_eq_true] at hc'
      have hg := rdm_good hc'.2
      have := goS_good (l := t) (s := ⟨rdMach (b.drop 6), rdMach (b.drop 6), [], [], false⟩) (k := 0) (i := 1) ⟨hg, hg, Nat.le_refl _, Nat.le_refl _⟩
      simp only [runS, hc, if_true]
      exact this.mono (by simp)
/-- what a whole session gives: its end, and a code -/
def wholeC (l : List (List UInt8)) : Int := if l.length > 100 then 5 else if (runS l).2.2 = 0 then 0 else 8
theorem wholeC_ok {l : List (List UInt8)} (h : wholeC l = 0) : l.length ≤ 100 ∧ (runS l).2.2 = 0 := by
  unfold wholeC at h
  split at h
  · cases h
  · split at h
    · exact ⟨by omega, by assumption⟩
    · cases h
end Go.Proofs.YtcapccadpbiecaaDoor

namespace Go.Proofs.YtcapccadpbiecaaDoor
open Go.RowKit Go.Sort
theorem isStrokeV (k : Int) (w : World) (h : 1 ≤ k ∧ k ≤ 6) : Calls Tryd.prog 96 #[.int .i64 k] w fun e w' => e = .returned (.bool true) ∧ w = w' := by
  have KB := Lib.hid (fun W => calls_val (between_any k 1 6 W) (congrArg Value.bool (betB_iff.2 h)))
  go_enter Tryd.func96, Tryd.ntmps96
  go_wp2_with (go_at_call 127; refine (KB.out _).mono ?_; rintro e w' ⟨rfl, rfl⟩)
  go_ret
  exact ⟨rfl, rfl⟩
theorem l10KindV (k : Int) (w : World) (h : 1 ≤ k ∧ k ≤ 6) : Calls Tryd.prog 93 #[.int .i64 k] w fun e w' => e = .returned (.bool true) ∧ w = w' := by
  have KB := Lib.hid (fun W => calls_val (l00In_any k 1 6 W) (congrArg Value.bool (betB_iff.2 h)))
  go_enter Tryd.func93, Tryd.ntmps93
  go_wp2_with (go_at_call 128; refine (KB.out _).mono ?_; rintro e w' ⟨rfl, rfl⟩)
  go_ret
  exact ⟨rfl, rfl⟩
set_option maxHeartbeats 800000 in
theorem StrokeName_any (k : Int) (w : World) (h : 1 ≤ k ∧ k ≤ 6) : Calls Tryd.prog 61 #[.int .i64 k] w fun e w' => e = .returned (.string (sname k)) ∧ Below w.heap.size w w' := by
  have h' : k = 1 ∨ k = 2 ∨ k = 3 ∨ k = 4 ∨ k = 5 ∨ k = 6 := by omega
  clear h
  rcases h' with rfl | rfl | rfl | rfl | rfl | rfl
  all_goals
    go_enter Tryd.func61, Tryd.ntmps61
    go_wp2_with (go_at_call 96; refine (isStrokeV _ _ (by decide)).mono ?_; rintro e w' ⟨rfl, rfl⟩)
    go_ret
    exact ⟨rfl, by first | exact Below.refl _ _ | exact (Below.refl _ _).alloc (Nat.le_refl _) _⟩
set_option maxHeartbeats 800000 in
theorem specStrokeName_any (k : Int) (w : World) (h : 1 ≤ k ∧ k ≤ 6) : Calls Tryd.prog 95 #[.int .i64 k] w fun e w' => e = .returned (.string (sname k)) ∧ Below w.heap.size w w' := by
  have h' : k = 1 ∨ k = 2 ∨ k = 3 ∨ k = 4 ∨ k = 5 ∨ k = 6 := by omega
  clear h
  rcases h' with rfl | rfl | rfl | rfl | rfl | rfl
  all_goals
    go_enter Tryd.func95, Tryd.ntmps95
    go_wp2_with (go_at_call 93; refine (l10KindV _ _ (by decide)).mono ?_; rintro e w' ⟨rfl, rfl⟩)
    go_ret
    exact ⟨rfl, by first | exact Below.refl _ _ | exact (Below.refl _ _).alloc (Nat.le_refl _) _⟩
set_option maxHeartbeats 1600000 in
theorem strokeNamed_any (s : ByteArray) (w : World) :
    Calls Tryd.prog 88 #[.string s] w fun e w' => e = .returned (.tuple #[.int .i64 (kindOf (strB s)), .bool (decide (kindOf (strB s) ≠ 0))]) ∧ Below w.heap.size w w' := by
  go_enter Tryd.func88, Tryd.ntmps88
  go_wp2_with fail
  go_loopw [4] (fun kk wr => ∃ k : Nat, 1 ≤ k ∧ k ≤ 7 ∧ kk = .int .i64 k ∧ (∀ j : Int, 1 ≤ j → j < k → strB (sname j) ≠ strB s) ∧ Below w.heap.size w wr) (fun kk _ => 8 - (intOf kk).toNat)
  case atStart => exact ⟨1, by omega, by omega, rfl, fun j h1 h2 => by omega, Below.refl _ _⟩
  case round =>
    obtain ⟨k, k1, k7, rfl, hno, hb⟩ := hrel
    have HNO := Lib.hid hno
    clear hno
    by_cases hk : k ≤ 6
    · have hk2 : (k : Int) ≤ 6 := by omega
      have KN := Lib.hid (StrokeName_any k wr (by omega))
      obtain ⟨N, hN⟩ : ∃ N, sname k = N := ⟨_, rfl⟩
      rw [hN] at KN
      have HN := Lib.hid hN
      clear hN
      rcases hq : (N.toList == s.toList) with _ | _
      · have HQ : Hid (strB N ≠ strB s) := by simp only [Hid]; rw [strB_toList, strB_toList, beq_eq_false_iff_ne] at hq; exact hq
        go_wp2_with (go_at_call 61; refine KN.out.mono ?_; rintro e w' ⟨rfl, hw⟩)
        go_roundw
        case rel => exact ⟨k + 1, by omega, by omega, by go_num, fun j h1 h2 => by
            rcases Int.lt_or_le j k with h3 | h3
            · exact HNO.out j h1 h3
            · obtain rfl : j = k := by omega
              rw [HN.out]; exact HQ.out, hb.trans (hw.mono hb.size)⟩
        case measure => simp [intOf]; omega
      · have HQ : Hid (kindOf (strB s) = k) := by
          simp only [Hid]
          rw [strB_toList, strB_toList, beq_iff_eq] at hq
          rw [← hq, ← HN.out]
          exact kindOf_sname (by omega)
        have hk0 : Hid (decide (kindOf (strB s) ≠ 0) = true) := by simp only [Hid]; rw [HQ.out]; exact decide_eq_true (by omega)
        go_wp2_with (go_at_call 61; refine KN.out.mono ?_; rintro e w' ⟨rfl, hw⟩)
        go_ret2
        exact ⟨by rw [hk0.out, HQ.out]; rfl, hb.trans (hw.mono hb.size)⟩
    · have hk2 : ¬ (k : Int) ≤ 6 := by omega
      have HQ := Lib.hid (kindOf_none (bs := strB s) (fun j h1 h2 => HNO.out j h1 (by omega)))
      go_wp2_with fail
      go_ret2
      exact ⟨by rw [HQ.out]; rfl, hb⟩
set_option maxHeartbeats 1600000 in
theorem l24Kind_any (s : ByteArray) (w : World) :
    Calls Tryd.prog 172 #[.string s] w fun e w' => e = .returned (.int .i64 (kindOf (strB s))) ∧ Below w.heap.size w w' := by
  go_enter Tryd.func172, Tryd.ntmps172
  go_wp2_with fail
  go_loopw [3] (fun kk wr => ∃ k : Nat, 1 ≤ k ∧ k ≤ 7 ∧ kk = .int .i64 k ∧ (∀ j : Int, 1 ≤ j → j < k → strB (sname j) ≠ strB s) ∧ Below w.heap.size w wr) (fun kk _ => 8 - (intOf kk).toNat)
  case atStart => exact ⟨1, by omega, by omega, rfl, fun j h1 h2 => by omega, Below.refl _ _⟩
  case round =>
    obtain ⟨k, k1, k7, rfl, hno, hb⟩ := hrel
    have HNO := Lib.hid hno
    clear hno
    by_cases hk : k ≤ 6
    · have hk2 : (k : Int) ≤ 6 := by omega
      have KN := Lib.hid (specStrokeName_any k wr (by omega))
      obtain ⟨N, hN⟩ : ∃ N, sname k = N := ⟨_, rfl⟩
      rw [hN] at KN
      have HN := Lib.hid hN
      clear hN
      rcases hq : (N.toList == s.toList) with _ | _
      · have HQ : Hid (strB N ≠ strB s) := by simp only [Hid]; rw [strB_toList, strB_toList, beq_eq_false_iff_ne] at hq; exact hq
        go_wp2_with (go_at_call 95; refine KN.out.mono ?_; rintro e w' ⟨rfl, hw⟩)
        go_roundw
        case rel => exact ⟨k + 1, by omega, by omega, by go_num, fun j h1 h2 => by
            rcases Int.lt_or_le j k with h3 | h3
            · exact HNO.out j h1 h3
            · obtain rfl : j = k := by omega
              rw [HN.out]; exact HQ.out, hb.trans (hw.mono hb.size)⟩
        case measure => simp [intOf]; omega
      · have HQ : Hid (kindOf (strB s) = k) := by
          simp only [Hid]
          rw [strB_toList, strB_toList, beq_iff_eq] at hq
          rw [← hq, ← HN.out]
          exact kindOf_sname (by omega)
        go_wp2_with (go_at_call 95; refine KN.out.mono ?_; rintro e w' ⟨rfl, hw⟩)
        go_ret
        exact ⟨by rw [HQ.out]; rfl, hb.trans (hw.mono hb.size)⟩
    · have hk2 : ¬ (k : Int) ≤ 6 := by omega
      have HQ := Lib.hid (kindOf_none (bs := strB s) (fun j h1 h2 => HNO.out j h1 (by omega)))
      go_wp2_with fail
      go_ret
      exact ⟨by rw [HQ.out]; rfl, hb⟩
theorem begins_iff {p bs : List UInt8} : begins p bs = true ↔ p.length < bs.length ∧ bs.take p.length = p := by
  unfold begins; simp
/-- what stands behind a beginning -/
def restB (p s : ByteArray) : ByteArray := if begins (strB p) (strB s) then s.extract p.size s.size else ⟨#[]⟩
theorem restB_yes {p s : ByteArray} (h : begins (strB p) (strB s) = true) : restB p s = s.extract p.size s.size := if_pos h
theorem restB_no {p s : ByteArray} (h : begins (strB p) (strB s) = false) : restB p s = ⟨#[]⟩ := if_neg (by rw [h]; exact Bool.false_ne_true)
set_option maxHeartbeats 800000 in
theorem behind_any (s p : ByteArray) (w : World) (_hs : s.size ≤ 9223372036854775807) (hp : p.size ≤ 100) :
    Calls Tryd.prog 75 #[.string s, .string p] w fun e w' => e = .returned (.tuple #[.string (restB p s), .bool (begins (strB p) (strB s))]) ∧ w = w' := by
  have HB := Lib.hid (show begins (strB p) (strB s) = (decide (p.size < s.size) && decide ((strB s).take p.size = strB p)) by unfold begins; rw [strB_len, strB_len])
  by_cases hl : p.size < s.size
  · have hl1 : ¬ (s.size : Int) ≤ (p.size : Int) := by omega
    rcases hq : ((s.extract 0 p.size).toList == p.toList) with _ | _
    · have HF : Hid (begins (strB p) (strB s) = false) := by
        simp only [Hid]
        rw [HB.out]
        rw [strB_toList, strB_toList, strB_extract, beq_eq_false_iff_ne] at hq
        simp at hq
        simp [hq]
      have HQ := Lib.hid (restB_no HF.out)
      go_enter Tryd.func75, Tryd.ntmps75
      go_wp2_with fail
      go_ret2
      exact ⟨by rw [HQ.out, HF.out]; rfl, rfl⟩
    · have HF : Hid (begins (strB p) (strB s) = true) := by
        simp only [Hid]
        rw [HB.out]
        rw [strB_toList, strB_toList, strB_extract, beq_iff_eq] at hq
        simp at hq
        simp [hq, hl]
      have HQ := Lib.hid (restB_yes HF.out)
      go_enter Tryd.func75, Tryd.ntmps75
      go_wp2_with fail
      go_ret2
      exact ⟨by rw [HQ.out, HF.out]; rfl, rfl⟩
  · have hl1 : (s.size : Int) ≤ (p.size : Int) := by omega
    have HF : Hid (begins (strB p) (strB s) = false) := by
      simp only [Hid]
      rw [HB.out, decide_eq_false hl]; rfl
    have HQ := Lib.hid (restB_no HF.out)
    go_enter Tryd.func75, Tryd.ntmps75
    go_wp2_with fail
    go_ret2
    exact ⟨by rw [HQ.out, HF.out]; rfl, rfl⟩
end Go.Proofs.YtcapccadpbiecaaDoor

namespace Go.Proofs.YtcapccadpbiecaaDoor
open Go.RowKit Go.Sort
/-! notes and their sums -/
def noteB (b : UInt8) : Bool := decide (32 ≤ b.toNat) && decide (b.toNat ≤ 126)
def noteOk (bs : List UInt8) : Bool := bs.all noteB && decide (bs.length ≤ 60)
def nfold (y : Int) (bs : List UInt8) : Int := bs.foldl (fun s b => (31 * s + (b.toNat : Int)).tmod 65521) y
def nsum (before number : Int) (bs : List UInt8) : Int := if betB before 0 65520 && betB number 0 1000000 then nfold ((before + 7 * number).tmod 65521) bs else 0
theorem nmod_bd {a : Int} (h : 0 ≤ a) : 0 ≤ a.tmod 65521 ∧ a.tmod 65521 ≤ 65520 := by
  rw [Int.tmod_eq_emod_of_nonneg h]; omega
theorem nfold_bd {y : Int} (h0 : 0 ≤ y) (h1 : y ≤ 65520) (bs : List UInt8) : 0 ≤ nfold y bs ∧ nfold y bs ≤ 65520 := by
  unfold nfold
  induction bs generalizing y with
  | nil => exact ⟨h0, h1⟩
  | cons b bs ih =>
    rw [List.foldl_cons]
    have := nmod_bd (a := 31 * y + (b.toNat : Int)) (by omega)
    exact ih this.1 this.2
theorem nsum_bd (before number : Int) (bs : List UInt8) : 0 ≤ nsum before number bs ∧ nsum before number bs ≤ 65520 := by
  unfold nsum
  split
  · rename_i h
    rw [Bool.and_eq_true] at h
    have b1 := betB_iff.1 h.1
    have b2 := betB_iff.1 h.2
    have := nmod_bd (a := before + 7 * number) (by omega)
    exact nfold_bd this.1 this.2 bs
  · omega
set_option maxHeartbeats 800000 in
theorem isNote_any (s : ByteArray) (w : World) (hs : s.size ≤ 9223372036854775807) :
    Calls Tryd.prog 170 #[.string s] w fun e w' => e = .returned (.bool (noteOk (strB s))) ∧ w = w' := by
  have HN := Lib.hid (show noteOk (strB s) = ((strB s).all noteB && decide (s.size ≤ 60)) by unfold noteOk; rw [strB_len])
  obtain ⟨R, hR⟩ : ∃ R, noteOk (strB s) = R := ⟨_, rfl⟩
  rw [hR] at HN ⊢
  clear hR
  have HXL := Lib.hid (strB_len s)
  go_enter Tryd.func170, Tryd.ntmps170
  go_wp2_with fail
  go_loopw [6, 3] (fun ii _ wr => ∃ k : Nat, k ≤ s.size ∧ ii = .int .i64 k ∧ ((strB s).take k).all noteB = true ∧ w = wr) (fun ii _ _ => s.size - (intOf ii).toNat)
  case atStart => exact ⟨0, Nat.zero_le _, rfl, rfl, rfl⟩
  case round =>
    obtain ⟨k, hk, rfl, hall, rfl⟩ := hrel
    have HA := Lib.hid hall
    clear hall
    by_cases hkn : k < s.size
    · obtain ⟨q, hq⟩ : ∃ q : UInt8, s[k] = q := ⟨_, rfl⟩
      obtain ⟨z, hz⟩ : ∃ z : Nat, q.toNat = z := ⟨_, rfl⟩
      have hkl : k < (strB s).length := by rw [HXL.out]; exact hkn
      have hg : (strB s)[k] = q := by rw [← hq, strB_get s hkn]
      have HT := Lib.hid (show ((strB s).take (k + 1)).all noteB = (((strB s).take k).all noteB && noteB q) by
        rw [List.take_succ_eq_append_getElem hkl, List.all_append, hg]; simp)
      have HNOT := Lib.hid (fun (h : noteB q = false) => show (strB s).all noteB = false by
        simp only [List.all_eq_false]; exact ⟨q, by rw [← hg]; exact List.getElem_mem hkl, by simp [h]⟩)
      have HB := Lib.hid (show noteB q = (decide (32 ≤ z) && decide (z ≤ 126)) by unfold noteB; rw [hz])
      have i0 : (0 : Int) ≤ (k : Int) := by omega
      have i1 : (k : Int) < (s.size : Int) := by omega
      clear hg hkl
      by_cases h1 : 32 ≤ z
      · by_cases h2 : z ≤ 126
        · have j1 : ¬ (z : Int) < 32 := by omega
          have j2 : ¬ (126 : Int) < (z : Int) := by omega
          have HY := Lib.hid (show noteB q = true by rw [HB.out, decide_eq_true h1, decide_eq_true h2]; rfl)
          go_wp2_with fail
          go_roundw
          case rel => exact ⟨k + 1, by omega, by go_num, by rw [HT.out, HA.out, HY.out]; rfl, by first | rfl | trivial⟩
          case measure => simp [intOf]; omega
        · have j1 : ¬ (z : Int) < 32 := by omega
          have j2 : (126 : Int) < (z : Int) := by omega
          have HQ : Hid (R = false) := by simp only [Hid]; rw [HN.out, HNOT.out (by rw [HB.out, decide_eq_false h2]; simp)]; rfl
          go_wp2_with fail
          go_ret
          exact ⟨ret_bool HQ.out.symm, rfl⟩
      · have j1 : (z : Int) < 32 := by omega
        have HQ : Hid (R = false) := by simp only [Hid]; rw [HN.out, HNOT.out (by rw [HB.out, decide_eq_false h1]; simp)]; rfl
        go_wp2_with fail
        go_ret
        exact ⟨ret_bool HQ.out.symm, rfl⟩
    · have HK : Hid ((strB s).take k = strB s) := List.take_of_length_le (by have := HXL.out; omega)
      have i1 : ¬ (k : Int) < (s.size : Int) := by omega
      have HQ : Hid (R = decide (s.size ≤ 60)) := by
        simp only [Hid]
        have := HA.out
        rw [HK.out] at this
        rw [HN.out, this]; rfl
      by_cases h6 : s.size ≤ 60
      · have j1 : (s.size : Int) ≤ 60 := by omega
        have HQ2 : Hid (R = true) := by simp only [Hid]; rw [HQ.out, decide_eq_true h6]
        go_wp2_with fail
        go_ret
        exact ⟨ret_bool HQ2.out.symm, rfl⟩
      · have j1 : ¬ (s.size : Int) ≤ 60 := by omega
        have HQ2 : Hid (R = false) := by simp only [Hid]; rw [HQ.out, decide_eq_false h6]
        go_wp2_with fail
        go_ret
        exact ⟨ret_bool HQ2.out.symm, rfl⟩
set_option maxHeartbeats 800000 in
theorem l26Note_any (s : ByteArray) (w : World) (hs : s.size ≤ 9223372036854775807) :
    Calls Tryd.prog 103 #[.string s] w fun e w' => e = .returned (.bool (noteOk (strB s))) ∧ w = w' := by
  have HN := Lib.hid (show noteOk (strB s) = ((strB s).all noteB && decide (s.size ≤ 60)) by unfold noteOk; rw [strB_len])
  obtain ⟨R, hR⟩ : ∃ R, noteOk (strB s) = R := ⟨_, rfl⟩
  rw [hR] at HN ⊢
  clear hR
  have HXL := Lib.hid (strB_len s)
  go_enter Tryd.func103, Tryd.ntmps103
  go_wp2_with fail
  go_loopw [3] (fun ii wr => ∃ k : Nat, k ≤ s.size ∧ ii = .int .i64 k ∧ ((strB s).take k).all noteB = true ∧ w = wr) (fun ii  _ => s.size - (intOf ii).toNat)
  case atStart => exact ⟨0, Nat.zero_le _, rfl, rfl, rfl⟩
  case round =>
    obtain ⟨k, hk, rfl, hall, rfl⟩ := hrel
    have HA := Lib.hid hall
    clear hall
    by_cases hkn : k < s.size
    · obtain ⟨q, hq⟩ : ∃ q : UInt8, s[k] = q := ⟨_, rfl⟩
      obtain ⟨z, hz⟩ : ∃ z : Nat, q.toNat = z := ⟨_, rfl⟩
      have hkl : k < (strB s).length := by rw [HXL.out]; exact hkn
      have hg : (strB s)[k] = q := by rw [← hq, strB_get s hkn]
      have HT := Lib.hid (show ((strB s).take (k + 1)).all noteB = (((strB s).take k).all noteB && noteB q) by
        rw [List.take_succ_eq_append_getElem hkl, List.all_append, hg]; simp)
      have HNOT := Lib.hid (fun (h : noteB q = false) => show (strB s).all noteB = false by
        simp only [List.all_eq_false]; exact ⟨q, by rw [← hg]; exact List.getElem_mem hkl, by simp [h]⟩)
      have HB := Lib.hid (show noteB q = (decide (32 ≤ z) && decide (z ≤ 126)) by unfold noteB; rw [hz])
      have i0 : (0 : Int) ≤ (k : Int) := by omega
      have i1 : (k : Int) < (s.size : Int) := by omega
      clear hg hkl
      by_cases h1 : 32 ≤ z
      · by_cases h2 : z ≤ 126
        · have j1 : ¬ (z : Int) < 32 := by omega
          have j2 : ¬ (126 : Int) < (z : Int) := by omega
          have HY := Lib.hid (show noteB q = true by rw [HB.out, decide_eq_true h1, decide_eq_true h2]; rfl)
          go_wp2_with fail
          go_roundw
          case rel => exact ⟨k + 1, by omega, by go_num, by rw [HT.out, HA.out, HY.out]; rfl, by first | rfl | trivial⟩
          case measure => simp [intOf]; omega
        · have j1 : ¬ (z : Int) < 32 := by omega
          have j2 : (126 : Int) < (z : Int) := by omega
          have HQ : Hid (R = false) := by simp only [Hid]; rw [HN.out, HNOT.out (by rw [HB.out, decide_eq_false h2]; simp)]; rfl
          go_wp2_with fail
          go_ret
          exact ⟨ret_bool HQ.out.symm, rfl⟩
      · have j1 : (z : Int) < 32 := by omega
        have HQ : Hid (R = false) := by simp only [Hid]; rw [HN.out, HNOT.out (by rw [HB.out, decide_eq_false h1]; simp)]; rfl
        go_wp2_with fail
        go_ret
        exact ⟨ret_bool HQ.out.symm, rfl⟩
    · have HK : Hid ((strB s).take k = strB s) := List.take_of_length_le (by have := HXL.out; omega)
      have i1 : ¬ (k : Int) < (s.size : Int) := by omega
      have HQ : Hid (R = decide (s.size ≤ 60)) := by
        simp only [Hid]
        have := HA.out
        rw [HK.out] at this
        rw [HN.out, this]; rfl
      by_cases h6 : s.size ≤ 60
      · have j1 : (s.size : Int) ≤ 60 := by omega
        have HQ2 : Hid (R = true) := by simp only [Hid]; rw [HQ.out, decide_eq_true h6]
        go_wp2_with fail
        go_ret
        exact ⟨ret_bool HQ2.out.symm, rfl⟩
      · have j1 : ¬ (s.size : Int) ≤ 60 := by omega
        have HQ2 : Hid (R = false) := by simp only [Hid]; rw [HQ.out, decide_eq_false h6]
        go_wp2_with fail
        go_ret
        exact ⟨ret_bool HQ2.out.symm, rfl⟩
set_option maxHeartbeats 1600000 in
theorem NoteSum_any (before number : Int) (s : ByteArray) (w : World) (hs : s.size ≤ 9223372036854775807) :
    Calls Tryd.prog 207 #[.int .i64 before, .int .i64 number, .string s] w fun e w' => e = .returned (.int .i64 (nsum before number (strB s))) ∧ w = w' := by
  have K1 := (fun W => between_any before 0 65520 W)
  have K2 := (fun W => between_any number 0 1000000 W)
  have HS := Lib.hid (show nsum before number (strB s) = if betB before 0 65520 && betB number 0 1000000 then nfold ((before + 7 * number).tmod 65521) (strB s) else 0 from rfl)
  obtain ⟨R, hR⟩ : ∃ R, nsum before number (strB s) = R := ⟨_, rfl⟩
  rw [hR] at HS ⊢
  clear hR
  rcases h1 : betB before 0 65520 with _ | _
  · have HQ : Hid (R = 0) := by simp only [Hid]; rw [HS.out, h1]; rfl
    rw [h1] at K1
    replace K1 := Lib.hid K1
    clear K2 h1
    go_enter Tryd.func207, Tryd.ntmps207
    go_wp2_with (go_at_call 127; refine (K1.out _).mono ?_; rintro e w' ⟨rfl, rfl⟩)
    go_ret
    exact ⟨ret_int HQ.out.symm, rfl⟩
  rcases h2 : betB number 0 1000000 with _ | _
  · have HQ : Hid (R = 0) := by simp only [Hid]; rw [HS.out, h2]; simp
    rw [h1] at K1
    rw [h2] at K2
    replace K1 := Lib.hid K1
    replace K2 := Lib.hid K2
    clear h1 h2
    go_enter Tryd.func207, Tryd.ntmps207
    go_wp2_with (go_at_call 127; first | ((with_reducible refine (K1.out _).mono ?_); rintro e w' ⟨rfl, rfl⟩) | ((with_reducible refine (K2.out _).mono ?_); rintro e w' ⟨rfl, rfl⟩))
    go_ret
    exact ⟨ret_int HQ.out.symm, rfl⟩
  have HQ : Hid (R = nfold ((before + 7 * number).tmod 65521) (strB s)) := by simp only [Hid]; rw [HS.out, h1, h2]; rfl
  rw [h1] at K1
  rw [h2] at K2
  replace K1 := Lib.hid K1
  replace K2 := Lib.hid K2
  have b1 := betB_iff.1 h1
  have b2 := betB_iff.1 h2
  have w1 : IntKind.i64.wrap (7 * number) = 7 * number := wrapI64 (by omega)
  have w2 : IntKind.i64.wrap (before + 7 * number) = before + 7 * number := wrapI64 (by omega)
  have hm := nmod_bd (a := before + 7 * number) (by omega)
  obtain ⟨y0, hy0⟩ : ∃ y, (before + 7 * number).tmod 65521 = y := ⟨_, rfl⟩
  have w3 : IntKind.i64.wrap ((before + 7 * number).tmod 65521) = y0 := by rw [hy0]; exact wrapI64 (by rw [hy0] at hm; omega)
  rw [hy0] at hm
  have HY0 := Lib.hid hy0
  have HXL := Lib.hid (strB_len s)
  clear h1 h2
  go_enter Tryd.func207, Tryd.ntmps207
  go_wp2_with (go_at_call 127; first | ((with_reducible refine (K1.out _).mono ?_); rintro e w' ⟨rfl, rfl⟩) | ((with_reducible refine (K2.out _).mono ?_); rintro e w' ⟨rfl, rfl⟩))
  clear hy0 w1 w2 w3
  go_loopw [24, 7, 8] (fun ii vv _ wr => ∃ k : Nat, k ≤ s.size ∧ ii = .int .i64 k ∧ vv = .int .i64 (nfold y0 ((strB s).take k)) ∧ w = wr) (fun ii _ _ _ => s.size - (intOf ii).toNat)
  case atStart => exact ⟨0, Nat.zero_le _, rfl, rfl, rfl⟩
  case round =>
    obtain ⟨k, hk, rfl, rfl, rfl⟩ := hrel
    have hfb := nfold_bd (y := y0) hm.1 hm.2 ((strB s).take k)
    by_cases hkn : k < s.size
    · obtain ⟨q, hq⟩ : ∃ q : UInt8, s[k] = q := ⟨_, rfl⟩
      obtain ⟨z, hz⟩ : ∃ z : Nat, q.toNat = z := ⟨_, rfl⟩
      have hz2 : z < 256 := by rw [← hz]; exact q.toNat_lt
      have hkl : k < (strB s).length := by rw [HXL.out]; exact hkn
      have hg : (strB s)[k] = q := by rw [← hq, strB_get s hkn]
      have hst : nfold y0 ((strB s).take (k + 1)) = (31 * nfold y0 ((strB s).take k) + (z : Int)).tmod 65521 := by
        rw [List.take_succ_eq_append_getElem hkl, hg]
        unfold nfold
        rw [List.foldl_append]
        simp [hz]
      obtain ⟨v, hv⟩ : ∃ v, nfold y0 ((strB s).take k) = v := ⟨_, rfl⟩
      rw [hv] at hfb hst ⊢
      have hm2 := nmod_bd (a := 31 * v + (z : Int)) (by omega)
      obtain ⟨y, hy⟩ : ∃ y, (31 * v + (z : Int)).tmod 65521 = y := ⟨_, rfl⟩
      rw [hy] at hm2 hst
      have HST := Lib.hid hst
      have u1 : IntKind.i64.wrap (31 * v) = 31 * v := wrapI64 (by omega)
      have u2 : IntKind.i64.wrap (31 * v + (z : Int)) = 31 * v + z := wrapI64 (by omega)
      have u3 : IntKind.i64.wrap ((31 * v + (z : Int)).tmod 65521) = y := by rw [hy]; exact wrapI64 (by omega)
      have u4 : IntKind.i64.wrap (z : Int) = z := wrapI64 (by omega)
      have u5 : IntKind.i64.wrap y = y := wrapI64 (by omega)
      have i0 : (0 : Int) ≤ (k : Int) := by omega
      have i1 : (k : Int) < (s.size : Int) := by omega
      clear hg hkl hst hv
      go_wp2_with fail
      go_roundw
      case rel => exact ⟨k + 1, by omega, by go_num, by rw [HST.out], by first | rfl | trivial⟩
      case measure => simp [intOf]; omega
    · have HK : Hid ((strB s).take k = strB s) := List.take_of_length_le (by have := HXL.out; omega)
      have i1 : ¬ (k : Int) < (s.size : Int) := by omega
      rw [HK.out] at hfb ⊢
      have HF := Lib.hid (show R = nfold y0 (strB s) by rw [HQ.out, HY0.out])
      obtain ⟨v, hv⟩ : ∃ v, nfold y0 (strB s) = v := ⟨_, rfl⟩
      rw [hv] at HF hfb ⊢
      clear hv
      go_wp2_with fail
      go_ret
      exact ⟨ret_int HF.out.symm, rfl⟩
set_option maxHeartbeats 1600000 in
theorem specNoteSum_any (before number : Int) (s : ByteArray) (w : World) (hs : s.size ≤ 9223372036854775807) :
    Calls Tryd.prog 205 #[.int .i64 before, .int .i64 number, .string s] w fun e w' => e = .returned (.int .i64 (nsum before number (strB s))) ∧ w = w' := by
  have K1 := (fun W => l00In_any before 0 65520 W)
  have K2 := (fun W => l00In_any number 0 1000000 W)
  have HS := Lib.hid (show nsum before number (strB s) = if betB before 0 65520 && betB number 0 1000000 then nfold ((before + 7 * number).tmod 65521) (strB s) else 0 from rfl)
  obtain ⟨R, hR⟩ : ∃ R, nsum before number (strB s) = R := ⟨_, rfl⟩
  rw [hR] at HS ⊢
  clear hR
  rcases h1 : betB before 0 65520 with _ | _
  · have HQ : Hid (R = 0) := by simp only [Hid]; rw [HS.out, h1]; rfl
    rw [h1] at K1
    replace K1 := Lib.hid K1
    clear K2 h1
    go_enter Tryd.func205, Tryd.ntmps205
    go_wp2_with (go_at_call 128; refine (K1.out _).mono ?_; rintro e w' ⟨rfl, rfl⟩)
    go_ret
    exact ⟨ret_int HQ.out.symm, rfl⟩
  rcases h2 : betB number 0 1000000 with _ | _
  · have HQ : Hid (R = 0) := by simp only [Hid]; rw [HS.out, h2]; simp
    rw [h1] at K1
    rw [h2] at K2
    replace K1 := Lib.hid K1
    replace K2 := Lib.hid K2
    clear h1 h2
    go_enter Tryd.func205, Tryd.ntmps205
    go_wp2_with (go_at_call 128; first | ((with_reducible refine (K1.out _).mono ?_); rintro e w' ⟨rfl, rfl⟩) | ((with_reducible refine (K2.out _).mono ?_); rintro e w' ⟨rfl, rfl⟩))
    go_ret
    exact ⟨ret_int HQ.out.symm, rfl⟩
  have HQ : Hid (R = nfold ((before + 7 * number).tmod 65521) (strB s)) := by simp only [Hid]; rw [HS.out, h1, h2]; rfl
  rw [h1] at K1
  rw [h2] at K2
  replace K1 := Lib.hid K1
  replace K2 := Lib.hid K2
  have b1 := betB_iff.1 h1
  have b2 := betB_iff.1 h2
  have w1 : IntKind.i64.wrap (7 * number) = 7 * number := wrapI64 (by omega)
  have w2 : IntKind.i64.wrap (before + 7 * number) = before + 7 * number := wrapI64 (by omega)
  have hm := nmod_bd (a := before + 7 * number) (by omega)
  obtain ⟨y0, hy0⟩ : ∃ y, (before + 7 * number).tmod 65521 = y := ⟨_, rfl⟩
  have w3 : IntKind.i64.wrap ((before + 7 * number).tmod 65521) = y0 := by rw [hy0]; exact wrapI64 (by rw [hy0] at hm; omega)
  rw [hy0] at hm
  have HY0 := Lib.hid hy0
  have HXL := Lib.hid (strB_len s)
  clear h1 h2
  go_enter Tryd.func205, Tryd.ntmps205
  go_wp2_with (go_at_call 128; first | ((with_reducible refine (K1.out _).mono ?_); rintro e w' ⟨rfl, rfl⟩) | ((with_reducible refine (K2.out _).mono ?_); rintro e w' ⟨rfl, rfl⟩))
  clear hy0 w1 w2 w3
  go_loopw [8, 7] (fun ii vv wr => ∃ k : Nat, k ≤ s.size ∧ ii = .int .i64 k ∧ vv = .int .i64 (nfold y0 ((strB s).take k)) ∧ w = wr) (fun ii _  _ => s.size - (intOf ii).toNat)
  case atStart => exact ⟨0, Nat.zero_le _, rfl, rfl, rfl⟩
  case round =>
    obtain ⟨k, hk, rfl, rfl, rfl⟩ := hrel
    have hfb := nfold_bd (y := y0) hm.1 hm.2 ((strB s).take k)
    by_cases hkn : k < s.size
    · obtain ⟨q, hq⟩ : ∃ q : UInt8, s[k] = q := ⟨_, rfl⟩
      obtain ⟨z, hz⟩ : ∃ z : Nat, q.toNat = z := ⟨_, rfl⟩
      have hz2 : z < 256 := by rw [← hz]; exact q.toNat_lt
      have hkl : k < (strB s).length := by rw [HXL.out]; exact hkn
      have hg : (strB s)[k] = q := by rw [← hq, strB_get s hkn]
      have hst : nfold y0 ((strB s).take (k + 1)) = (31 * nfold y0 ((strB s).take k) + (z : Int)).tmod 65521 := by
        rw [List.take_succ_eq_append_getElem hkl, hg]
        unfold nfold
        rw [List.foldl_append]
        simp [hz]
      obtain ⟨v, hv⟩ : ∃ v, nfold y0 ((strB s).take k) = v := ⟨_, rfl⟩
      rw [hv] at hfb hst ⊢
      have hm2 := nmod_bd (a := 31 * v + (z : Int)) (by omega)
      obtain ⟨y, hy⟩ : ∃ y, (31 * v + (z : Int)).tmod 65521 = y := ⟨_, rfl⟩
      rw [hy] at hm2 hst
      have HST := Lib.hid hst
      have u1 : IntKind.i64.wrap (31 * v) = 31 * v := wrapI64 (by omega)
      have u2 : IntKind.i64.wrap (31 * v + (z : Int)) = 31 * v + z := wrapI64 (by omega)
      have u3 : IntKind.i64.wrap ((31 * v + (z : Int)).tmod 65521) = y := by rw [hy]; exact wrapI64 (by omega)
      have u4 : IntKind.i64.wrap (z : Int) = z := wrapI64 (by omega)
      have u5 : IntKind.i64.wrap y = y := wrapI64 (by omega)
      have i0 : (0 : Int) ≤ (k : Int) := by omega
      have i1 : (k : Int) < (s.size : Int) := by omega
      clear hg hkl hst hv
      go_wp2_with fail
      go_roundw
      case rel => exact ⟨k + 1, by omega, by go_num, by rw [HST.out], by first | rfl | trivial⟩
      case measure => simp [intOf]; omega
    · have HK : Hid ((strB s).take k = strB s) := List.take_of_length_le (by have := HXL.out; omega)
      have i1 : ¬ (k : Int) < (s.size : Int) := by omega
      rw [HK.out] at hfb ⊢
      have HF := Lib.hid (show R = nfold y0 (strB s) by rw [HQ.out, HY0.out])
      obtain ⟨v, hv⟩ : ∃ v, nfold y0 (strB s) = v := ⟨_, rfl⟩
      rw [hv] at HF hfb ⊢
      clear hv
      go_wp2_with fail
      go_ret
      exact ⟨ret_int HF.out.symm, rfl⟩
end Go.Proofs.YtcapccadpbiecaaDoor

namespace Go.Proofs.YtcapccadpbiecaaDoor
open Go.RowKit Go.Sort
/-! journals, plainly -/
/-- a line of a journal -/
def jline (sum : Int) (n : Nat) (note : List UInt8) : List UInt8 := dec ((n : Int) + 1) ++ [32] ++ dec (nsum sum ((n : Int) + 1) note) ++ [32] ++ note ++ [10]
def jlineB (sum : Int) (n : Nat) (note : ByteArray) : ByteArray := (((((⟨(dec ((n : Int) + 1)).toArray⟩ : ByteArray) ++ (⟨#[32]⟩ : ByteArray)) ++ (⟨(dec (nsum sum ((n : Int) + 1) (strB note))).toArray⟩ : ByteArray)) ++ (⟨#[32]⟩ : ByteArray)) ++ note) ++ (⟨#[10]⟩ : ByteArray)
theorem strB_jlineB (sum : Int) (n : Nat) (note : ByteArray) : strB (jlineB sum n note) = jline sum n (strB note) := by
  simp [jlineB, jline, strB]
theorem jlineB_size (sum : Int) (n : Nat) (note : ByteArray) : (jlineB sum n note).size = (jline sum n (strB note)).length := by
  rw [← strB_jlineB, strB_len]
theorem jline_len (sum : Int) (n : Nat) (hn : n ≤ 1000000) (note : List UInt8) : note.length + 3 ≤ (jline sum n note).length ∧ (jline sum n note).length ≤ note.length + 45 := by
  have h1 := dec_len ((n : Int) + 1) (by omega) (by omega)
  have h2 := nsum_bd sum ((n : Int) + 1) note
  have h3 := dec_len (nsum sum ((n : Int) + 1) note) (by omega) (by omega)
  simp only [jline, List.length_append, List.length_cons, List.length_nil]
  omega
/-- the note of the next line of what is left of a journal -/
def jstep (sum : Int) (n : Nat) (rest : List UInt8) : Option (List UInt8) :=
  (cutB [10] rest).bind fun q => (cutB [32] q.1).bind fun r => (cutB [32] r.2).bind fun t => if noteOk t.2 && (jline sum n t.2 == q.1 ++ [10]) then some t.2 else none
theorem cutB_len (p : List UInt8) : ∀ (l : List UInt8) (q), cutB p l = some q → q.1.length + p.length + q.2.length = l.length
  | [], q, h => by simp [cutB] at h
  | b :: tl, q, h => by
    simp only [cutB] at h
    split at h
    · rename_i hp
      obtain rfl := (Option.some.inj h).symm
      have := (List.isPrefixOf_iff_prefix.1 hp).length_le
      simp at this ⊢; omega
    · cases h1 : cutB p tl with
      | none => rw [h1] at h; simp at h
      | some r =>
        rw [h1] at h
        obtain rfl := (Option.some.inj h).symm
        have := cutB_len p tl r h1
        simp; omega
theorem jstep_some {sum : Int} {n : Nat} {rest note : List UInt8} (h : jstep sum n rest = some note) : noteOk note = true ∧ 3 + note.length ≤ (jline sum n note).length ∧ (jline sum n note).length ≤ rest.length := by
  unfold jstep at h
  cases h1 : cutB [10] rest with
  | none => rw [h1] at h; simp at h
  | some q =>
    rw [h1, Option.bind_some] at h
    cases h2 : cutB [32] q.1 with
    | none => rw [h2] at h; simp at h
    | some r =>
      rw [h2, Option.bind_some] at h
      cases h3 : cutB [32] r.2 with
      | none => rw [h3] at h; simp at h
      | some t =>
        rw [h3, Option.bind_some] at h
        split at h
        · rename_i h4
          obtain rfl := Option.some.inj h
          rw [Bool.and_eq_true, beq_iff_eq] at h4
          have l1 := cutB_len _ _ _ h1
          have l5 := congrArg List.length h4.2
          refine ⟨h4.1, ?_, ?_⟩
          · simp only [jline, List.length_append, List.length_cons, List.length_nil]; omega
          · rw [l5]; simp at l1 ⊢; omega
        · simp at h
/-- what is read of a journal: the notes, the last sum, the bytes -/
structure JS where
  notes : List (List UInt8)
  sum : Int
  size : Nat
def jread (rest : List UInt8) (j : JS) : JS :=
  match _h : jstep j.sum j.notes.length rest with
  | none => j
  | some note => jread (rest.drop (jline j.sum j.notes.length note).length) ⟨j.notes ++ [note], nsum j.sum ((j.notes.length : Int) + 1) note, j.size + (jline j.sum j.notes.length note).length⟩
termination_by rest.length
decreasing_by
  have := jstep_some _h
  rw [List.length_drop]; omega
theorem jread_none {rest : List UInt8} {j : JS} (h : jstep j.sum j.notes.length rest = none) : jread rest j = j := by
  rw [jread]; split
  · rfl
  · rename_i h1; rw [h] at h1; cases h1
theorem jread_some {rest : List UInt8} {j : JS} {note : List UInt8} (h : jstep j.sum j.notes.length rest = some note) :
    jread rest j = jread (rest.drop (jline j.sum j.notes.length note).length) ⟨j.notes ++ [note], nsum j.sum ((j.notes.length : Int) + 1) note, j.size + (jline j.sum j.notes.length note).length⟩ := by
  rw [jread]; split
  · rename_i h1; rw [h] at h1; cases h1
  · rename_i n1 h1; rw [h] at h1; obtain rfl := Option.some.inj h1; rfl
/-- the whole reading -/
def jall (bs : List UInt8) : JS := jread bs ⟨[], 0, 0⟩
/-- the code of a text that must be a journal -/
def jcode (bs : List UInt8) : Int := if bs.length > 4000 then 5 else if (jall bs).size = bs.length then 0 else 8
/-- behind the first blanks: how many, and what is left -/
def aft : Nat → List UInt8 → Nat × List UInt8
  | b, [] => (b, [])
  | b, x :: tl => if 2 ≤ b then (b, x :: tl) else aft (if x.toNat = 32 then b + 1 else b) tl
theorem aft_two (l : List UInt8) : aft 2 l = (2, l) := by cases l <;> simp [aft]
theorem aft_step (b : Nat) (hb : b < 2) (l : List UInt8) : aft b l = match cutB [32] l with | none => (b, []) | some q => aft (b + 1) q.2 := by
  induction l with
  | nil => rfl
  | cons x tl ih =>
    rw [aft, if_neg (by omega)]
    simp only [cutB]
    by_cases hx : x.toNat = 32
    · rw [if_pos hx]
      have h1 : ([32] : List UInt8).isPrefixOf (x :: tl) = true := by
        have : x = 32 := UInt8.toNat_inj.1 hx
        subst this; simp [List.isPrefixOf]
      rw [h1]; rfl
    · rw [if_neg hx, ih]
      have h1 : ([32] : List UInt8).isPrefixOf (x :: tl) = false := by
        have : ¬ (32 : UInt8) = x := fun h => hx (by rw [← h]; rfl)
        simp [List.isPrefixOf, this]
      rw [h1]
      cases cutB [32] tl <;> rfl
theorem aft_cut (l : List UInt8) : aft 0 l = match cutB [32] l with | none => (0, []) | some q => match cutB [32] q.2 with | none => (1, []) | some t => (2, t.2) := by
  rw [aft_step 0 (by omega)]
  cases cutB [32] l with
  | none => rfl
  | some q =>
    show aft 1 q.2 = _
    rw [aft_step 1 (by omega)]
    dsimp only
    cases cutB [32] q.2 with
    | none => simp
    | some t => simp [aft_two]
/-! the next line, both -/
set_option maxRecDepth 100000 in
set_option maxHeartbeats 800000 in
theorem next_any (note : ByteArray) (sum : Int) (n : Nat) (g : Nat) (A : Option Addr) (c : Nat) (w : World) (hc0 : w.cell? ⟨g, 0, none⟩ = some (.slice A n c)) (hc1 : w.cell? ⟨g, 1, none⟩ = some (.int .i64 sum)) (hn : n ≤ 1000000) (hs : note.size ≤ 1048576) (ht : TB w) :
    Calls Tryd.prog 171 #[.pointer (some ⟨g, 0, none⟩), .string note] w fun e w' => e = .returned (.tuple #[.string (jlineB sum n note), .int .i64 (nsum sum ((n : Int) + 1) (strB note))]) ∧ Below w.heap.size w w' := by
  have hb := nsum_bd sum ((n : Int) + 1) (strB note)
  have l1 := dec_len ((n : Int) + 1) (by omega) (by omega)
  have l2 := dec_len (nsum sum ((n : Int) + 1) (strB note)) (by omega) (by omega)
  have KN := Lib.hid (fun W => NoteSum_any sum ((n : Int) + 1) note W (by omega))
  have K1 := Lib.hid (fun (W : World) (hW : Below w.heap.size w W) => Decimal_any ((n : Int) + 1) W (by omega) (by omega) (ht.below hW))
  have K2 := Lib.hid (fun (W : World) (hW : Below w.heap.size w W) => Decimal_any (nsum sum ((n : Int) + 1) (strB note)) W (by omega) (by omega) (ht.below hW))
  obtain ⟨S, hS⟩ : ∃ S, nsum sum ((n : Int) + 1) (strB note) = S := ⟨_, rfl⟩
  have HJ := Lib.hid (show jlineB sum n note = (((((⟨(dec ((n : Int) + 1)).toArray⟩ : ByteArray) ++ (⟨#[32]⟩ : ByteArray)) ++ (⟨(dec S).toArray⟩ : ByteArray)) ++ (⟨#[32]⟩ : ByteArray)) ++ note) ++ (⟨#[10]⟩ : ByteArray) by rw [← hS]; rfl)
  rw [hS] at hb l2 KN K2 ⊢
  clear hS
  go_enter Tryd.func171, Tryd.ntmps171
  go_wp2_with (go_at_call 207; refine (KN.out _).mono ?_; rintro e w' ⟨rfl, rfl⟩)
  all_goals first | done | skip
  go_wp2_with (go_at_call 131; first | (refine (K1.out _ (Below.refl _ _)).mono ?_; rintro e w1 ⟨rfl, hw1⟩) | (refine (K2.out _ hw1).mono ?_; rintro e w2 ⟨rfl, hw2⟩))
  rw [← HJ.out]
  refine bodyPost_ret (v := .tuple #[.string (jlineB sum n note), .int .i64 S]) (by simp [results, Tryd.results171, go_sem]) rfl ⟨rfl, hw1.trans (hw2.mono hw1.size)⟩
/-- the line of the reference, and its head -/
theorem l26Head_any (num sum : Int) (w : World) (h0 : 0 ≤ num) (h1 : num ≤ 1000001) (h2 : 0 ≤ sum) (h3 : sum ≤ 65520) :
    Calls Tryd.prog 206 #[.int .i64 num, .int .i64 sum] w fun e w' => e = .returned (.string ((((⟨(dec num).toArray⟩ : ByteArray) ++ (⟨#[32]⟩ : ByteArray)) ++ (⟨(dec sum).toArray⟩ : ByteArray)) ++ (⟨#[32]⟩ : ByteArray))) ∧ Below w.heap.size w w' := by
  have l1 := dec_len num (by omega) (by omega)
  have l2 := dec_len sum (by omega) (by omega)
  have K1 := Lib.hid (fun (W : World) => l01Dec_any num W (by omega) (by omega))
  have K2 := Lib.hid (fun (W : World) => l01Dec_any sum W (by omega) (by omega))
  go_enter Tryd.func206, Tryd.ntmps206
  go_wp2_with (go_at_call 132; first | (with_reducible refine (K1.out _).mono ?_; rintro e w1 ⟨rfl, hw1⟩) | (with_reducible refine (K2.out _).mono ?_; rintro e w2 ⟨rfl, hw2⟩))
  go_ret
  exact ⟨rfl, hw1.trans (hw2.mono hw1.size)⟩
set_option maxRecDepth 100000 in
set_option maxHeartbeats 800000 in
theorem l26Line_any (note : ByteArray) (sum : Int) (n : Nat) (w : World) (hn : n ≤ 1000000) (hs : note.size ≤ 1048576) :
    Calls Tryd.prog 169 #[.int .i64 sum, .int .i64 ((n : Int) + 1), .string note] w fun e w' => e = .returned (.tuple #[.string (jlineB sum n note), .int .i64 (nsum sum ((n : Int) + 1) (strB note))]) ∧ Below w.heap.size w w' := by
  have hb := nsum_bd sum ((n : Int) + 1) (strB note)
  have l1 := dec_len ((n : Int) + 1) (by omega) (by omega)
  have l2 := dec_len (nsum sum ((n : Int) + 1) (strB note)) (by omega) (by omega)
  have KN := Lib.hid (fun W => specNoteSum_any sum ((n : Int) + 1) note W (by omega))
  have K1 := Lib.hid (fun (W : World) => l26Head_any ((n : Int) + 1) (nsum sum ((n : Int) + 1) (strB note)) W (by omega) (by omega) hb.1 hb.2)
  obtain ⟨S, hS⟩ : ∃ S, nsum sum ((n : Int) + 1) (strB note) = S := ⟨_, rfl⟩
  have HJ := Lib.hid (show jlineB sum n note = (((((⟨(dec ((n : Int) + 1)).toArray⟩ : ByteArray) ++ (⟨#[32]⟩ : ByteArray)) ++ (⟨(dec S).toArray⟩ : ByteArray)) ++ (⟨#[32]⟩ : ByteArray)) ++ note) ++ (⟨#[10]⟩ : ByteArray) by rw [← hS]; rfl)
  rw [hS] at hb l2 KN K1 ⊢
  clear hS
  go_enter Tryd.func169, Tryd.ntmps169
  go_wp2_with (go_at_call 205; refine (KN.out _).mono ?_; rintro e w' ⟨rfl, rfl⟩)
  go_wp2_with (go_at_call 206; refine (K1.out _).mono ?_; rintro e w1 ⟨rfl, hw1⟩)
  rw [← HJ.out]
  refine bodyPost_ret (v := .tuple #[.string (jlineB sum n note), .int .i64 S]) (by simp [results, Tryd.results169, go_sem]) rfl ⟨rfl, hw1⟩
end Go.Proofs.YtcapccadpbiecaaDoor
