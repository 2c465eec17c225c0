/- Part 5: lemmas and contracts of the claim's functions. -/
import Derived.Test.YtmmiahgmdllgdaaGreatDoorZC1
import Derived.Test.YtmmiahgmdllgdaaGreatDoorZC2
import Derived.Test.YtmmiahgmdllgdaaGreatDoorZC3
import Derived.Test.YtmmiahgmdllgdaaGreatDoorZC4
import Derived.Deep.DrawnRows
import Derived.Deep.RegionHeld3
namespace Go.Proofs.YtmmiahgmdllgdaaGreatDoor
open Go.RowKit Go.Sort
/-- does a number fit a machine's setting? -/
def fits (t : Tri) (v : Int) : Bool := decide (0 ≤ v ∧ v < pw t.a.base t.a.digits.length)
/-- what SetValue returns for a valid machine and any number -/
def SetG (t : Tri) (v : Int) (w : World) (e : Ending) (w' : World) : Prop :=
  (fits t v = true ∧ ∃ A1 c1 A2 c2 A3 c3, e = .returned (.tuple #[.agg #[.int .i64 t.a.base, .slice A1 (setT t v).a.digits.length c1, .int .i64 t.b.base, .slice A2 t.b.digits.length c2, .int .i64 t.s.base, .slice A3 t.s.digits.length c3, .int .i64 t.carry], .int .i64 0]) ∧
    Kn w [rowI A3 c3 t.s.digits, rowI A2 c2 t.b.digits, rowI A1 c1 (setT t v).a.digits] w') ∨
  (fits t v = false ∧ e = .returned (.tuple #[.agg #[.int .i64 0, .slice none 0 0, .int .i64 0, .slice none 0 0, .int .i64 0, .slice none 0 0, .int .i64 0], .int .i64 2]) ∧ Below w.heap.size w w')
set_option maxRecDepth 100000 in
set_option maxHeartbeats 3200000 in
theorem specSetValueG (t : Tri) (A1 A2 A3 : Option Addr) (c1 c2 c3 : Nat) (v : Int) (w : World) (r1 : RI w A1 t.a.digits.length t.a.digits) (r2 : RI w A2 t.b.digits.length t.b.digits) (r3 : RI w A3 t.s.digits.length t.s.digits) (hv : vmach t = true) :
    Calls Tryz.prog 143 #[.agg #[.int .i64 t.a.base, .slice A1 t.a.digits.length c1, .int .i64 t.b.base, .slice A2 t.b.digits.length c2, .int .i64 t.s.base, .slice A3 t.s.digits.length c3, .int .i64 t.carry], .int .i64 v] w (SetG t v w) := by
  obtain ⟨k1, k2, k3, e1, e2, f1, f2, l1, p0, p1⟩ := vmach_all hv
  obtain ⟨⟨b1, b2⟩, ⟨n1, n2⟩, hd1, -⟩ := vreg_iff.1 k1
  obtain ⟨⟨b3, b4⟩, ⟨n3, n4⟩, hd2, -⟩ := vreg_iff.1 k2
  obtain ⟨⟨b5, b6⟩, ⟨n5, n6⟩, hd3, -⟩ := vreg_iff.1 k3
  have hmo := pw_mono t.a.base (by omega) _ _ l1
  rw [← e1] at f1
  by_cases hin : 0 ≤ v ∧ v ≤ 1000000000000
  · refine (SetValueV_any t A1 A2 A3 c1 c2 c3 v w r1 r2 r3 hv hin.1 hin.2).mono ?_
    rintro e w' (⟨h1, h2⟩ | ⟨h1, h2, h3⟩)
    · exact .inl ⟨decide_eq_true ⟨hin.1, h1⟩, h2⟩
    · exact .inr ⟨decide_eq_false (fun h => h1 h.2), h2, h3⟩
  · have hT : ∀ W, Kn w [.blk (w.heap.size + 1) [.int .i64 0, .slice none 0 0, .int .i64 0, .slice none 0 0, .int .i64 0, .slice none 0 0, .int .i64 0] 32, .blk w.heap.size [.int .i64 t.a.base, .slice A1 t.a.digits.length c1, .int .i64 t.b.base, .slice A2 t.b.digits.length c2, .int .i64 t.s.base, .slice A3 t.s.digits.length c3, .int .i64 t.carry] 32] W → TriC W ⟨w.heap.size, 0, none⟩ t A1 c1 A2 c2 A3 c3 := fun W h =>
      ⟨⟨h.drop.blkAt.1 0, h.drop.blkAt.1 1, h.drop.blkAt.1 2, h.drop.blkAt.1 3, h.drop.blkAt.1 4, h.drop.blkAt.1 5, h.drop.blkAt.1 6⟩, r1.below h.below, r2.below h.below, r3.below h.below⟩
    have KO := Lib.hid (fun W h => calls_val (l10Ok_any ⟨w.heap.size, 0, none⟩ t W (hT W h).tri ⟨by unfold SmallReg; omega, by unfold SmallReg; omega, by unfold SmallReg; omega⟩) (congrArg Value.bool hv))
    have KN := (fun W => l10Power_any t.a.base t.a.digits.length W b1 b2 (by omega))
    have hpc : powS t.a.base t.a.digits.length = pw t.a.base t.a.digits.length := by unfold powS; omega
    rw [hpc] at KN
    have hp1 := pw_pos t.a.base b1 t.a.digits.length
    have HF := Lib.hid (show fits t v = false from decide_eq_false (fun h => hin ⟨h.1, by omega⟩))
    obtain ⟨N, hN⟩ : ∃ N, pw t.a.base t.a.digits.length = N := ⟨_, rfl⟩
    rw [hN] at KN hp1 hmo
    have KN := Lib.hid KN
    have hwn : IntKind.i64.wrap (N - 1) = N - 1 := wrapI64 (by omega)
    have hbt : betB v 0 (N - 1) = false := betB_false.2 (by omega)
    have KI := Lib.hid (fun W => calls_val (l00In_any v 0 (N - 1) W) (congrArg Value.bool hbt))
    clear hN hpc hT r1 r2 r3 k1 k2 k3 hd1 hd2 hd3 e1 e2 hv hbt hin p0 p1
    go_enter Tryz.func143, Tryz.ntmps143
    go_wp2_with fail
    refine Calls.kn (((Kn.nil w).al [.int .i64 t.a.base, .slice A1 t.a.digits.length c1, .int .i64 t.b.base, .slice A2 t.b.digits.length c2, .int .i64 t.s.base, .slice A3 t.s.digits.length c3, .int .i64 t.carry] 32).al [.int .i64 0, .slice none 0 0, .int .i64 0, .slice none 0 0, .int .i64 0, .slice none 0 0, .int .i64 0] 32) ?_; intro w1 hK1
    simp only [World.size_alloc] at hK1
    refine (KO.out _ hK1).mono ?_; rintro e w2 ⟨rfl, q, rfl⟩
    have hK2 := hK1.drewN q
    generalize w1.drewN q = w2 at hK2 ⊢
    clear hK1
    obtain ⟨a1, a2, a3, d1, d2, d3, -⟩ := hK2.cells
    go_wp2_with (first | (go_at_call 183; refine (KN.out _).mono ?_; rintro e w' ⟨rfl, rfl⟩) | (go_at_call 81; refine (KI.out _).mono ?_; rintro e w' ⟨rfl, rfl⟩))
    refine bodyPost.kn (((((((hK2.st 0 (.int .i64 0)).st 1 (.slice none 0 0)).st 2 (.int .i64 0)).st 3 (.slice none 0 0)).st 4 (.int .i64 0)).st 5 (.slice none 0 0)).st 6 (.int .i64 0)) ?_; intro w6 hK6
    clear a1 a2 a3 d1 d2 d3
    obtain ⟨a1, a2, a3, -⟩ := hK6.cells
    exact bodyPost_ret (v := .tuple #[.agg #[.int .i64 0, .slice none 0 0, .int .i64 0, .slice none 0 0, .int .i64 0, .slice none 0 0, .int .i64 0], .int .i64 2]) (by simp [results, Tryz.results143, go_sem, a1]) rfl (.inr ⟨HF.out, rfl, hK6.below⟩)
set_option maxRecDepth 100000 in
set_option maxHeartbeats 3200000 in
theorem SetValueG (t : Tri) (A1 A2 A3 : Option Addr) (c1 c2 c3 : Nat) (v : Int) (w : World) (r1 : RI w A1 t.a.digits.length t.a.digits) (r2 : RI w A2 t.b.digits.length t.b.digits) (r3 : RI w A3 t.s.digits.length t.s.digits) (hv : vmach t = true) (hv1 : v ≤ 9223372036854775807) :
    Calls Tryz.prog 132 #[.agg #[.int .i64 t.a.base, .slice A1 t.a.digits.length c1, .int .i64 t.b.base, .slice A2 t.b.digits.length c2, .int .i64 t.s.base, .slice A3 t.s.digits.length c3, .int .i64 t.carry], .int .i64 v] w (SetG t v w) := by
  obtain ⟨k1, k2, k3, e1, e2, f1, f2, l1, p0, p1⟩ := vmach_all hv
  obtain ⟨⟨b1, b2⟩, ⟨n1, n2⟩, hd1, -⟩ := vreg_iff.1 k1
  obtain ⟨⟨b3, b4⟩, ⟨n3, n4⟩, hd2, -⟩ := vreg_iff.1 k2
  obtain ⟨⟨b5, b6⟩, ⟨n5, n6⟩, hd3, -⟩ := vreg_iff.1 k3
  have hz : Sized t := ⟨n1, n3, n5, n2, n4, n6⟩
  have KO := Lib.hid (fun W (hW : Below w.heap.size w W) => calls_val (ValidMachine_any t A1 A2 A3 c1 c2 c3 W (r1.below hW) (r2.below hW) (r3.below hW) ⟨by unfold SmallReg; omega, by unfold SmallReg; omega, by unfold SmallReg; omega⟩) (congrArg Value.bool hv))
  have hK0 := ((Kn.nil w).al [.int .i64 t.a.base, .slice A1 t.a.digits.length c1, .int .i64 t.b.base, .slice A2 t.b.digits.length c2, .int .i64 t.s.base, .slice A3 t.s.digits.length c3, .int .i64 t.carry] 32).al [.int .i64 0, .slice none 0 0, .int .i64 0, .slice none 0 0, .int .i64 0, .slice none 0 0, .int .i64 0] 32
  simp only [World.size_alloc] at hK0
  by_cases h0 : v < 0
  · have HF := Lib.hid (show fits t v = false from decide_eq_false (fun h => by omega))
    clear k1 k2 k3 hd1 hd2 hd3 e1 e2 hv hz r1 r2 r3
    go_enter Tryz.func132, Tryz.ntmps132
    go_wp2_with fail
    refine Calls.kn hK0 ?_; intro w1 hK1
    refine (KO.out _ hK1.below).mono ?_; rintro e w2 ⟨rfl, hw⟩
    have hK2 := hK1.keep hw
    clear hK1 hw hK0
    obtain ⟨a1, a2, a3, d1, d2, d3, -⟩ := hK2.cells
    go_wp2_with fail
    refine bodyPost.kn (((((((hK2.st 0 (.int .i64 0)).st 1 (.slice none 0 0)).st 2 (.int .i64 0)).st 3 (.slice none 0 0)).st 4 (.int .i64 0)).st 5 (.slice none 0 0)).st 6 (.int .i64 0)) ?_; intro w6 hK6
    clear a1 a2 a3 d1 d2 d3
    obtain ⟨a1, a2, a3, -⟩ := hK6.cells
    exact bodyPost_ret (v := .tuple #[.agg #[.int .i64 0, .slice none 0 0, .int .i64 0, .slice none 0 0, .int .i64 0, .slice none 0 0, .int .i64 0], .int .i64 2]) (by simp [results, Tryz.results132, go_sem, a1]) rfl (.inr ⟨HF.out, rfl, hK6.below⟩)
  · have hrz := restD_zero t.a.base b1 t.a.digits.length v (by omega)
    have HF := Lib.hid (show fits t v = decide (v < pw t.a.base t.a.digits.length) by
      unfold fits
      by_cases h : v < pw t.a.base t.a.digits.length
      · rw [decide_eq_true h, decide_eq_true ⟨by omega, h⟩]
      · rw [decide_eq_false h, decide_eq_false (fun h' => h h'.2)])
    have KW := (fun W (hW : Below w.heap.size w W) => withSetting_any t A1 A2 A3 c1 c2 c3 v W (r1.below hW) (r2.below hW) (r3.below hW) hz b1 b2 (by omega) hv1)
    rw [hrz] at KW
    have HST := Lib.hid (show (setT t v).a.digits = digD t.a.base t.a.digits.length v from rfl)
    obtain ⟨ds, hds⟩ : ∃ ds, digD t.a.base t.a.digits.length v = ds := ⟨_, rfl⟩
    rw [hds] at KW HST
    have hK := KW
    clear hds hK
    rcases hlt : decide (v < pw t.a.base t.a.digits.length) with _ | _
    · rw [hlt] at KW HF
      have KW := Lib.hid KW
      clear hlt hrz k1 k2 k3 hd1 hd2 hd3 e1 e2 hv hz r1 r2 r3
      go_enter Tryz.func132, Tryz.ntmps132
      go_wp2_with fail
      refine Calls.kn hK0 ?_; intro w1 hK1
      refine (KO.out _ hK1.below).mono ?_; rintro e w2 ⟨rfl, hw⟩
      have hK2 := hK1.keep hw
      clear hK1 hw hK0
      obtain ⟨a1, a2, a3, d1, d2, d3, -⟩ := hK2.cells
      go_wp2_with fail
      refine (KW.out _ hK2.below).mono ?_; rintro e w3 ⟨B1, g1, B2, g2, B3, g3, rfl, hKC⟩
      have hK3 := hK2.join hKC
      clear hK2 hKC a1 a2 a3 d1 d2 d3
      obtain ⟨a1, a2, a3, d1, d2, d3, -⟩ := hK3.cells
      go_wp2_with fail
      refine bodyPost.kn (((((((hK3.front 3 rfl).st 0 (.int .i64 0)).st 1 (.slice none 0 0)).st 2 (.int .i64 0)).st 3 (.slice none 0 0)).st 4 (.int .i64 0)).st 5 (.slice none 0 0) |>.st 6 (.int .i64 0) |>.al_ (.cells #[.int .i64 t.a.base, .slice B1 ds.length g1, .int .i64 t.b.base, .slice B2 t.b.digits.length g2, .int .i64 t.s.base, .slice B3 t.s.digits.length g3, .int .i64 t.carry] 32)) ?_; intro w6 hK6
      clear a1 a2 a3 d1 d2 d3
      obtain ⟨a1, a2, a3, -⟩ := hK6.cells
      exact bodyPost_ret (v := .tuple #[.agg #[.int .i64 0, .slice none 0 0, .int .i64 0, .slice none 0 0, .int .i64 0, .slice none 0 0, .int .i64 0], .int .i64 2]) (by simp [results, Tryz.results132, go_sem, a1]) rfl (.inr ⟨HF.out, rfl, hK6.below⟩)
    · rw [hlt] at KW HF
      have KW := Lib.hid KW
      clear hlt hrz k1 k2 k3 hd1 hd2 hd3 e1 e2 hv hz r1 r2 r3
      go_enter Tryz.func132, Tryz.ntmps132
      go_wp2_with fail
      refine Calls.kn hK0 ?_; intro w1 hK1
      refine (KO.out _ hK1.below).mono ?_; rintro e w2 ⟨rfl, hw⟩
      have hK2 := hK1.keep hw
      clear hK1 hw hK0
      obtain ⟨a1, a2, a3, d1, d2, d3, -⟩ := hK2.cells
      go_wp2_with fail
      refine (KW.out _ hK2.below).mono ?_; rintro e w3 ⟨B1, g1, B2, g2, B3, g3, rfl, hKC⟩
      have hK3 := hK2.join hKC
      clear hK2 hKC a1 a2 a3 d1 d2 d3
      obtain ⟨a1, a2, a3, d1, d2, d3, -⟩ := hK3.cells
      go_wp2_with fail
      refine bodyPost.kn (((((((hK3.front 3 rfl).st 0 (.int .i64 t.a.base)).st 1 (.slice B1 ds.length g1)).st 2 (.int .i64 t.b.base)).st 3 (.slice B2 t.b.digits.length g2)).st 4 (.int .i64 t.s.base)).st 5 (.slice B3 t.s.digits.length g3) |>.st 6 (.int .i64 t.carry) |>.al_ (.cells #[.int .i64 t.a.base, .slice B1 ds.length g1, .int .i64 t.b.base, .slice B2 t.b.digits.length g2, .int .i64 t.s.base, .slice B3 t.s.digits.length g3, .int .i64 t.carry] 32)) ?_; intro w6 hK6
      clear a1 a2 a3 d1 d2 d3
      obtain ⟨a1, a2, a3, -⟩ := hK6.cells
      refine bodyPost_ret (v := .tuple #[.agg #[.int .i64 t.a.base, .slice B1 ds.length g1, .int .i64 t.b.base, .slice B2 t.b.digits.length g2, .int .i64 t.s.base, .slice B3 t.s.digits.length g3, .int .i64 t.carry], .int .i64 0]) (by simp [results, Tryz.results132, go_sem, a1]) rfl (.inl ⟨HF.out, B1, g1, B2, g2, B3, g3, by rw [HST.out], ?_⟩)
      rw [HST.out]
      exact hK6.sel [1, 2, 3] 99 (by decide) (by decide)
end Go.Proofs.YtmmiahgmdllgdaaGreatDoor

namespace Go.Proofs.YtmmiahgmdllgdaaGreatDoor
open Go.RowKit Go.Sort
/-- the rows of a machine are among the things that are owned -/
def Own3 (m : List Ent) (A1 : Option Addr) (c1 : Nat) (A2 : Option Addr) (c2 : Nat) (A3 : Option Addr) (c3 : Nat) (t : Tri) : Prop := rowI A1 c1 t.a.digits ∈ m ∧ rowI A2 c2 t.b.digits ∈ m ∧ rowI A3 c3 t.s.digits ∈ m
theorem Own3.mono {m m' : List Ent} {A1 A2 A3 : Option Addr} {c1 c2 c3 : Nat} {t : Tri} (h : Own3 m A1 c1 A2 c2 A3 c3 t) (hs : ∀ e ∈ m, e ∈ m') : Own3 m' A1 c1 A2 c2 A3 c3 t := ⟨hs _ h.1, hs _ h.2.1, hs _ h.2.2⟩
theorem Kn.riM {w0 w : World} {m : List Ent} {A : Option Addr} {c : Nat} {ds : List Int} (h : Kn w0 m w) (he : rowI A c ds ∈ m) : RI w A ds.length ds := by
  obtain ⟨i, hi⟩ := List.getElem?_of_mem he
  exact Kn.riv (h.front i hi)
theorem Own3.ri {w0 w : World} {m m' : List Ent} {A1 A2 A3 : Option Addr} {c1 c2 c3 : Nat} {t : Tri} (h : Own3 m A1 c1 A2 c2 A3 c3 t) (hK : Kn w0 m' w) (hs : ∀ e ∈ m, e ∈ m') : RI w A1 t.a.digits.length t.a.digits ∧ RI w A2 t.b.digits.length t.b.digits ∧ RI w A3 t.s.digits.length t.s.digits :=
  ⟨hK.riM (hs _ h.1), hK.riM (hs _ h.2.1), hK.riM (hs _ h.2.2)⟩
/-- the same, and all things of F beside them -/
def Own3F (F m : List Ent) (A1 : Option Addr) (c1 : Nat) (A2 : Option Addr) (c2 : Nat) (A3 : Option Addr) (c3 : Nat) (t : Tri) : Prop := Own3 m A1 c1 A2 c2 A3 c3 t ∧ ∀ e ∈ F, e ∈ m
theorem Own3F.mono {F m m' : List Ent} {A1 A2 A3 : Option Addr} {c1 c2 c3 : Nat} {t : Tri} (h : Own3F F m A1 c1 A2 c2 A3 c3 t) (hs : ∀ e ∈ m, e ∈ m') : Own3F F m' A1 c1 A2 c2 A3 c3 t := ⟨h.1.mono hs, fun e he => hs _ (h.2 e he)⟩
/-- a session in block g; the things of F are kept beside it -/
def SesI (F : List Ent) (w0 : World) (g : Nat) (s : SS) (w : World) : Prop := ∃ U1 u1 U2 u2 U3 u3 A1 c1 A2 c2 A3 c3 SA sc BA bc m, Kn w0 (.blk g [.int .i64 s.start.a.base, .slice U1 s.start.a.digits.length u1, .int .i64 s.start.b.base, .slice U2 s.start.b.digits.length u2, .int .i64 s.start.s.base, .slice U3 s.start.s.digits.length u3, .int .i64 s.start.carry, .int .i64 s.m.a.base, .slice A1 s.m.a.digits.length c1, .int .i64 s.m.b.base, .slice A2 s.m.b.digits.length c2, .int .i64 s.m.s.base, .slice A3 s.m.s.digits.length c3, .int .i64 s.m.carry, .slice SA s.str.length sc, .slice BA s.bel.length bc, .bool s.ended] 86 :: rowI SA sc s.str :: rowI BA bc s.bel :: m) w ∧ Own3F F m U1 u1 U2 u2 U3 u3 s.start ∧ Own3 m A1 c1 A2 c2 A3 c3 s.m
theorem lineS_ended {s : SS} (i : Int) (bs : List UInt8) (h : s.ended = true) : lineS s i bs = (s, 5) := by unfold lineS; rw [if_pos h]
theorem box7s {w0 w : World} {m : List Ent} {g : Nat} {v0 v1 v2 v3 v4 v5 v6 p0 p1 p2 p3 p4 p5 p6 : Value} {l : List Value} {T : TypeId} (h : Kn w0 (.blk g (p0 :: p1 :: p2 :: p3 :: p4 :: p5 :: p6 :: v0 :: v1 :: v2 :: v3 :: v4 :: v5 :: v6 :: l) T :: m) w) :
    w.cell? ⟨g, 7, none⟩ = some v0 ∧ w.cell? ⟨g, 8, none⟩ = some v1 ∧ w.cell? ⟨g, 9, none⟩ = some v2 ∧ w.cell? ⟨g, 10, none⟩ = some v3 ∧ w.cell? ⟨g, 11, none⟩ = some v4 ∧ w.cell? ⟨g, 12, none⟩ = some v5 ∧ w.cell? ⟨g, 13, none⟩ = some v6 :=
  ⟨h.blkAt.1 7, h.blkAt.1 8, h.blkAt.1 9, h.blkAt.1 10, h.blkAt.1 11, h.blkAt.1 12, h.blkAt.1 13⟩
attribute [local go_sem ↓] Go.wp_at_zero Go.wp_at_succ
set_option maxRecDepth 100000 in
set_option maxHeartbeats 6400000 in
theorem lineI_stroke {F : List Ent} {w0 : World} {g k : Nat} (s : SS) (i : Int) (L : ByteArray) (w : World) (hS : SesI F w0 g s w) (hg : s.Good k) (hk : k ≤ 1000000) (he : s.ended = false) (hq : kindOf (strB L) ≠ 0) :
    Calls Tryz.prog 70 #[.pointer (some ⟨g, 0, none⟩), .int .i64 i, .string L] w fun e w' => e = .returned (.int .i64 0) ∧ SesI F w0 g (lineS s i (strB L)).1 w' := by
  have HKN := (fun W => strokeNamed_any L W)
  have hb := kindOf_bd (strB L)
  have HLS := Lib.hid (show (lineS s i (strB L)).1 = ⟨s.start, (strokeT (kindOf (strB L)) s.m).1, s.str ++ [kindOf (strB L)], if (strokeT (kindOf (strB L)) s.m).2 then s.bel ++ [i] else s.bel, s.ended⟩ by
    unfold lineS; rw [if_neg (by rw [he]; decide), if_pos hq, he])
  rw [decide_eq_true hq] at HKN
  obtain ⟨kd, hkd⟩ : ∃ kd, kindOf (strB L) = kd := ⟨_, rfl⟩
  rw [hkd] at HKN hb hq HLS
  have hk1 : 1 ≤ kd ∧ kd ≤ 6 := by omega
  have KT := (fun (A1 A2 A3 : Option Addr) (c1 c2 c3 : Nat) W r1 r2 r3 => stroke_any s.m A1 A2 A3 c1 c2 c3 kd W r1 r2 r3 hg.m hk1)
  obtain ⟨⟨t, bell⟩, hr⟩ : ∃ r, strokeT kd s.m = r := ⟨_, rfl⟩
  rw [hr] at KT HLS
  replace HKN := Lib.hid HKN
  replace KT := Lib.hid KT
  have hsl := hg.str
  have hsl10 : s.str.length ≤ 10000000 := by omega
  have hbl := hg.bel
  clear hr hkd hq hg
  obtain ⟨U1, u1, U2, u2, U3, u3, A1, c1, A2, c2, A3, c3, SA, sc, BA, bc, m, hK, hu, hm⟩ := hS
  have HU := Lib.hid hu
  have HM := Lib.hid hm
  clear hu hm
  obtain ⟨a1, a2, a3⟩ := hK.blkAt
  go_enter Tryz.func70, Tryz.ntmps70
  go_wp2_with fail
  refine (HKN.out _).mono ?_; rintro e w1 ⟨rfl, hw⟩
  have hK1 := hK.keep hw
  clear a1 a2 a3 hK hw
  obtain ⟨a1, a2, a3⟩ := hK1.blkAt
  go_wp2_with fail
  obtain ⟨r1, r2, r3⟩ := HM.out.ri hK1 (fun e h => by simp [h])
  refine (KT.out _ _ _ _ _ _ _ r1 r2 r3).mono ?_; rintro e w2 ⟨B1, d1, B2, d2, B3, d3, rfl, hKn⟩
  have hK2 : Kn w0 (rowI SA sc s.str :: .blk g [.int .i64 s.start.a.base, .slice U1 s.start.a.digits.length u1, .int .i64 s.start.b.base, .slice U2 s.start.b.digits.length u2, .int .i64 s.start.s.base, .slice U3 s.start.s.digits.length u3, .int .i64 s.start.carry, .int .i64 s.m.a.base, .slice A1 s.m.a.digits.length c1, .int .i64 s.m.b.base, .slice A2 s.m.b.digits.length c2, .int .i64 s.m.s.base, .slice A3 s.m.s.digits.length c3, .int .i64 s.m.carry, .slice SA s.str.length sc, .slice BA s.bel.length bc, .bool s.ended] 86 :: rowI BA bc s.bel :: rowI B3 d3 t.s.digits :: rowI B2 d2 t.b.digits :: rowI B1 d1 t.a.digits :: m) w2 := (hK1.join hKn).sel [4, 3, 5, 0, 1, 2] 6 (by decide) (by decide)
  clear a1 a2 a3 hK1 hKn r1 r2 r3
  obtain ⟨a1, a2, a3, -⟩ := hK2.cells
  go_upto_region 6 with fail
  refine Code.wp.kn ((hK2.al [.int .i64 t.a.base, .slice B1 t.a.digits.length d1, .int .i64 t.b.base, .slice B2 t.b.digits.length d2, .int .i64 t.s.base, .slice B3 t.s.digits.length d3, .int .i64 t.carry] 32).sel [1, 0, 2, 3] 4 (by decide) (by decide)) ?_; intro w3 hK3
  clear a1 a2 a3
  obtain ⟨g9, hg9⟩ : ∃ g, w2.heap.size = g := ⟨_, rfl⟩
  rw [hg9] at hK3 ⊢
  clear hg9 hK2
  replace hK3 : Kn w0 (rowI SA sc s.str :: .blk g9 [.int .i64 t.a.base, .slice B1 t.a.digits.length d1, .int .i64 t.b.base, .slice B2 t.b.digits.length d2, .int .i64 t.s.base, .slice B3 t.s.digits.length d3, .int .i64 t.carry] 32 :: .blk g [.int .i64 s.start.a.base, .slice U1 s.start.a.digits.length u1, .int .i64 s.start.b.base, .slice U2 s.start.b.digits.length u2, .int .i64 s.start.s.base, .slice U3 s.start.s.digits.length u3, .int .i64 s.start.carry, .int .i64 s.m.a.base, .slice A1 s.m.a.digits.length c1, .int .i64 s.m.b.base, .slice A2 s.m.b.digits.length c2, .int .i64 s.m.s.base, .slice A3 s.m.s.digits.length c3, .int .i64 s.m.carry, .slice SA s.str.length sc, .slice BA s.bel.length bc, .bool s.ended] 86 :: rowI BA bc s.bel :: rowI B3 d3 t.s.digits :: rowI B2 d2 t.b.digits :: rowI B1 d1 t.a.digits :: m) w3 := hK3
  obtain ⟨str', hstr⟩ : ∃ l, s.str ++ [kd] = l := ⟨_, rfl⟩
  rw [hstr] at HLS
  have HSTR := Lib.hid hstr
  clear hstr
  obtain ⟨b1, b2, b3, a1, a2, a3, -⟩ := hK3.cells
  have hA : Kn w0 (.blk w3.heap.size [.int .i64 kd] 2 :: .row (.slice SA s.str.length sc) 2 1 s.str.length (s.str.map (Value.int .i64)) :: .blk g9 [.int .i64 t.a.base, .slice B1 t.a.digits.length d1, .int .i64 t.b.base, .slice B2 t.b.digits.length d2, .int .i64 t.s.base, .slice B3 t.s.digits.length d3, .int .i64 t.carry] 32 :: _) _ := (hK3.al [.int .i64 kd] 2).drew
  go_region_law (refine kn_stepI (by rfl) _ _ (by rfl) (.slice SA s.str.length sc) s.str (by rfl) (by rfl) hA hsl10 ?_; intro v5 w6 hK9; rw [HSTR.out] at hK9; obtain ⟨A5, c5, rfl⟩ := row_form hK9.at0; clear b1 b2 b3 a1 a2 a3; obtain ⟨x1, x2, x3, a1, a2, a3, -⟩ := hK9.cells)
  all_goals
    have hKb := (((((((hK9.front 2 rfl).st 7 (.int .i64 t.a.base)).st 8 (.slice B1 t.a.digits.length d1)).st 9 (.int .i64 t.b.base)).st 10 (.slice B2 t.b.digits.length d2)).st 11 (.int .i64 t.s.base)).st 12 (.slice B3 t.s.digits.length d3)).st 13 (.int .i64 t.carry) |>.st 14 (.slice A5 str'.length c5)
    go_upto_region 7 with fail
    refine Code.wp.kn (w0 := w0) (m := .blk g [.int .i64 s.start.a.base, .slice U1 s.start.a.digits.length u1, .int .i64 s.start.b.base, .slice U2 s.start.b.digits.length u2, .int .i64 s.start.s.base, .slice U3 s.start.s.digits.length u3, .int .i64 s.start.carry, .int .i64 t.a.base, .slice B1 t.a.digits.length d1, .int .i64 t.b.base, .slice B2 t.b.digits.length d2, .int .i64 t.s.base, .slice B3 t.s.digits.length d3, .int .i64 t.carry, .slice A5 str'.length c5, .slice BA s.bel.length bc, .bool s.ended] 86 :: rowI A5 c5 str' :: rowI BA bc s.bel :: rowI B3 d3 t.s.digits :: rowI B2 d2 t.b.digits :: rowI B1 d1 t.a.digits :: m) (hKb.sel [0, 1, 3, 4, 5, 6] 7 (by decide) (by decide)) ?_; intro w7 hK7
    clear hKb x1 x2 x3 a1 a2 a3 hA hK9
    have HK7 := Lib.hid hK7
    obtain ⟨a1, a2, a3, -⟩ := hK7.cells
    rcases bell with _ | _
    · go_wp2_with fail
      go_ret
      have hls := HLS.out
      simp only [Bool.false_eq_true, if_false] at hls
      rw [hls]
      exact ⟨rfl, U1, u1, U2, u2, U3, u3, B1, d1, B2, d2, B3, d3, A5, c5, BA, bc, rowI B3 d3 t.s.digits :: rowI B2 d2 t.b.digits :: rowI B1 d1 t.a.digits :: m, HK7.out, HU.out.mono (fun e h => by simp [h]), ⟨by simp, by simp, by simp⟩⟩
    · have hA : Kn w0 (.blk w7.heap.size [.int .i64 i] 2 :: .row (.slice BA s.bel.length bc) 2 1 s.bel.length (s.bel.map (Value.int .i64)) :: _) _ := (hK7.front 2 rfl).al [.int .i64 i] 2
      obtain ⟨bel', hbel⟩ : ∃ l, s.bel ++ [i] = l := ⟨_, rfl⟩
      rw [hbel] at HLS
      have HBEL := Lib.hid hbel
      have hbl10 : s.bel.length ≤ 10000000 := by omega
      clear hbel
      go_wp2_with (at_builtin; refine kn_pushI rfl _ _ rfl (.slice BA s.bel.length bc) s.bel rfl rfl hA hbl10 ?_; intro v8 w8 hK8; rw [HBEL.out] at hK8; obtain ⟨A6, c6, rfl⟩ := row_form hK8.at0; clear a1 a2 a3; obtain ⟨a1, a2, a3, -⟩ := hK8.cells)
      go_ret
      have hls := HLS.out
      simp only [if_true] at hls
      rw [hls]
      exact ⟨rfl, U1, u1, U2, u2, U3, u3, B1, d1, B2, d2, B3, d3, A5, c5, A6, c6, rowI B3 d3 t.s.digits :: rowI B2 d2 t.b.digits :: rowI B1 d1 t.a.digits :: m, ((hK8.front 1 rfl).st 15 (.slice A6 bel'.length c6)).sel [0, 2, 1, 3, 4, 5] 6 (by decide) (by decide), HU.out.mono (fun e h => by simp [h]), ⟨by simp, by simp, by simp⟩⟩
end Go.Proofs.YtmmiahgmdllgdaaGreatDoor

namespace Go.Proofs.YtmmiahgmdllgdaaGreatDoor
open Go.RowKit Go.Sort
end Go.Proofs.YtmmiahgmdllgdaaGreatDoor

namespace Go.Proofs.YtmmiahgmdllgdaaGreatDoor
open Go.RowKit Go.Sort
end Go.Proofs.YtmmiahgmdllgdaaGreatDoor

namespace Go.Proofs.YtmmiahgmdllgdaaGreatDoor
open Go.RowKit Go.Sort
theorem instrOk_bd1 {op arg : Int} (h : instrOk op arg = true) : 1 ≤ op ∧ op ≤ 10 ∧ 0 ≤ arg ∧ arg ≤ 1000000000000 := by
  rcases op_cases op with rfl | rfl | rfl | rfl | rfl | rfl | rfl | rfl | rfl | rfl | h1
  rotate_right 1
  · rw [instrOk_else h1] at h; cases h
  all_goals
    simp [instrOk, betB] at h
    omega
theorem Ev.mono {L : List Ins} {t : Task} {s s' : RS} {b : Bool} (h : Ev L t s s' b) : s.done ≤ s'.done := by
  induction h with
  | s0 => exact Nat.le_refl _
  | sFull h => simp [RS.tick]
  | sStep h he ih => simp only [] at ih; omega
  | rEnd h => exact Nat.le_refl _
  | rCode hi h => exact Nat.le_refl _
  | rSetFull hi hl hc ho h => simp [RS.tick]
  | rSetBad hi hl hc ho h hf => simp
  | rSet hi hl hc ho h hf he ih => simp only [] at ih; omega
  | rLoop hi hl hc ho hm h1 he ih1 ih2 => omega
  | rStr hi hl hc ho h1' h1 he ih1 ih2 => omega
  | lEnd h8 hk => exact Nat.le_refl _
  | lFull h8 h => simp [RS.tick]
  | lOut h8 h h1 ho ih => simp only [] at ih; omega
  | lStep h8 h h1 ho he ih1 ih2 => simp only [] at ih1; omega
/-- what holds at the head of a round of a loop -/
def AtRound (L : List Ins) (x : Ins) (i e : Nat) (s : RS) (k : Nat) (s1 : RS) : Prop :=
  (s1.code = 0 ∧ (x.op = 8 → (k : Int) ≤ x.arg) ∧ ∀ s' b', Ev L (.loop x.op x.arg i e k) s1 s' b' → Ev L (.loop x.op x.arg i e 0) s s' false) ∨ (¬ s1.code = 0 ∧ Ev L (.loop x.op x.arg i e 0) s s1 false)
theorem AtRound.next {L : List Ins} {x : Ins} {i e : Nat} {s s1 s3 : RS} {k : Nat} {b3 : Bool} (HE : ∀ s' b', Ev L (.loop x.op x.arg i e k) s1 s' b' → Ev L (.loop x.op x.arg i e 0) s s' false) (hne : ¬ (x.op = 8 ∧ x.arg ≤ (k : Int))) (hd : ¬ s1.done = 3000)
    (he : Ev L (.run i e) ⟨s1.m, s1.tr, s1.done + 1, 0⟩ s3 b3) (h9 : ¬ (x.op = 9 ∧ b3 = true)) (h8 : x.op = 8 → (k : Int) + 1 ≤ x.arg) : AtRound L x i e s (k + 1) s3 := by
  by_cases hc : s3.code = 0
  · exact .inl ⟨hc, fun h => by have := h8 h; omega, fun s' b' h => HE s' false (Ev.lStep hne hd he ⟨hc, h9⟩ h)⟩
  · exact .inr ⟨hc, HE s3 false (Ev.lOut hne hd he (.inl hc))⟩
end Go.Proofs.YtmmiahgmdllgdaaGreatDoor

namespace Go.Proofs.YtmmiahgmdllgdaaGreatDoor
open Go.RowKit Go.Sort
theorem Ev.stop {L : List Ins} {j tt : Nat} {s s' : RS} {b : Bool} (h : Ev L (.run j tt) s s' b) (hc : ¬ s.code = 0) : s' = s ∧ b = false := by
  cases h <;> first | exact ⟨rfl, rfl⟩ | contradiction
end Go.Proofs.YtmmiahgmdllgdaaGreatDoor

namespace Go.Proofs.YtmmiahgmdllgdaaGreatDoor
open Go.RowKit Go.Sort
end Go.Proofs.YtmmiahgmdllgdaaGreatDoor

namespace Go.Proofs.YtmmiahgmdllgdaaGreatDoor
open Go.RowKit Go.Sort
end Go.Proofs.YtmmiahgmdllgdaaGreatDoor

namespace Go.Proofs.YtmmiahgmdllgdaaGreatDoor
open Go.RowKit Go.Sort
theorem box8 {w0 w : World} {m : List Ent} {g g' : Nat} {v0 v1 v2 v3 v4 v5 v6 y0 y1 : Value} {l : List Value} {r1 r2 r3 r4 : Ent} {T T' : TypeId} (h : Kn w0 (.blk g (v0 :: v1 :: v2 :: v3 :: v4 :: v5 :: v6 :: l) T :: r1 :: r2 :: r3 :: r4 :: .blk g' [y0, y1] T' :: m) w) :
    w.cell? ⟨g, 0, none⟩ = some v0 ∧ w.cell? ⟨g, 1, none⟩ = some v1 ∧ w.cell? ⟨g, 2, none⟩ = some v2 ∧ w.cell? ⟨g, 3, none⟩ = some v3 ∧ w.cell? ⟨g, 4, none⟩ = some v4 ∧ w.cell? ⟨g, 5, none⟩ = some v5 ∧ w.cell? ⟨g, 6, none⟩ = some v6 ∧ w.cell? ⟨g', 1, none⟩ = some y1 :=
  ⟨h.blkAt.1 0, h.blkAt.1 1, h.blkAt.1 2, h.blkAt.1 3, h.blkAt.1 4, h.blkAt.1 5, h.blkAt.1 6, h.drop.drop.drop.drop.drop.blkAt.1 1⟩
end Go.Proofs.YtmmiahgmdllgdaaGreatDoor

namespace Go.Proofs.YtmmiahgmdllgdaaGreatDoor
open Go.RowKit Go.Sort
/-- how a run begins -/
def startR (t : Tri) : RS := ⟨t, [], 0, 0⟩
theorem startR_good {t : Tri} (h : vmach t = true) : (startR t).Good := ⟨h, Nat.le_refl _, fun _ => by simp [startR], by simp [startR]⟩
theorem sized_of {t : Tri} (h : vmach t = true) : Sized t := by
  obtain ⟨q1, q2, q3, -⟩ := vmach_all h
  obtain ⟨-, ⟨n1, n2⟩, -⟩ := vreg_iff.1 q1
  obtain ⟨-, ⟨n3, n4⟩, -⟩ := vreg_iff.1 q2
  obtain ⟨-, ⟨n5, n6⟩, -⟩ := vreg_iff.1 q3
  exact ⟨n1, n3, n5, n2, n4, n6⟩
end Go.Proofs.YtmmiahgmdllgdaaGreatDoor

namespace Go.Proofs.YtmmiahgmdllgdaaGreatDoor
open Go.RowKit Go.Sort
theorem rdN_bd (bs : List UInt8) : -9223372036854775807 ≤ rdN bs ∧ rdN bs ≤ 9223372036854775807 := by
  unfold rdN
  rcases h : rdDec bs with _ | n
  · simp
  · show -9223372036854775807 ≤ n ∧ n ≤ 9223372036854775807
    unfold rdDec at h
    split at h
    · rename_i hc
      injection h with h
      rw [Bool.and_eq_true, Bool.and_eq_true, decide_eq_true_eq] at hc
      have h1 := foldD_bd _ hc.1.2
      have h2 : 10 ^ (signOff bs).length ≤ 10 ^ 18 := Nat.pow_le_pow_right (by omega) hc.1.1.2
      unfold numOf at h
      split at h <;> omega
    · cases h
def setW : ByteArray := ⟨#[115, 101, 116, 32]⟩
def showW : ByteArray := ⟨#[115, 104, 111, 119, 32]⟩
theorem SesI.of {F : List Ent} {w0 w : World} {g : Nat} {s : SS} {U1 U2 U3 A1 A2 A3 SA BA : Option Addr} {u1 u2 u3 c1 c2 c3 sc bc : Nat} {m : List Ent} (hK : Kn w0 (.blk g [.int .i64 s.start.a.base, .slice U1 s.start.a.digits.length u1, .int .i64 s.start.b.base, .slice U2 s.start.b.digits.length u2, .int .i64 s.start.s.base, .slice U3 s.start.s.digits.length u3, .int .i64 s.start.carry, .int .i64 s.m.a.base, .slice A1 s.m.a.digits.length c1, .int .i64 s.m.b.base, .slice A2 s.m.b.digits.length c2, .int .i64 s.m.s.base, .slice A3 s.m.s.digits.length c3, .int .i64 s.m.carry, .slice SA s.str.length sc, .slice BA s.bel.length bc, .bool s.ended] 86 :: rowI SA sc s.str :: rowI BA bc s.bel :: m) w) (hu : Own3F F m U1 u1 U2 u2 U3 u3 s.start) (hm : Own3 m A1 c1 A2 c2 A3 c3 s.m) : SesI F w0 g s w :=
  ⟨U1, u1, U2, u2, U3, u3, A1, c1, A2, c2, A3, c3, SA, sc, BA, bc, m, hK, hu, hm⟩
theorem lineI_ended {F : List Ent} {w0 : World} {g : Nat} (s : SS) (i : Int) (L : ByteArray) (w : World) (hS : SesI F w0 g s w) (he : s.ended = true) :
    Calls Tryz.prog 70 #[.pointer (some ⟨g, 0, none⟩), .int .i64 i, .string L] w fun e w' => e = .returned (.int .i64 (lineS s i (strB L)).2) ∧ SesI F w0 g (lineS s i (strB L)).1 w' := by
  rw [lineS_ended i (strB L) he]
  have HS := Lib.hid hS
  obtain ⟨U1, u1, U2, u2, U3, u3, A1, c1, A2, c2, A3, c3, SA, sc, BA, bc, m, hK, -, -⟩ := hS
  obtain ⟨a1, a2, a3⟩ := hK.blkAt
  clear hK
  go_enter Tryz.func70, Tryz.ntmps70
  go_wp2_with fail
  go_ret
  exact ⟨rfl, HS.out⟩
theorem nameI0 {L : ByteArray} (hq : kindOf (strB L) = 0) : Hid (∀ W, Calls Tryz.prog 130 #[.string L] W fun e w' => e = .returned (.tuple #[.int .i64 0, .bool false]) ∧ Below W.heap.size W w') := by
  have h := (fun W => strokeNamed_any L W)
  rw [hq, decide_eq_false (fun h => h rfl)] at h
  exact h
theorem setNo {L : ByteArray} (hs : L.size ≤ 1048576) (hb : begins setB (strB L) = false) : Hid (∀ W, Calls Tryz.prog 69 #[.string L, .string ⟨#[115, 101, 116, 32]⟩] W fun e w' => e = .returned (.tuple #[.string ⟨#[]⟩, .bool false]) ∧ W = w') := by
  have h := (fun W => behind_any L setW W (by omega) (by decide))
  have hb' : begins (strB setW) (strB L) = false := hb
  rw [restB_no hb', hb'] at h
  exact h
theorem showNo {L : ByteArray} (hs : L.size ≤ 1048576) (hb : begins showB (strB L) = false) : Hid (∀ W, Calls Tryz.prog 69 #[.string L, .string ⟨#[115, 104, 111, 119, 32]⟩] W fun e w' => e = .returned (.tuple #[.string ⟨#[]⟩, .bool false]) ∧ W = w') := by
  have h := (fun W => behind_any L showW W (by omega) (by decide))
  have hb' : begins (strB showW) (strB L) = false := hb
  rw [restB_no hb', hb'] at h
  exact h
theorem setYes {L : ByteArray} (hs : L.size ≤ 1048576) (hb : begins setB (strB L) = true) : ∃ R : ByteArray, strB R = (strB L).drop 4 ∧ R.size ≤ 1048576 ∧ ∀ W, Calls Tryz.prog 69 #[.string L, .string ⟨#[115, 101, 116, 32]⟩] W fun e w' => e = .returned (.tuple #[.string R, .bool true]) ∧ W = w' := by
  have h := (fun W => behind_any L setW W (by omega) (by decide))
  have hb' : begins (strB setW) (strB L) = true := hb
  rw [restB_yes hb', hb'] at h
  exact ⟨L.extract 4 L.size, strB_drop L 4, by rw [extract_size]; omega, h⟩
theorem showYes {L : ByteArray} (hs : L.size ≤ 1048576) (hb : begins showB (strB L) = true) : ∃ R : ByteArray, strB R = (strB L).drop 5 ∧ R.size ≤ 1048576 ∧ ∀ W, Calls Tryz.prog 69 #[.string L, .string ⟨#[115, 104, 111, 119, 32]⟩] W fun e w' => e = .returned (.tuple #[.string R, .bool true]) ∧ W = w' := by
  have h := (fun W => behind_any L showW W (by omega) (by decide))
  have hb' : begins (strB showW) (strB L) = true := hb
  rw [restB_yes hb', hb'] at h
  exact ⟨L.extract 5 L.size, strB_drop L 5, by rw [extract_size]; omega, h⟩
theorem begins_ne {p bs : List UInt8} (h : begins p bs = true) {q : List UInt8} (hq : q.length ≤ p.length) : bs ≠ q := by
  rintro rfl
  have := (begins_iff.1 h).1
  omega
theorem show_not_set {bs : List UInt8} (h : begins showB bs = true) : begins setB bs = false := by
  rcases hb : begins setB bs with _ | _
  · rfl
  · have h1 := (begins_iff.1 h).2
    have h2 := (begins_iff.1 hb).2
    have h3 : (bs.take 5).take 4 = bs.take 4 := by rw [List.take_take]; rfl
    have h4 : bs.take 5 = showB := h1
    have h5 : bs.take 4 = setB := h2
    rw [h4, h5] at h3
    exact absurd h3 (by decide)
set_option maxRecDepth 100000 in
set_option maxHeartbeats 3200000 in
theorem lineI_end {F : List Ent} {w0 : World} {g : Nat} (s : SS) (i : Int) (L : ByteArray) (w : World) (hS : SesI F w0 g s w) (he : s.ended = false) (hq : kindOf (strB L) = 0) (hL : L.size ≤ 1048576) (h1 : begins setB (strB L) = false) (h2 : begins showB (strB L) = false) :
    Calls Tryz.prog 70 #[.pointer (some ⟨g, 0, none⟩), .int .i64 i, .string L] w fun e w' => e = .returned (.int .i64 (lineS s i (strB L)).2) ∧ SesI F w0 g (lineS s i (strB L)).1 w' := by
  have HKN := nameI0 hq
  have HB1 := setNo hL h1
  have HB2 := showNo hL h2
  have HL := Lib.hid (show lineS s i (strB L) = if strB L = endB then ({ s with ended := true }, 0) else (s, 2) by
    unfold lineS
    rw [if_neg (by rw [he]; decide), if_neg (fun h => h hq), h1, h2]
    rfl)
  clear h1 h2 hq
  rcases hqe : (L.toList == [101, 110, 100]) with _ | _
  · have HQ : Hid (lineS s i (strB L) = (s, 2)) := by
      simp only [Hid]
      rw [HL.out, if_neg]
      rw [strB_toList, beq_eq_false_iff_ne] at hqe
      exact hqe
    obtain ⟨U1, u1, U2, u2, U3, u3, A1, c1, A2, c2, A3, c3, SA, sc, BA, bc, m, hK, hu, hm⟩ := hS
    have HU := Lib.hid hu
    have HM := Lib.hid hm
    clear hu hm
    obtain ⟨a1, a2, a3⟩ := hK.blkAt
    go_enter Tryz.func70, Tryz.ntmps70
    go_wp2_with fail
    refine (HKN.out _).mono ?_; rintro e w1 ⟨rfl, hw⟩
    have hK1 := hK.keep hw
    clear a1 a2 a3 hK hw
    obtain ⟨a1, a2, a3⟩ := hK1.blkAt
    go_wp2_with (first | (go_at_call 69; first | ((with_reducible refine (HB1.out _).mono ?_); rintro e w2 ⟨rfl, rfl⟩) | ((with_reducible refine (HB2.out _).mono ?_); rintro e w2 ⟨rfl, rfl⟩)))
    go_ret
    rw [HQ.out]
    exact ⟨rfl, SesI.of hK1 HU.out HM.out⟩
  · have HQ : Hid (lineS s i (strB L) = ({ s with ended := true }, 0)) := by
      simp only [Hid]
      rw [HL.out, if_pos]
      rw [strB_toList, beq_iff_eq] at hqe
      exact hqe
    obtain ⟨U1, u1, U2, u2, U3, u3, A1, c1, A2, c2, A3, c3, SA, sc, BA, bc, m, hK, hu, hm⟩ := hS
    have HU := Lib.hid hu
    have HM := Lib.hid hm
    clear hu hm
    obtain ⟨a1, a2, a3⟩ := hK.blkAt
    go_enter Tryz.func70, Tryz.ntmps70
    go_wp2_with fail
    refine (HKN.out _).mono ?_; rintro e w1 ⟨rfl, hw⟩
    have hK1 := hK.keep hw
    clear a1 a2 a3 hK hw
    obtain ⟨a1, a2, a3⟩ := hK1.blkAt
    go_wp2_with (first | (go_at_call 69; first | ((with_reducible refine (HB1.out _).mono ?_); rintro e w2 ⟨rfl, rfl⟩) | ((with_reducible refine (HB2.out _).mono ?_); rintro e w2 ⟨rfl, rfl⟩)))
    go_ret
    rw [HQ.out]
    exact ⟨rfl, SesI.of (s := { s with ended := true }) (hK1.st 16 (.bool true)) HU.out HM.out⟩
set_option maxRecDepth 100000 in
set_option maxHeartbeats 3200000 in
theorem lineI_show {F : List Ent} {w0 : World} {g k : Nat} (s : SS) (i : Int) (L : ByteArray) (w : World) (hS : SesI F w0 g s w) (hg : s.Good k) (he : s.ended = false) (hq : kindOf (strB L) = 0) (hL : L.size ≤ 1048576) (h2 : begins showB (strB L) = true) (ht : TB w0) :
    Calls Tryz.prog 70 #[.pointer (some ⟨g, 0, none⟩), .int .i64 i, .string L] w fun e w' => e = .returned (.int .i64 (lineS s i (strB L)).2) ∧ SesI F w0 g (lineS s i (strB L)).1 w' := by
  have HKN := nameI0 hq
  have HB1 := setNo hL (show_not_set h2)
  obtain ⟨R, hR, hRs, hRc⟩ := showYes hL h2
  have hmt : mtext s.m = ⟨(strB (mtext s.m)).toArray⟩ := (str_eq.2 rfl).symm
  have HL := Lib.hid (show lineS s i (strB L) = if strB R = strB (mtextL s.m) then (s, 0) else (s, 4) by
    unfold lineS
    rw [if_neg (by rw [he]; decide), if_neg (fun h => h hq), if_neg (begins_ne h2 (by decide)), show_not_set h2, h2, hR]
    rfl)
  have hml : mtext s.m = mtextL s.m := by unfold mtext; rw [if_pos hg.m]
  rw [← hml] at HL
  have HB2 := Lib.hid hRc
  have hz := sized_of hg.m
  have hsm : SmallTri s.m := ⟨by have := hz.a; unfold SmallReg; omega, by have := hz.b; unfold SmallReg; omega, by have := hz.s; unfold SmallReg; omega⟩
  have HMT := (fun (A1 A2 A3 : Option Addr) (c1 c2 c3 : Nat) W r1 r2 r3 (hw : TB W) => MachineText_any s.m A1 A2 A3 c1 c2 c3 W r1 r2 r3 hsm hw)
  obtain ⟨T, hT⟩ : ∃ T, mtext s.m = T := ⟨_, rfl⟩
  rw [hT] at HMT HL
  replace HMT := Lib.hid HMT
  have HTB := Lib.hid (fun W (hW : Below w0.heap.size w0 W) => TB.below ht hW)
  clear h2 hq hR hRc hT hml hmt hsm hz hg ht
  rcases hqe : (R.toList == T.toList) with _ | _
  · have HQ : Hid (lineS s i (strB L) = (s, 4)) := by
      simp only [Hid]
      rw [HL.out, if_neg]
      rw [strB_toList, strB_toList, beq_eq_false_iff_ne] at hqe
      exact hqe
    obtain ⟨U1, u1, U2, u2, U3, u3, A1, c1, A2, c2, A3, c3, SA, sc, BA, bc, m, hK, hu, hm⟩ := hS
    have HU := Lib.hid hu
    have HM := Lib.hid hm
    clear hu hm
    obtain ⟨a1, a2, a3⟩ := hK.blkAt
    go_enter Tryz.func70, Tryz.ntmps70
    go_wp2_with fail
    refine (HKN.out _).mono ?_; rintro e w1 ⟨rfl, hw⟩
    have hK1 := hK.keep hw
    clear a1 a2 a3 hK hw
    obtain ⟨a1, a2, a3⟩ := hK1.blkAt
    go_wp2_with (first | (go_at_call 69; first | ((with_reducible refine (HB1.out _).mono ?_); rintro e w2 ⟨rfl, rfl⟩) | ((with_reducible refine (HB2.out _).mono ?_); rintro e w2 ⟨rfl, rfl⟩)))
    obtain ⟨r1, r2, r3⟩ := HM.out.ri hK1 (fun e h => by simp [h])
    refine (HMT.out _ _ _ _ _ _ _ r1 r2 r3 (HTB.out _ hK1.below)).mono ?_; rintro e w2 ⟨rfl, hw⟩
    have hK2 := hK1.keep hw
    clear a1 a2 a3 hK1 hw r1 r2 r3
    go_wp2_with fail
    go_ret
    rw [HQ.out]
    exact ⟨rfl, SesI.of hK2 HU.out HM.out⟩
  · have HQ : Hid (lineS s i (strB L) = (s, 0)) := by
      simp only [Hid]
      rw [HL.out, if_pos]
      rw [strB_toList, strB_toList, beq_iff_eq] at hqe
      exact hqe
    obtain ⟨U1, u1, U2, u2, U3, u3, A1, c1, A2, c2, A3, c3, SA, sc, BA, bc, m, hK, hu, hm⟩ := hS
    have HU := Lib.hid hu
    have HM := Lib.hid hm
    clear hu hm
    obtain ⟨a1, a2, a3⟩ := hK.blkAt
    go_enter Tryz.func70, Tryz.ntmps70
    go_wp2_with fail
    refine (HKN.out _).mono ?_; rintro e w1 ⟨rfl, hw⟩
    have hK1 := hK.keep hw
    clear a1 a2 a3 hK hw
    obtain ⟨a1, a2, a3⟩ := hK1.blkAt
    go_wp2_with (first | (go_at_call 69; first | ((with_reducible refine (HB1.out _).mono ?_); rintro e w2 ⟨rfl, rfl⟩) | ((with_reducible refine (HB2.out _).mono ?_); rintro e w2 ⟨rfl, rfl⟩)))
    obtain ⟨r1, r2, r3⟩ := HM.out.ri hK1 (fun e h => by simp [h])
    refine (HMT.out _ _ _ _ _ _ _ r1 r2 r3 (HTB.out _ hK1.below)).mono ?_; rintro e w2 ⟨rfl, hw⟩
    have hK2 := hK1.keep hw
    clear a1 a2 a3 hK1 hw r1 r2 r3
    go_wp2_with fail
    go_ret
    rw [HQ.out]
    exact ⟨rfl, SesI.of hK2 HU.out HM.out⟩
set_option maxRecDepth 100000 in
set_option maxHeartbeats 3200000 in
theorem lineI_set {F : List Ent} {w0 : World} {g k : Nat} (s : SS) (i : Int) (L : ByteArray) (w : World) (hS : SesI F w0 g s w) (hg : s.Good k) (he : s.ended = false) (hq : kindOf (strB L) = 0) (hL : L.size ≤ 1048576) (h1 : begins setB (strB L) = true) (ht : TB w0) :
    Calls Tryz.prog 70 #[.pointer (some ⟨g, 0, none⟩), .int .i64 i, .string L] w fun e w' => e = .returned (.int .i64 (lineS s i (strB L)).2) ∧ SesI F w0 g (lineS s i (strB L)).1 w' := by
  have HKN := nameI0 hq
  obtain ⟨R, hR, hRs, hRc⟩ := setYes hL h1
  have HL := Lib.hid (show lineS s i (strB L) = if (rdDec (strB R)).isSome && fits s.m (rdN (strB R)) then ({ s with m := setT s.m (rdN (strB R)) }, 0) else (s, 3) by
    unfold lineS fits
    rw [if_neg (by rw [he]; decide), if_neg (fun h => h hq), if_neg (begins_ne h1 (by decide)), h1, hR]
    rfl)
  have HB1 := Lib.hid hRc
  have HRD := (fun W hW => ReadDecimal_any R W (by omega) hW)
  have hvb := rdN_bd (strB R)
  obtain ⟨v, hv⟩ : ∃ v, rdN (strB R) = v := ⟨_, rfl⟩
  obtain ⟨ok, hok⟩ : ∃ b, (rdDec (strB R)).isSome = b := ⟨_, rfl⟩
  rw [hv, hok] at HRD HL
  rw [hv] at hvb
  replace HRD := Lib.hid HRD
  have HSV := Lib.hid (fun (A1 A2 A3 : Option Addr) (c1 c2 c3 : Nat) W r1 r2 r3 => SetValueG s.m A1 A2 A3 c1 c2 c3 v W r1 r2 r3 hg.m hvb.2)
  have HTB := Lib.hid (fun W (hW : Below w0.heap.size w0 W) => TB.below ht hW)
  obtain ⟨ds, hds⟩ : ∃ ds, (setT s.m v).a.digits = ds := ⟨_, rfl⟩
  have HDS := Lib.hid hds
  have HST := Lib.hid (show setT s.m v = ⟨⟨s.m.a.base, ds⟩, s.m.b, s.m.s, s.m.carry⟩ by rw [← hds]; rfl)
  clear h1 hq hR hRc hv hok hg ht hds
  rcases ok with _ | _
  · have HQ : Hid (lineS s i (strB L) = (s, 3)) := by
      simp only [Hid]
      rw [HL.out, if_neg (by simp)]
    obtain ⟨U1, u1, U2, u2, U3, u3, A1, c1, A2, c2, A3, c3, SA, sc, BA, bc, m, hK, hu, hm⟩ := hS
    have HU := Lib.hid hu
    have HM := Lib.hid hm
    clear hu hm
    obtain ⟨a1, a2, a3⟩ := hK.blkAt
    go_enter Tryz.func70, Tryz.ntmps70
    go_wp2_with fail
    refine (HKN.out _).mono ?_; rintro e w1 ⟨rfl, hw⟩
    have hK1 := hK.keep hw
    clear a1 a2 a3 hK hw
    obtain ⟨a1, a2, a3⟩ := hK1.blkAt
    go_wp2_with (first | (go_at_call 69; (refine (HB1.out _).mono ?_; rintro e w2 ⟨rfl, rfl⟩)))
    refine (HRD.out _ (HTB.out _ hK1.below)).mono ?_; rintro e w2 ⟨rfl, hw⟩
    have hK2 := hK1.keep hw
    clear a1 a2 a3 hK1 hw
    obtain ⟨a1, a2, a3⟩ := hK2.blkAt
    go_wp2_with fail
    obtain ⟨r1, r2, r3⟩ := HM.out.ri hK2 (fun e h => by simp [h])
    refine (HSV.out _ _ _ _ _ _ _ r1 r2 r3).mono ?_; rintro e w3 (⟨hf, B1, d1, B2, d2, B3, d3, rfl, hKn⟩ | ⟨hf, rfl, hw⟩)
    · rw [HDS.out] at hKn ⊢
      have hK3 := ((hK2.join hKn).sel [3, 4, 5] 6 (by decide) (by decide)).al_ (.cells #[.int .i64 s.m.a.base, .slice B1 ds.length d1, .int .i64 s.m.b.base, .slice B2 s.m.b.digits.length d2, .int .i64 s.m.s.base, .slice B3 s.m.s.digits.length d3, .int .i64 s.m.carry] 32)
      clear a1 a2 a3 hK2 hKn r1 r2 r3
      go_wp2_with fail
      go_ret
      rw [HQ.out]
      exact ⟨rfl, SesI.of (m := m) hK3 HU.out HM.out⟩
    · have hK3 := (hK2.keep hw).al_ (.cells #[.int .i64 0, .slice none 0 0, .int .i64 0, .slice none 0 0, .int .i64 0, .slice none 0 0, .int .i64 0] 32)
      clear a1 a2 a3 hK2 hw r1 r2 r3
      go_wp2_with fail
      go_ret
      rw [HQ.out]
      exact ⟨rfl, SesI.of hK3 HU.out HM.out⟩
  · obtain ⟨U1, u1, U2, u2, U3, u3, A1, c1, A2, c2, A3, c3, SA, sc, BA, bc, m, hK, hu, hm⟩ := hS
    have HU := Lib.hid hu
    have HM := Lib.hid hm
    clear hu hm
    obtain ⟨a1, a2, a3⟩ := hK.blkAt
    go_enter Tryz.func70, Tryz.ntmps70
    go_wp2_with fail
    refine (HKN.out _).mono ?_; rintro e w1 ⟨rfl, hw⟩
    have hK1 := hK.keep hw
    clear a1 a2 a3 hK hw
    obtain ⟨a1, a2, a3⟩ := hK1.blkAt
    go_wp2_with (first | (go_at_call 69; (refine (HB1.out _).mono ?_; rintro e w2 ⟨rfl, rfl⟩)))
    refine (HRD.out _ (HTB.out _ hK1.below)).mono ?_; rintro e w2 ⟨rfl, hw⟩
    have hK2 := hK1.keep hw
    clear a1 a2 a3 hK1 hw
    obtain ⟨a1, a2, a3⟩ := hK2.blkAt
    go_wp2_with fail
    obtain ⟨r1, r2, r3⟩ := HM.out.ri hK2 (fun e h => by simp [h])
    refine (HSV.out _ _ _ _ _ _ _ r1 r2 r3).mono ?_; rintro e w3 (⟨hf, B1, d1, B2, d2, B3, d3, rfl, hKn⟩ | ⟨hf, rfl, hw⟩)
    · have HQ : Hid (lineS s i (strB L) = ({ s with m := ⟨⟨s.m.a.base, ds⟩, s.m.b, s.m.s, s.m.carry⟩ }, 0)) := by
        simp only [Hid]
        rw [HL.out, hf, HST.out]; rfl
      rw [HDS.out] at hKn ⊢
      have hK3 : Kn w0 (.blk g [.int .i64 s.start.a.base, .slice U1 s.start.a.digits.length u1, .int .i64 s.start.b.base, .slice U2 s.start.b.digits.length u2, .int .i64 s.start.s.base, .slice U3 s.start.s.digits.length u3, .int .i64 s.start.carry, .int .i64 s.m.a.base, .slice A1 s.m.a.digits.length c1, .int .i64 s.m.b.base, .slice A2 s.m.b.digits.length c2, .int .i64 s.m.s.base, .slice A3 s.m.s.digits.length c3, .int .i64 s.m.carry, .slice SA s.str.length sc, .slice BA s.bel.length bc, .bool s.ended] 86 :: rowI SA sc s.str :: rowI BA bc s.bel :: rowI B3 d3 s.m.s.digits :: rowI B2 d2 s.m.b.digits :: rowI B1 d1 ds :: m) w3 := (hK2.join hKn).sel [3, 4, 5, 0, 1, 2] 6 (by decide) (by decide)
      clear a1 a2 a3 hK2 hKn r1 r2 r3 hf
      obtain ⟨a1, a2, a3⟩ := hK3.blkAt
      go_wp2_with fail
      go_ret
      rw [HQ.out]
      exact ⟨rfl, SesI.of (s := { s with m := ⟨⟨s.m.a.base, ds⟩, s.m.b, s.m.s, s.m.carry⟩ }) (m := rowI B3 d3 s.m.s.digits :: rowI B2 d2 s.m.b.digits :: rowI B1 d1 ds :: m) ((((((((hK3.st 7 (.int .i64 s.m.a.base)).st 8 (.slice B1 ds.length d1)).st 9 (.int .i64 s.m.b.base)).st 10 (.slice B2 s.m.b.digits.length d2)).st 11 (.int .i64 s.m.s.base)).st 12 (.slice B3 s.m.s.digits.length d3)).st 13 (.int .i64 s.m.carry)).al_ (.cells #[.int .i64 s.m.a.base, .slice B1 ds.length d1, .int .i64 s.m.b.base, .slice B2 s.m.b.digits.length d2, .int .i64 s.m.s.base, .slice B3 s.m.s.digits.length d3, .int .i64 s.m.carry] 32)) (HU.out.mono (fun e h => by simp [h])) ⟨by simp, by simp, by simp⟩⟩
    · have HQ : Hid (lineS s i (strB L) = (s, 3)) := by
        simp only [Hid]
        rw [HL.out, hf]; rfl
      have hK3 := (hK2.keep hw).al_ (.cells #[.int .i64 0, .slice none 0 0, .int .i64 0, .slice none 0 0, .int .i64 0, .slice none 0 0, .int .i64 0] 32)
      clear a1 a2 a3 hK2 hw r1 r2 r3 hf
      go_wp2_with fail
      go_ret
      rw [HQ.out]
      exact ⟨rfl, SesI.of hK3 HU.out HM.out⟩
end Go.Proofs.YtmmiahgmdllgdaaGreatDoor

namespace Go.Proofs.YtmmiahgmdllgdaaGreatDoor
open Go.RowKit Go.Sort
/-! rows of strings -/
def StrM (w : World) (p : Addr) (s : ByteArray) : Prop := w.cell? p = some (.string s)
theorem steady_StrM : Steady StrM := by
  intro w w' p s hp hb h
  unfold StrM at *
  rw [hb.cell hp]; exact h
def rowSN (A : Option Addr) (n c : Nat) (ss : List ByteArray) : Ent := .row (.slice A n c) 9 1 n (ss.map Value.string)
theorem Kn.rlSN {w0 w : World} {m : List Ent} {A : Option Addr} {n c : Nat} {ss : List ByteArray} (h : Kn w0 (rowSN A n c ss :: m) w) : ss.length = n ∧ RL StrM 1 w A n ss := by
  have h0 : w.ownsRow 0 9 1 (.slice A n c) n (ss.map Value.string) := h.at0
  have hl : ss.length = n := by have := h0.1; simpa using this
  refine ⟨hl, hl, fun hn => ?_⟩
  rcases h0.2 with ⟨hv, hn'⟩ | ⟨g, cap, cur, hv, -, hg, -⟩
  · omega
  · injection hv with h1 h2 h3
    refine ⟨_, h1, (Array.getElem?_eq_some_iff.1 hg).1, fun k hk => ?_⟩
    rw [h1] at h0
    have := h0.cells (g := g) rfl k _ (by rw [List.getElem?_map, List.getElem?_eq_getElem hk]; rfl)
    rw [Nat.mul_one]
    exact this
theorem Kn.rlS {w0 w : World} {m : List Ent} {A : Option Addr} {n c : Nat} {ss : List ByteArray} (h : Kn w0 (rowS (.slice A n c) ss :: m) w) : n = ss.length ∧ RL StrM 1 w A n ss := by
  have h0 : w.ownsRow 0 9 1 (.slice A n c) ss.length (ss.map Value.string) := h.at0
  have hn : n = ss.length := by
    rcases h0.2 with ⟨hv, hn'⟩ | ⟨g, cap, cur, hv, -, hg, -⟩
    · injection hv with h1 h2 h3; omega
    · injection hv
  subst hn
  exact ⟨rfl, (Kn.rlSN (m := m) (c := c) h).2⟩
def totS (ss : List ByteArray) : Nat := (ss.map (·.size)).sum
theorem totS_mem {ss : List ByteArray} {s : ByteArray} (h : s ∈ ss) : s.size ≤ totS ss := by
  induction ss with
  | nil => cases h
  | cons a l ih =>
    unfold totS at *
    rw [List.map_cons, List.sum_cons]
    rcases List.mem_cons.1 h with rfl | h
    · omega
    · have := ih h; omega
theorem totS_snoc (ss : List ByteArray) (s : ByteArray) : totS (ss ++ [s]) = totS ss + s.size := by simp [totS]
theorem info_str : (Tryz.prog.info? 9).map (fun i => (i.zero, i.size, i.bytes)) = some (some (.string ⟨#[]⟩), 1, 16) := by kernel_rfl
end Go.Proofs.YtmmiahgmdllgdaaGreatDoor

namespace Go.Proofs.YtmmiahgmdllgdaaGreatDoor
open Go.RowKit Go.Sort
/-! marks of strings -/
def mkT (k : Int) : ByteArray := ⟨(109 :: digs k.toNat).toArray⟩
def marksS (k : Int) (n : Nat) : List ByteArray := (List.range n).map (fun (i : Nat) => mkT (k + (i : Int)))
theorem marksS_len (k : Int) (n : Nat) : (marksS k n).length = n := by simp [marksS]
theorem marksS_get (k : Int) (n i : Nat) (h : i < (marksS k n).length) : (marksS k n)[i] = mkT (k + i) := by simp [marksS]
theorem size_app (a b : ByteArray) : (a ++ b).size = a.size + b.size := ByteArray.size_append
theorem strB_app (a b : ByteArray) : strB (a ++ b) = strB a ++ strB b := by unfold strB; simp
end Go.Proofs.YtmmiahgmdllgdaaGreatDoor

namespace Go.Proofs.YtmmiahgmdllgdaaGreatDoor
open Go.RowKit Go.Sort
theorem lineI_any {F : List Ent} {w0 : World} {g k : Nat} (s : SS) (i : Int) (L : ByteArray) (w : World) (hS : SesI F w0 g s w) (hg : s.Good k) (hk : k ≤ 1000000) (hL : L.size ≤ 1048576) (ht : TB w0) :
    Calls Tryz.prog 70 #[.pointer (some ⟨g, 0, none⟩), .int .i64 i, .string L] w fun e w' => e = .returned (.int .i64 (lineS s i (strB L)).2) ∧ SesI F w0 g (lineS s i (strB L)).1 w' := by
  rcases he : s.ended with _ | _
  · by_cases hq : kindOf (strB L) = 0
    · rcases h1 : begins setB (strB L) with _ | _
      · rcases h2 : begins showB (strB L) with _ | _
        · exact lineI_end s i L w hS he hq hL h1 h2
        · exact lineI_show s i L w hS hg he hq hL h2 ht
      · exact lineI_set s i L w hS hg he hq hL h1 ht
    · refine (lineI_stroke s i L w hS hg hk he hq).mono ?_
      rintro e w' ⟨rfl, h⟩
      refine ⟨?_, h⟩
      unfold lineS
      rw [if_neg (by rw [he]; decide), if_pos hq]
  · exact lineI_ended s i L w hS he
def startW : ByteArray := ⟨#[115, 116, 97, 114, 116, 32]⟩
theorem rdM_nil : rdM [] = none := rfl
/-- what a session begins with -/
def startOk (b : List UInt8) : Bool := begins startB b && (rdM (b.drop 6)).isSome
theorem runS_cons (b : List UInt8) (t : List (List UInt8)) : runS (b :: t) = if startOk b then goS ⟨rdMach (b.drop 6), rdMach (b.drop 6), [], [], false⟩ 1 t else (zSS, 0, 1) := rfl
theorem goS_cons (s : SS) (i : Int) (b : List UInt8) (t : List (List UInt8)) : goS s i (b :: t) = if (lineS s i b).2 ≠ 0 then ((lineS s i b).1, i, (lineS s i b).2) else goS (lineS s i b).1 (i + 1) t := rfl
theorem goS_nil (s : SS) (i : Int) : goS s i [] = if s.ended then (s, -1, 0) else (s, i, 5) := rfl
theorem sesI_zero {w w1 : World} (h : Kn w [.blk (w.heap.size + 1 + 1) [.int .i64 0, .slice none 0 0, .int .i64 0, .slice none 0 0, .int .i64 0, .slice none 0 0, .int .i64 0, .int .i64 0, .slice none 0 0, .int .i64 0, .slice none 0 0, .int .i64 0, .slice none 0 0, .int .i64 0, .slice (some ⟨w.heap.size, 0, none⟩) 0 0, .slice (some ⟨w.heap.size + 1, 0, none⟩) 0 0, .bool false] 86, .blk (w.heap.size + 1) [] 2, .blk w.heap.size [] 2] w1) : SesI [] w (w.heap.size + 1 + 1) zSS w1 := by
  have h1 := (h.front 1 rfl).litRow (n := 0) (size := 1) rfl (by decide)
  have h2 := (h1.front 2 rfl).litRow (n := 0) (size := 1) rfl (by decide)
  have h3 := h2.nilRow 2 1
  exact ⟨none, 0, none, 0, none, 0, none, 0, none, 0, none, 0, some ⟨w.heap.size, 0, none⟩, 0, some ⟨w.heap.size + 1, 0, none⟩, 0, [rowI none 0 []], h3.sel [3, 1, 2, 0] 99 (by decide) (by decide), ⟨⟨by simp [zSS, zTri], by simp [zSS, zTri], by simp [zSS, zTri]⟩, fun e h => by cases h⟩, ⟨by simp [zSS, zTri], by simp [zSS, zTri], by simp [zSS, zTri]⟩⟩
theorem sesI_start {w w1 : World} {t : Tri} {A1 A2 A3 : Option Addr} {c1 c2 c3 g8 : Nat} {l8 : List Value} {T8 : TypeId} (h : Kn w [.blk (w.heap.size + 1 + 1) [.int .i64 t.a.base, .slice A1 t.a.digits.length c1, .int .i64 t.b.base, .slice A2 t.b.digits.length c2, .int .i64 t.s.base, .slice A3 t.s.digits.length c3, .int .i64 t.carry, .int .i64 t.a.base, .slice A1 t.a.digits.length c1, .int .i64 t.b.base, .slice A2 t.b.digits.length c2, .int .i64 t.s.base, .slice A3 t.s.digits.length c3, .int .i64 t.carry, .slice (some ⟨w.heap.size, 0, none⟩) 0 0, .slice (some ⟨w.heap.size + 1, 0, none⟩) 0 0, .bool false] 86, .blk g8 l8 T8, rowI A3 c3 t.s.digits, rowI A2 c2 t.b.digits, rowI A1 c1 t.a.digits, .blk (w.heap.size + 1) [] 2, .blk w.heap.size [] 2] w1) : SesI [] w (w.heap.size + 1 + 1) ⟨t, t, [], [], false⟩ w1 := by
  have h1 := (h.front 5 rfl).litRow (n := 0) (size := 1) rfl (by decide)
  have h2 := (h1.front 6 rfl).litRow (n := 0) (size := 1) rfl (by decide)
  exact ⟨A1, c1, A2, c2, A3, c3, A1, c1, A2, c2, A3, c3, some ⟨w.heap.size, 0, none⟩, 0, some ⟨w.heap.size + 1, 0, none⟩, 0, [rowI A3 c3 t.s.digits, rowI A2 c2 t.b.digits, rowI A1 c1 t.a.digits], h2.sel [2, 0, 1, 4, 5, 6] 99 (by decide) (by decide), ⟨⟨by simp, by simp, by simp⟩, fun e h => by cases h⟩, ⟨by simp, by simp, by simp⟩⟩
theorem SesI.below {F : List Ent} {w0 w : World} {g : Nat} {s : SS} (h : SesI F w0 g s w) : Below w0.heap.size w0 w := by
  obtain ⟨U1, u1, U2, u2, U3, u3, A1, c1, A2, c2, A3, c3, SA, sc, BA, bc, m, hK, -, -⟩ := h
  exact hK.below
theorem SesI.endedAt {F : List Ent} {w0 w : World} {g : Nat} {s : SS} (h : SesI F w0 g s w) : w.cell? ⟨g, 16, none⟩ = some (.bool s.ended) := by
  obtain ⟨U1, u1, U2, u2, U3, u3, A1, c1, A2, c2, A3, c3, SA, sc, BA, bc, m, hK, -, -⟩ := h
  exact hK.blkAt.1 16
set_option maxRecDepth 100000 in
set_option maxHeartbeats 6400000 in
theorem runSession_any (A : Option Addr) (n c : Nat) (ss : List ByteArray) (w : World) (hr : RL StrM 1 w A n ss) (hn : n ≤ 100) (hsz : ∀ s ∈ ss, s.size ≤ 1048576) (ht : TB w) :
    Calls Tryz.prog 64 #[.slice A n c] w fun e w' => ∃ g, e = .returned (.tuple #[.pointer (some ⟨g, 0, none⟩), .int .i64 (runS (ss.map strB)).2.1, .int .i64 (runS (ss.map strB)).2.2]) ∧ SesI [] w g (runS (ss.map strB)).1 w' := by
  have hl := hr.1
  obtain ⟨RES, hRES⟩ : ∃ r, runS (ss.map strB) = r := ⟨_, rfl⟩
  rw [hRES]
  have HRES := Lib.hid hRES
  clear hRES
  have HR := Lib.hid (fun W (hW : Below w.heap.size w W) => hr.below steady_StrM hW)
  have HTB := Lib.hid (fun W (hW : Below w.heap.size w W) => TB.below ht hW)
  have HZ := Lib.hid hsz
  have HT := Lib.hid ht
  have hK0 := (((Kn.nil w).al [] 2).al [] 2).al [.int .i64 0, .slice none 0 0, .int .i64 0, .slice none 0 0, .int .i64 0, .slice none 0 0, .int .i64 0, .int .i64 0, .slice none 0 0, .int .i64 0, .slice none 0 0, .int .i64 0, .slice none 0 0, .int .i64 0, .slice (some ⟨w.heap.size, 0, none⟩) 0 0, .slice (some ⟨w.heap.size + 1, 0, none⟩) 0 0, .bool false] 86
  simp only [World.size_alloc] at hK0
  clear hsz hr ht
  match ss, hl with
  | [], hl =>
    have hn0 : n = 0 := hl.symm
    subst hn0
    have HQ := Lib.hid (show RES = (zSS, 0, 1) by rw [← HRES.out]; rfl)
    go_enter Tryz.func64, Tryz.ntmps64
    go_wp2_with fail
    refine bodyPost.kn hK0 ?_; intro w1 hK1
    go_ret3
    rw [HQ.out]
    exact ⟨_, rfl, sesI_zero hK1⟩
  | L :: tl, hl =>
    have hL := HZ.out L (List.mem_cons_self ..)
    have hn0 : 0 < n := by rw [← hl]; simp
    have hn1 : ((n : Int) == 0) = false := by rw [beq_eq_false_iff_ne]; omega
    have hn2 : (0 : Int) < (n : Int) := by omega
    obtain ⟨R, hR⟩ : ∃ R, restB startW L = R := ⟨_, rfl⟩
    obtain ⟨okb, hokb⟩ : ∃ b, begins startB (strB L) = b := ⟨_, rfl⟩
    have hRs : R.size ≤ 1048576 := by
      rw [← hR]; unfold restB; split
      · rw [extract_size]; omega
      · decide
    have HBH := (fun W => behind_any L startW W (by omega) (by decide))
    rw [hR, show begins (strB startW) (strB L) = okb from hokb] at HBH
    have HRM := (fun W hW => ReadMachine_any R W hRs hW)
    obtain ⟨t, htr⟩ : ∃ t, rdMach (strB R) = t := ⟨_, rfl⟩
    obtain ⟨rd, hrd⟩ : ∃ b, (rdM (strB R)).isSome = b := ⟨_, rfl⟩
    rw [htr, hrd] at HRM
    have HOK := Lib.hid (show startOk (strB L) = (okb && rd) by
      unfold startOk
      rw [hokb]
      cases okb
      · rfl
      · rw [← hrd, ← hR, restB_yes (p := startW) hokb]
        show (true && _) = _
        rw [show startW.size = 6 from rfl, strB_drop])
    have HST := Lib.hid (show okb = true → t = rdMach ((strB L).drop 6) from fun h => by
      rw [← htr, ← hR, restB_yes (p := startW) (hokb.trans h), show startW.size = 6 from rfl, strB_drop])
    replace HBH := Lib.hid HBH
    replace HRM := Lib.hid HRM
    have HGT := Lib.hid (show rd = true → vmach t = true from fun h => by rw [← htr]; exact rdm_good (hrd.trans h))
    have HL := Lib.hid hl
    clear hR hokb htr hrd hl
    go_enter Tryz.func64, Tryz.ntmps64
    go_upto_region 2 with fail
    refine Code.wp.kn hK0 ?_; intro w1 hK1
    obtain ⟨ad, hA, hlt, hkl, hx⟩ := (HR.out w1 hK1.below).at_ hn0
    have hx0 : w1.cell? ad = some (.string L) := by have h : w1.cell? (ad.add (0 * 1)) = some (.string L) := hx; rw [show ad.add (0 * 1) = ad from by cases ad; simp [Addr.add]] at h; exact h
    subst hA
    clear hK0 hx hkl
    go_wp2_with fail
    refine (HBH.out _).mono ?_; rintro e w2 ⟨rfl, rfl⟩
    go_wp2_with fail
    refine (HRM.out _ (HTB.out _ hK1.below)).mono ?_; rintro e w3 ⟨A1, c1, A2, c2, A3, c3, rfl, hKn⟩
    have hK2 := hK1.join hKn
    clear hK1 hKn hx0
    obtain ⟨a1, a2, a3, -⟩ := hK2.cells
    rcases hok : (okb && rd) with _ | _
    · have HQ : Hid (RES = (zSS, 0, 1)) := by
        simp only [Hid]
        rw [← HRES.out, List.map_cons, runS_cons, HOK.out, hok, if_neg (by decide)]
      have hK3 := (hK2.sel [3, 4, 5] 99 (by decide) (by decide)).al_ (.cells #[.int .i64 t.a.base, .slice A1 t.a.digits.length c1, .int .i64 t.b.base, .slice A2 t.b.digits.length c2, .int .i64 t.s.base, .slice A3 t.s.digits.length c3, .int .i64 t.carry] 32)
      clear hK2
      rcases okb with _ | _
      · go_wp2_with fail
        go_ret3
        rw [HQ.out]
        exact ⟨_, rfl, sesI_zero hK3⟩
      · rcases rd with _ | _
        · go_wp2_with fail
          go_ret3
          rw [HQ.out]
          exact ⟨_, rfl, sesI_zero hK3⟩
        · cases hok
    · obtain ⟨rfl, rfl⟩ : okb = true ∧ rd = true := by simpa using hok
      have HQ : Hid (RES = goS ⟨t, t, [], [], false⟩ 1 (tl.map strB)) := by
        simp only [Hid]
        rw [← HRES.out, List.map_cons, runS_cons, HOK.out, if_pos (by decide), ← HST.out rfl]
      have hvt := HGT.out rfl
      clear hok
      go_upto_region 8 with fail
      refine Code.wp.kn (hK2.al [.int .i64 t.a.base, .slice A1 t.a.digits.length c1, .int .i64 t.b.base, .slice A2 t.b.digits.length c2, .int .i64 t.s.base, .slice A3 t.s.digits.length c3, .int .i64 t.carry] 32) ?_; intro w4 hK4
      obtain ⟨g8, hg8⟩ : ∃ g, w3.heap.size = g := ⟨_, rfl⟩
      rw [hg8] at hK4 ⊢
      clear hg8 hK2 a1 a2 a3
      obtain ⟨b1, b2, b3, a1, a2, a3, -⟩ := hK4.cells
      have HG := Lib.hid (box7at hK4.drew 0 rfl)
      have hKa := (((((((hK4.front 4 rfl).st 0 (.int .i64 t.a.base)).st 1 (.slice A1 t.a.digits.length c1)).st 2 (.int .i64 t.b.base)).st 3 (.slice A2 t.b.digits.length c2)).st 4 (.int .i64 t.s.base)).st 5 (.slice A3 t.s.digits.length c3)).st 6 (.int .i64 t.carry)
      have HA := Lib.hid (box7at hKa.drew 1 rfl)
      have hKb := ((((((hKa.st 7 (.int .i64 t.a.base)).st 8 (.slice A1 t.a.digits.length c1)).st 9 (.int .i64 t.b.base)).st 10 (.slice A2 t.b.digits.length c2)).st 11 (.int .i64 t.s.base)).st 12 (.slice A3 t.s.digits.length c3)).st 13 (.int .i64 t.carry)
      have HS := Lib.hid (box7at hKb.drew 1 rfl)
      go_region_held3 (fun W => W.cell? ⟨g8, 0, none⟩ = some (.int .i64 t.a.base) ∧ W.cell? ⟨g8, 1, none⟩ = some (.slice A1 t.a.digits.length c1) ∧ W.cell? ⟨g8, 2, none⟩ = some (.int .i64 t.b.base) ∧ W.cell? ⟨g8, 3, none⟩ = some (.slice A2 t.b.digits.length c2) ∧ W.cell? ⟨g8, 4, none⟩ = some (.int .i64 t.s.base) ∧ W.cell? ⟨g8, 5, none⟩ = some (.slice A3 t.s.digits.length c3) ∧ W.cell? ⟨g8, 6, none⟩ = some (.int .i64 t.carry))
        (first | with_reducible exact HG.out | with_reducible exact HA.out | with_reducible exact HS.out) (fail)
      all_goals
        clear HG HA HS b1 b2 b3 a1 a2 a3
        go_upto_region 9 with fail
        refine Code.wp.kn hKb.drew ?_; intro w5 hK5
        have hS0 := sesI_start hK5
        have hg0 : (SS.mk t t [] [] false).Good 1 := ⟨hvt, hvt, by simp, by simp⟩
        obtain ⟨RR, hRR⟩ : ∃ r, goS ⟨t, t, [], [], false⟩ 1 (tl.map strB) = r := ⟨_, rfl⟩
        rw [hRR] at HQ
        clear hKa hKb hK4 hK5
        go_wp2_with fail
        go_loopw [10, 11] (fun ii _ wr => ∃ (k : Nat) (s : SS), 1 ≤ k ∧ k ≤ n ∧ ii = .int .i64 k ∧ SesI [] w (w.heap.size + 1 + 1) s wr ∧ s.Good k ∧ goS s k (((L :: tl).map strB).drop k) = RR) (fun ii _ _ => n - (intOf ii).toNat)
        case atStart => exact ⟨1, _, Nat.le_refl _, hn0, rfl, hS0, hg0, hRR⟩
        case round =>
          clear hS0 hg0 hRR
          obtain ⟨k, s, k1, kn, rfl, hS, hg, hgo⟩ := hrel
          have hb := hS.below
          by_cases hkn : k < n
          · obtain ⟨ad', hA, hlt', hkl, hx⟩ := (HR.out wr hb).at_ hkn
            have hx0 : wr.cell? (ad'.add k) = some (.string (L :: tl)[k]) := by have h : wr.cell? (ad'.add (k * 1)) = some (.string (L :: tl)[k]) := hx; rw [Nat.mul_one] at h; exact h
            have hLk := HZ.out _ (List.getElem_mem hkl)
            have hdr : ((L :: tl).map strB).drop k = strB (L :: tl)[k] :: ((L :: tl).map strB).drop (k + 1) := by
              rw [List.drop_eq_getElem_cons (by rw [List.length_map]; exact hkl), List.getElem_map]
            obtain ⟨Lk, hLe⟩ : ∃ x, (L :: tl)[k] = x := ⟨_, rfl⟩
            rw [hLe] at hx0 hLk hdr
            rw [hdr, goS_cons] at hgo
            injection hA with hA
            subst hA
            have hgn := lineS_good (i := k) (bs := strB Lk) hg
            have KL := (lineI_any s k Lk wr hS hg (by omega) hLk HT.out)
            obtain ⟨⟨s', cd⟩, hls⟩ : ∃ r, lineS s k (strB Lk) = r := ⟨_, rfl⟩
            rw [hls] at KL hgo hgn
            have KL := Lib.hid KL
            have HGO := Lib.hid hgo
            have HGN := Lib.hid hgn
            have hi0 : (0 : Int) ≤ (k : Int) := by omega
            have hi1 : (k : Int) < (n : Int) := by omega
            clear hls hgo hgn hS hg hx hLe hdr
            rcases hcd : (cd == 0) with _ | _
            · go_wp2_with fail
              refine KL.out.mono ?_; rintro e w6 ⟨rfl, hS6⟩
              go_wp2_with fail
              go_ret3
              have h1 := HGO.out
              rw [if_pos (by simpa using hcd)] at h1
              rw [HQ.out, ← h1]
              exact ⟨_, rfl, hS6⟩
            · obtain rfl : cd = 0 := by simpa using hcd
              go_wp2_with fail
              refine KL.out.mono ?_; rintro e w6 ⟨rfl, hS6⟩
              go_wp2_with fail
              go_roundw
              case rel =>
                have h1 := HGO.out
                rw [if_neg (by simp)] at h1
                exact ⟨k + 1, s', by omega, by omega, by go_num, hS6, HGN.out, h1⟩
              case measure => simp [intOf]; omega
          · obtain rfl : k = n := by omega
            have hi1 : ¬ (k : Int) < (k : Int) := by omega
            rw [List.drop_eq_nil_of_le (by rw [List.length_map]; have := HL.out; omega), goS_nil] at hgo
            have he := hS.endedAt
            have HGO := Lib.hid hgo
            have HS := Lib.hid hS
            clear hgo hS
            rcases hen : s.ended with _ | _
            · rw [hen] at he
              go_wp2_with fail
              go_ret3
              have h1 := HGO.out
              rw [hen, if_neg (by decide)] at h1
              rw [HQ.out, ← h1]
              exact ⟨_, rfl, HS.out⟩
            · rw [hen] at he
              go_wp2_with fail
              go_ret3
              have h1 := HGO.out
              rw [hen, if_pos rfl] at h1
              rw [HQ.out, ← h1]
              exact ⟨_, rfl, HS.out⟩
end Go.Proofs.YtmmiahgmdllgdaaGreatDoor

namespace Go.Proofs.YtmmiahgmdllgdaaGreatDoor
open Go.RowKit Go.Sort
theorem box7p {w0 w : World} {m : List Ent} {g : Nat} {v0 v1 p0 p1 p2 p3 p4 p5 p6 : Value} {l : List Value} {T : TypeId} (h : Kn w0 (.blk g (p0 :: p1 :: p2 :: p3 :: p4 :: p5 :: p6 :: v0 :: v1 :: l) T :: m) w) : w.cell? ⟨g, 7, none⟩ = some v0 ∧ w.cell? ⟨g, 8, none⟩ = some v1 := ⟨h.blkAt.1 7, h.blkAt.1 8⟩
theorem l10PlacesK7 {w0 : World} {m : List Ent} {rest : List Value} {p0 p1 p2 p3 p4 p5 p6 : Value} {T : TypeId} {g : Nat} (t : Tri) (A1 A2 A3 : Option Addr) (c1 c2 c3 : Nat) (w : World) (hK : Kn w0 (.blk g (p0 :: p1 :: p2 :: p3 :: p4 :: p5 :: p6 :: .int .i64 t.a.base :: .slice A1 t.a.digits.length c1 :: .int .i64 t.b.base :: .slice A2 t.b.digits.length c2 :: .int .i64 t.s.base :: .slice A3 t.s.digits.length c3 :: .int .i64 t.carry :: rest) T :: m) w) (h1 : t.a.digits.length ≤ 16) (h2 : t.b.digits.length ≤ 16) (_h3 : t.s.digits.length ≤ 16) :
    Calls Tryz.prog 182 #[.pointer (some ⟨g, 7, none⟩)] w fun e w' => e = .returned (.int .i64 (vplaces t)) ∧ ∃ q, w' = w.drewN q := by
  obtain ⟨a1, a2, a3⟩ := hK.blkAt
  clear hK
  go_enter Tryz.func182, Tryz.ntmps182
  go_wp2_with fail
  go_quiet ((go_at_call 221; exact quiet_left (l00Min_any _ _ _)))
  go_wp2
  go_ret
  exact ⟨ret_int (by unfold vplaces; omega), _, rfl⟩
set_option maxHeartbeats 1600000 in
theorem l10ShiftK7 {w0 : World} {m : List Ent} {rest : List Value} {p0 p1 p2 p3 p4 p5 p6 : Value} {T : TypeId} {g : Nat} (t : Tri) (A1 A2 A3 : Option Addr) (c1 c2 c3 : Nat) (by_ : Int) (w : World) (hK : Kn w0 (.blk g (p0 :: p1 :: p2 :: p3 :: p4 :: p5 :: p6 :: .int .i64 t.a.base :: .slice A1 t.a.digits.length c1 :: .int .i64 t.b.base :: .slice A2 t.b.digits.length c2 :: .int .i64 t.s.base :: .slice A3 t.s.digits.length c3 :: .int .i64 t.carry :: rest) T :: m) w) (hv : vmach t = true) (hb : by_ = 1 ∨ by_ = -1) :
    Calls Tryz.prog 186 #[.pointer (some ⟨g, 7, none⟩), .int .i64 by_] w fun e w' => 
      (betB (t.carry + by_) 0 (vplaces t - 1) = true → e = .returned (.bool false) ∧ Kn w0 (.blk g (p0 :: p1 :: p2 :: p3 :: p4 :: p5 :: p6 :: .int .i64 t.a.base :: .slice A1 t.a.digits.length c1 :: .int .i64 t.b.base :: .slice A2 t.b.digits.length c2 :: .int .i64 t.s.base :: .slice A3 t.s.digits.length c3 :: .int .i64 (t.carry + by_) :: rest) T :: m) w') ∧ (betB (t.carry + by_) 0 (vplaces t - 1) = false → e = .returned (.bool true) ∧ Kn w0 (.blk g (p0 :: p1 :: p2 :: p3 :: p4 :: p5 :: p6 :: .int .i64 t.a.base :: .slice A1 t.a.digits.length c1 :: .int .i64 t.b.base :: .slice A2 t.b.digits.length c2 :: .int .i64 t.s.base :: .slice A3 t.s.digits.length c3 :: .int .i64 t.carry :: rest) T :: m) w') := by
  obtain ⟨k1, k2, k3, e1, e2, f1, f2, l1, y0, y1⟩ := vmach_all hv
  obtain ⟨-, ⟨n1, n2⟩, -, -⟩ := vreg_iff.1 k1
  obtain ⟨-, ⟨n3, n4⟩, -, -⟩ := vreg_iff.1 k2
  obtain ⟨-, ⟨n5, n6⟩, -, -⟩ := vreg_iff.1 k3
  have hp1 : -16 ≤ vplaces t ∧ vplaces t ≤ 16 := by unfold vplaces; omega
  have KP := Lib.hid (fun W (h : Kn w0 (.blk g (p0 :: p1 :: p2 :: p3 :: p4 :: p5 :: p6 :: .int .i64 t.a.base :: .slice A1 t.a.digits.length c1 :: .int .i64 t.b.base :: .slice A2 t.b.digits.length c2 :: .int .i64 t.s.base :: .slice A3 t.s.digits.length c3 :: .int .i64 t.carry :: rest) T :: m) W) => l10PlacesK7 t A1 A2 A3 c1 c2 c3 W h n2 n4 n6)
  have hw := wrapI64 (n := t.carry + by_) (by omega)
  have hw2 := wrapI64 (n := vplaces t - 1) (by omega)
  obtain ⟨P, hP⟩ : ∃ P, vplaces t = P := ⟨_, rfl⟩
  rw [hP] at KP hw2 hp1 y1 ⊢
  obtain ⟨a1, a2, a3⟩ := hK.blkAt
  clear k1 k2 k3 f1 f2 l1 n1 n2 n3 n4 n5 n6 hP e1 e2 hv
  rcases hbt : betB (t.carry + by_) 0 (P - 1) with _ | _
  · have KI := Lib.hid (fun W => calls_val (l00In_any (t.carry + by_) 0 (P - 1) W) (congrArg Value.bool hbt))
    clear hbt
    go_enter Tryz.func186, Tryz.ntmps186
    go_wp2_with fail
    go_quiet ((first | (go_at_call 182; first | exact quiet_of_ex (KP.out _ (hK.drewN _)) | exact quiet_add_ex (KP.out _ (hK.drewN _))) | (go_at_call 81; first | exact quiet_left (KI.out _) | exact quiet_add_left (KI.out _))))
    go_wp2_with fail
    go_ret
    exact ⟨(fun h => by cases h), fun _ => ⟨rfl, hK.drewN _⟩⟩
  · have KI := Lib.hid (fun W => calls_val (l00In_any (t.carry + by_) 0 (P - 1) W) (congrArg Value.bool hbt))
    clear hbt
    go_enter Tryz.func186, Tryz.ntmps186
    go_wp2_with fail
    go_quiet ((first | (go_at_call 182; first | exact quiet_of_ex (KP.out _ (hK.drewN _)) | exact quiet_add_ex (KP.out _ (hK.drewN _))) | (go_at_call 81; first | exact quiet_left (KI.out _) | exact quiet_add_left (KI.out _))))
    go_wp2_with fail
    go_ret
    exact ⟨fun _ => ⟨rfl, (hK.drewN _).st 13 _⟩, (fun h => by cases h)⟩
/-- the machine in block g, and its numbers -/
def MB7 (w0 : World) (g : Nat) (p0 p1 p2 p3 p4 p5 p6 : Value) (rest : List Value) (T : TypeId) (k : Tri) (m : List Ent) (w : World) : Prop := ∃ B1 d1 B2 d2 B3 d3, Kn w0 (.blk g (p0 :: p1 :: p2 :: p3 :: p4 :: p5 :: p6 :: .int .i64 k.a.base :: .slice B1 k.a.digits.length d1 :: .int .i64 k.b.base :: .slice B2 k.b.digits.length d2 :: .int .i64 k.s.base :: .slice B3 k.s.digits.length d3 :: .int .i64 k.carry :: rest) T :: rowI B3 d3 k.s.digits :: rowI B2 d2 k.b.digits :: rowI B1 d1 k.a.digits :: m) w
set_option maxRecDepth 100000 in
set_option maxHeartbeats 1600000 in
theorem l10TurnK7 {w0 : World} {m : List Ent} {rest : List Value} {p0 p1 p2 p3 p4 p5 p6 : Value} {T : TypeId} {g : Nat} (t : Tri) (sign : Int) (w : World) (hM : MB7 w0 g p0 p1 p2 p3 p4 p5 p6 rest T t m w) (hv : vmach t = true) (hs : sign = 1 ∨ sign = -1) :
    Calls Tryz.prog 185 #[.pointer (some ⟨g, 7, none⟩), .int .i64 sign] w fun e w' => e = .returned (.bool (turnT t sign).2) ∧ MB7 w0 g p0 p1 p2 p3 p4 p5 p6 rest T (turnT t sign).1 m w' := by
  obtain ⟨A1, c1, A2, c2, A3, c3, hK⟩ := hM
  obtain ⟨k1, k2, k3, e1, e2, f1, f2, l1, y0, y1⟩ := vmach_all hv
  obtain ⟨u1, u2, u3, u4⟩ := turn_bd hv
  obtain ⟨⟨b1, b2⟩, ⟨n1, n2⟩, hd1, -⟩ := vreg_iff.1 k1
  obtain ⟨⟨b3, b4⟩, ⟨n3, n4⟩, hd2, -⟩ := vreg_iff.1 k2
  obtain ⟨⟨b5, b6⟩, ⟨n5, n6⟩, hd3, -⟩ := vreg_iff.1 k3
  have HT := Lib.hid (show turnT t sign = (⟨t.a, ⟨t.b.base, shiftD t.b.base t.b.digits (sign * (valL t.a.base t.a.digits * pw t.b.base t.carry.toNat))⟩, ⟨t.s.base, shiftD t.s.base t.s.digits (sign * pw t.b.base t.carry.toNat)⟩, t.carry⟩, shiftB t.b.base t.b.digits (sign * (valL t.a.base t.a.digits * pw t.b.base t.carry.toNat))) from rfl)
  have KP := (fun W => l10Power_any t.a.base t.carry.toNat W b1 b2 (by unfold vplaces at y1; omega))
  have hpc : powS t.a.base t.carry.toNat = pw t.b.base t.carry.toNat := by rw [e1]; unfold powS; omega
  rw [hpc, show ((t.carry.toNat : Nat) : Int) = t.carry by omega] at KP
  have KV := (fun W (hW : Kn w0 (.blk g (p0 :: p1 :: p2 :: p3 :: p4 :: p5 :: p6 :: .int .i64 t.a.base :: .slice A1 t.a.digits.length c1 :: .int .i64 t.b.base :: .slice A2 t.b.digits.length c2 :: .int .i64 t.s.base :: .slice A3 t.s.digits.length c3 :: .int .i64 t.carry :: rest) T :: rowI A3 c3 t.s.digits :: rowI A2 c2 t.b.digits :: rowI A1 c1 t.a.digits :: m) W) => l02Value_any t.a.base A1 t.a.digits.length c1 t.a.digits W b1 b2 hd1 hW.drop.drop.drop.riv n2)
  obtain ⟨U, hU⟩ : ∃ U, pw t.b.base t.carry.toNat = U := ⟨_, rfl⟩
  obtain ⟨V, hV⟩ : ∃ V, valL t.a.base t.a.digits = V := ⟨_, rfl⟩
  rw [hU] at KP HT u1 u2 u3 u4
  rw [hV] at KV HT u3 u4
  obtain ⟨X, hX⟩ : ∃ X, sign * (V * U) = X := ⟨_, rfl⟩
  obtain ⟨Y, hY⟩ : ∃ Y, sign * U = Y := ⟨_, rfl⟩
  rw [hX, hY] at HT
  have hXb : -1000000000001 ≤ X ∧ X ≤ 1000000000001 := by rcases hs with rfl | rfl <;> omega
  have hYb : -1000000000001 ≤ Y ∧ Y ≤ 1000000000001 := by rcases hs with rfl | rfl <;> omega
  have hYX : Y * V = X := by rw [← hX, ← hY, Int.mul_assoc, Int.mul_comm U V]
  have w1' : IntKind.i64.wrap (sign * U) = Y := by rw [hY]; exact wrapI64 (by omega)
  have w2' : IntKind.i64.wrap (Y * V) = X := by rw [hYX]; exact wrapI64 (by omega)
  have KM2 := (fun W (hW : Kn w0 (.blk g (p0 :: p1 :: p2 :: p3 :: p4 :: p5 :: p6 :: .int .i64 t.a.base :: .slice A1 t.a.digits.length c1 :: .int .i64 t.b.base :: .slice A2 t.b.digits.length c2 :: .int .i64 t.s.base :: .slice A3 t.s.digits.length c3 :: .int .i64 t.carry :: rest) T :: rowI A3 c3 t.s.digits :: rowI A2 c2 t.b.digits :: rowI A1 c1 t.a.digits :: m) W) => l10Move_any ⟨g, 9, none⟩ t.b.base A2 c2 t.b.digits X W ⟨hW.blkAt.1 9, hW.blkAt.1 10⟩ hW.drop.drop.riv k2 f1 hXb.1 hXb.2)
  have KM3 := (fun W (hW : Kn w0 (.blk g (p0 :: p1 :: p2 :: p3 :: p4 :: p5 :: p6 :: .int .i64 t.a.base :: .slice A1 t.a.digits.length c1 :: .int .i64 t.b.base :: .slice A2 t.b.digits.length c2 :: .int .i64 t.s.base :: .slice A3 t.s.digits.length c3 :: .int .i64 t.carry :: rest) T :: rowI A3 c3 t.s.digits :: rowI A2 c2 t.b.digits :: rowI A1 c1 t.a.digits :: m) W) => l10Move_any ⟨g, 11, none⟩ t.s.base A3 c3 t.s.digits Y W ⟨hW.blkAt.1 11, hW.blkAt.1 12⟩ hW.drop.riv k3 f2 hYb.1 hYb.2)
  obtain ⟨es, hes⟩ : ∃ es, shiftD t.b.base t.b.digits X = es := ⟨_, rfl⟩
  obtain ⟨fs, hfs⟩ : ∃ fs, shiftD t.s.base t.s.digits Y = fs := ⟨_, rfl⟩
  obtain ⟨bell, hbl⟩ : ∃ e, shiftB t.b.base t.b.digits X = e := ⟨_, rfl⟩
  obtain ⟨bell2, hbl2⟩ : ∃ e, shiftB t.s.base t.s.digits Y = e := ⟨_, rfl⟩
  rw [hes, hbl] at KM2
  rw [hfs, hbl2] at KM3
  rw [hes, hfs, hbl] at HT
  rw [HT.out]
  have KP := Lib.hid KP
  have KV := Lib.hid KV
  have KM2 := Lib.hid KM2
  have KM3 := Lib.hid KM3
  have HW1 := Lib.hid w1'
  have HW2 := Lib.hid w2'
  have HY := Lib.hid hY
  have hYo : -9223372036854775808 ≤ sign * U ∧ sign * U ≤ 9223372036854775807 := by rw [hY]; omega
  have hXo : -9223372036854775808 ≤ sign * U * V ∧ sign * U * V ≤ 9223372036854775807 := by rw [hY, hYX]; omega
  clear hpc hU hV hX hY hYX w1' w2' hes hfs hbl hbl2 hd1 hd2 hd3 hv k1 k2 k3 e1 e2 hs
  obtain ⟨a1, a2, a3⟩ := hK.blkAt
  go_enter Tryz.func185, Tryz.ntmps185
  go_wp2_with fail
  go_quiet ((go_at_call 183; exact quiet_left (KP.out _)))
  have hK1 := hK.drewN nq
  generalize w.drewN nq = w1 at hK1 ⊢
  clear hK a1 a2 a3
  obtain ⟨a1, a2, a3⟩ := hK1.blkAt
  go_wp2_with fail
  have HG := Lib.hid (box7p hK1.drew)
  have HA := Lib.hid (box7p (hK1.al [.int .i64 0, .slice none 0 0] 30).drew.drop)
  have HS := HG
  go_cut [6, 7] (fun pp oo wx => ∃ (g6 : Nat) (A' : Option Addr) (c' : Nat), pp = .pointer (some ⟨g6, 0, none⟩) ∧ oo = .bool bell ∧ Kn w0 (.blk g6 [.int .i64 t.b.base, .slice A' es.length c'] 30 :: rowI A' c' es :: .blk g (p0 :: p1 :: p2 :: p3 :: p4 :: p5 :: p6 :: .int .i64 t.a.base :: .slice A1 t.a.digits.length c1 :: .int .i64 t.b.base :: .slice A2 t.b.digits.length c2 :: .int .i64 t.s.base :: .slice A3 t.s.digits.length c3 :: .int .i64 t.carry :: rest) T :: rowI A3 c3 t.s.digits :: rowI A2 c2 t.b.digits :: rowI A1 c1 t.a.digits :: m) wx)
  case first =>
    go_region_held3 (fun W => W.cell? ⟨g, 7, none⟩ = some (.int .i64 t.a.base) ∧ W.cell? ⟨g, 8, none⟩ = some (.slice A1 t.a.digits.length c1))
      (first | with_reducible exact HG.out | with_reducible exact HA.out | with_reducible exact HS.out | exact HG.out | exact HA.out | exact HS.out) (first
      | (go_at_call 223; first | ((with_reducible refine (KV.out _ hK1.drew).mono ?_); rintro e w7 ⟨rfl, rfl⟩) | ((with_reducible refine (KV.out _ (hK1.al [.int .i64 0, .slice none 0 0] 30).drew.drop).mono ?_); rintro e w7 ⟨rfl, rfl⟩))
      | (go_at_call 222; rw [HW1.out, HW2.out]; clear HG HA; first
        | ((with_reducible refine (KM2.out _ hK1.drew).mono ?_); rintro e w4 ⟨A', c', rfl, hK⟩; have hK4 := hK1.drew.join hK; have HG := Lib.hid (box7p hK4.drop); have HA := Lib.hid (box7p (hK4.al [.int .i64 0, .slice none 0 0] 30).drop.drop); have hK5 := hK4.al [.int .i64 t.b.base, .slice A' es.length c'] 30; have HS := Lib.hid (box7p hK5.drop.drop))
        | ((refine (KM2.out _ (hK1.al [.int .i64 0, .slice none 0 0] 30).drew.drop).mono ?_); rintro e w4 ⟨A', c', rfl, hK⟩; have hK4 := (hK1.al [.int .i64 0, .slice none 0 0] 30).drew.join hK; have HG := Lib.hid (box7p hK4.drop.drop); obtain ⟨g1, f1, l1⟩ := hK4.drop.blkAt; have HA := HG; have hK5 := (hK4.sw1.st 0 (.int .i64 t.b.base)).st 1 (.slice A' es.length c'); have HS := Lib.hid (box7p hK5.drop.drop))))
    all_goals
      go_wp2_with fail
      go_meet
      exact ⟨_, _, _, rfl, rfl, hK5⟩
  case rest =>
    obtain ⟨g6, A', c', rfl, rfl, hK5⟩ := hcut
    clear HG HA HS KP KV KM2 hK1 a1 a2 a3
    obtain ⟨x1, x2, x3, a1, a2, a3, -⟩ := hK5.cells
    go_wp2_with fail
    rw [HY.out]
    refine (KM3.out _ hK5.drop.drop).mono ?_; rintro e w4 ⟨A2', c2', rfl, hK⟩
    have hK6 := hK5.join hK
    clear x1 x2 x3 a1 a2 a3
    obtain ⟨x1, x2, x3, a1, a2, a3, -⟩ := hK6.cells
    have hK7 := ((((hK6.sw3.st 9 (.int .i64 t.b.base)).st 10 (.slice A' es.length c')).st 11 (.int .i64 t.s.base)).st 12 (.slice A2' fs.length c2')).al [.int .i64 t.s.base, .slice A2' fs.length c2'] 30
    go_wp2_with fail
    go_ret
    refine ⟨rfl, A1, c1, A', c', A2', c2', ?_⟩
    refine Kn.only hK7 (by repeat (first | exact List.Sublist.refl _ | apply List.Sublist.cons_cons | apply List.Sublist.cons))
theorem MB7.congr {w0 w : World} {g : Nat} {rest : List Value} {p0 p1 p2 p3 p4 p5 p6 : Value} {T : TypeId} {k k' : Tri} {m : List Ent} (h : MB7 w0 g p0 p1 p2 p3 p4 p5 p6 rest T k m w) (e : k = k') : MB7 w0 g p0 p1 p2 p3 p4 p5 p6 rest T k' m w := e ▸ h
theorem l10ShiftM7 {w0 : World} {m : List Ent} {rest : List Value} {p0 p1 p2 p3 p4 p5 p6 : Value} {T : TypeId} {g : Nat} (t : Tri) (k by_ : Int) (w : World) (hM : MB7 w0 g p0 p1 p2 p3 p4 p5 p6 rest T t m w) (hv : vmach t = true) (hb : (k = 3 ∧ by_ = 1) ∨ (k = 4 ∧ by_ = -1)) :
    Calls Tryz.prog 186 #[.pointer (some ⟨g, 7, none⟩), .int .i64 by_] w fun e w' => e = .returned (.bool (strokeT k t).2) ∧ MB7 w0 g p0 p1 p2 p3 p4 p5 p6 rest T (strokeT k t).1 m w' := by
  obtain ⟨A1, c1, A2, c2, A3, c3, hK⟩ := hM
  obtain ⟨-, -, -, -, -, -, -, -, y0, y1⟩ := vmach_all hv
  refine (l10ShiftK7 t A1 A2 A3 c1 c2 c3 by_ w hK hv (by omega)).mono ?_
  rintro e w' ⟨h1, h2⟩
  rcases hbt : betB (t.carry + by_) 0 (vplaces t - 1) with _ | _
  · obtain ⟨rfl, hK'⟩ := h2 hbt
    have := betB_false.1 hbt
    have hs : strokeT k t = (t, true) := by
      rcases hb with ⟨rfl, rfl⟩ | ⟨rfl, rfl⟩
      · unfold strokeT; rw [if_neg (by decide), if_neg (by decide), if_pos rfl, if_pos (by omega)]
      · unfold strokeT; rw [if_neg (by decide), if_neg (by decide), if_neg (by decide), if_pos rfl, if_pos (by omega)]
    rw [hs]
    exact ⟨rfl, A1, c1, A2, c2, A3, c3, hK'⟩
  · obtain ⟨rfl, hK'⟩ := h1 hbt
    have := betB_iff.1 hbt
    have hs : strokeT k t = ({ t with carry := t.carry + by_ }, false) := by
      rcases hb with ⟨rfl, rfl⟩ | ⟨rfl, rfl⟩
      · unfold strokeT; rw [if_neg (by decide), if_neg (by decide), if_pos rfl, if_neg (by omega)]
      · unfold strokeT; rw [if_neg (by decide), if_neg (by decide), if_neg (by decide), if_pos rfl, if_neg (by omega)]; rfl
    rw [hs]
    exact ⟨rfl, A1, c1, A2, c2, A3, c3, hK'⟩
set_option maxRecDepth 100000 in
set_option maxHeartbeats 1600000 in
theorem l10DoK7 {w0 : World} {m : List Ent} {rest : List Value} {p0 p1 p2 p3 p4 p5 p6 : Value} {T : TypeId} {g : Nat} (t : Tri) (k : Int) (w : World) (hM : MB7 w0 g p0 p1 p2 p3 p4 p5 p6 rest T t m w) (hv : vmach t = true) (hk : 1 ≤ k ∧ k ≤ 6) :
    Calls Tryz.prog 144 #[.pointer (some ⟨g, 7, none⟩), .int .i64 k] w fun e w' => e = .returned (.bool (strokeT k t).2) ∧ MB7 w0 g p0 p1 p2 p3 p4 p5 p6 rest T (strokeT k t).1 m w' := by
  have hk' : k = 1 ∨ k = 2 ∨ k = 3 ∨ k = 4 ∨ k = 5 ∨ k = 6 := by omega
  clear hk
  rcases hk' with rfl | rfl | rfl | rfl | rfl | rfl
  · have KT := Lib.hid (l10TurnK7 t 1 w hM hv (.inl rfl))
    obtain ⟨r, hr⟩ : ∃ r, strokeT 1 t = r := ⟨_, rfl⟩
    have HR := Lib.hid (show turnT t 1 = r by rw [← hr]; rfl)
    rw [hr]
    clear hr hM hv
    go_enter Tryz.func144, Tryz.ntmps144
    go_wp2_with (go_at_call 185; refine KT.out.mono ?_; rw [HR.out]; rintro e w' ⟨rfl, hM⟩)
    go_ret
    exact ⟨rfl, hM⟩
  · have KT := Lib.hid (l10TurnK7 t (-1) w hM hv (.inr rfl))
    obtain ⟨r, hr⟩ : ∃ r, strokeT 2 t = r := ⟨_, rfl⟩
    have HR := Lib.hid (show turnT t (-1) = r by rw [← hr]; rfl)
    rw [hr]
    clear hr hM hv
    go_enter Tryz.func144, Tryz.ntmps144
    go_wp2_with (go_at_call 185; refine KT.out.mono ?_; rw [HR.out]; rintro e w' ⟨rfl, hM⟩)
    go_ret
    exact ⟨rfl, hM⟩
  · have KT := (l10ShiftM7 t 3 1 w hM hv (.inl ⟨rfl, rfl⟩))
    obtain ⟨r, hr⟩ : ∃ r, strokeT 3 t = r := ⟨_, rfl⟩
    rw [hr] at KT ⊢
    have KT := Lib.hid KT
    clear hr hM hv
    go_enter Tryz.func144, Tryz.ntmps144
    go_wp2_with (go_at_call 186; refine KT.out.mono ?_; rintro e w' ⟨rfl, hM⟩)
    go_ret
    exact ⟨rfl, hM⟩
  · have KT := (l10ShiftM7 t 4 (-1) w hM hv (.inr ⟨rfl, rfl⟩))
    obtain ⟨r, hr⟩ : ∃ r, strokeT 4 t = r := ⟨_, rfl⟩
    rw [hr] at KT ⊢
    have KT := Lib.hid KT
    clear hr hM hv
    go_enter Tryz.func144, Tryz.ntmps144
    go_wp2_with (go_at_call 186; refine KT.out.mono ?_; rintro e w' ⟨rfl, hM⟩)
    go_ret
    exact ⟨rfl, hM⟩
  · obtain ⟨k1, k2, k3, -⟩ := vmach_all hv
    obtain ⟨-, ⟨n3, n4⟩, -, -⟩ := vreg_iff.1 k2
    obtain ⟨-, ⟨n5, n6⟩, -, -⟩ := vreg_iff.1 k3
    have hS : strokeT 5 t = (⟨t.a, ⟨t.b.base, List.replicate t.b.digits.length 0⟩, ⟨t.s.base, List.replicate t.s.digits.length 0⟩, t.carry⟩, false) := by unfold strokeT; simp [digD_zero]
    rw [hS]
    obtain ⟨A1, c1, A2, c2, A3, c3, hK⟩ := hM
    clear hS hv k1 k2 k3
    obtain ⟨a1, a2, a3⟩ := hK.blkAt
    go_enter Tryz.func144, Tryz.ntmps144
    go_wp2_with fail
    refine (l10ZeroK (cs := (p0 :: p1 :: p2 :: p3 :: p4 :: p5 :: p6 :: .int .i64 t.a.base :: .slice A1 t.a.digits.length c1 :: .int .i64 t.b.base :: .slice A2 t.b.digits.length c2 :: .int .i64 t.s.base :: .slice A3 t.s.digits.length c3 :: .int .i64 t.carry :: rest)) (o := 9) A2 c2 t.b.digits w hK.sw2 rfl (by omega) (by omega)).mono ?_; rintro e w1 ⟨rfl, hK1⟩
    go_wp2_with fail
    refine (l10ZeroK (cs := (p0 :: p1 :: p2 :: p3 :: p4 :: p5 :: p6 :: .int .i64 t.a.base :: .slice A1 t.a.digits.length c1 :: .int .i64 t.b.base :: .slice A2 t.b.digits.length c2 :: .int .i64 t.s.base :: .slice A3 t.s.digits.length c3 :: .int .i64 t.carry :: rest)) (o := 11) A3 c3 t.s.digits w1 (hK1.sw1.sw2) rfl (by omega) (by omega)).mono ?_; rintro e w2 ⟨rfl, hK2⟩
    go_wp2_with fail
    go_ret
    refine ⟨rfl, A1, c1, A2, c2, A3, c3, ?_⟩
    simp only [List.length_replicate]
    exact hK2.sw1
  · obtain ⟨k1, k2, k3, -⟩ := vmach_all hv
    obtain ⟨-, ⟨n1, n2⟩, -, -⟩ := vreg_iff.1 k1
    have hS : strokeT 6 t = ({ t with a := ⟨t.a.base, List.replicate t.a.digits.length 0⟩ }, false) := by unfold strokeT; simp [digD_zero]
    rw [hS]
    obtain ⟨A1, c1, A2, c2, A3, c3, hK⟩ := hM
    clear hS hv k1 k2 k3
    go_enter Tryz.func144, Tryz.ntmps144
    go_wp2_with fail
    refine (l10ZeroK (cs := (p0 :: p1 :: p2 :: p3 :: p4 :: p5 :: p6 :: .int .i64 t.a.base :: .slice A1 t.a.digits.length c1 :: .int .i64 t.b.base :: .slice A2 t.b.digits.length c2 :: .int .i64 t.s.base :: .slice A3 t.s.digits.length c3 :: .int .i64 t.carry :: rest)) (o := 7) A1 c1 t.a.digits w hK.sw3 rfl (by omega) (by omega)).mono ?_; rintro e w1 ⟨rfl, hK1⟩
    go_wp2_with fail
    go_ret
    refine ⟨rfl, A1, c1, A2, c2, A3, c3, ?_⟩
    simp only [List.length_replicate]
    exact hK1.sw3.sw3.sw3
end Go.Proofs.YtmmiahgmdllgdaaGreatDoor

namespace Go.Proofs.YtmmiahgmdllgdaaGreatDoor
open Go.RowKit Go.Sort
set_option maxRecDepth 100000 in
set_option maxHeartbeats 800000 in
theorem specReadMachine_any (s : ByteArray) (w : World) (hs : s.size ≤ 1048576) :
    Calls Tryz.prog 126 #[.string s] w fun e w' => ∃ A1 c1 A2 c2 A3 c3, e = .returned (.tuple #[.agg #[.int .i64 (rdMach (strB s)).a.base, .slice A1 (rdMach (strB s)).a.digits.length c1, .int .i64 (rdMach (strB s)).b.base, .slice A2 (rdMach (strB s)).b.digits.length c2, .int .i64 (rdMach (strB s)).s.base, .slice A3 (rdMach (strB s)).s.digits.length c3, .int .i64 (rdMach (strB s)).carry], .bool (rdM (strB s)).isSome]) ∧
      Kn w [rowI A3 c3 (rdMach (strB s)).s.digits, rowI A2 c2 (rdMach (strB s)).b.digits, rowI A1 c1 (rdMach (strB s)).a.digits] w' := by
  have HRD := Lib.hid (rdM_spec (strB s))
  have KS := fun W => l01Split_any s 32 W hs
  have e32 : (32 : UInt8).toNat = 32 := rfl
  rw [e32] at KS
  have KS := Lib.hid KS
  have hjoin : ∀ x ∈ splitB 32 (strB s), x.length ≤ 1048576 := by
    intro x hx
    have := splitB_each 32 (strB s) x hx; rw [strB_len] at this; omega
  clear e32
  go_enter Tryz.func126, Tryz.ntmps126
  go_wp2_with fail
  refine Calls.kn ((Kn.nil w).al [.int .i64 0, .slice none 0 0, .int .i64 0, .slice none 0 0, .int .i64 0, .slice none 0 0, .int .i64 0] 32) ?_; intro w1 hK1
  refine (KS.out w1).mono ?_; rintro e w2 ⟨A, c, ss, rfl, hss, hK⟩
  have hK2 := hK1.join hK
  have HSS := Lib.hid hss
  have HJ := Lib.hid hjoin
  clear hK hK1 hss hjoin
  obtain ⟨d1, d2, d3, -⟩ := hK2.cells
  have HNO : Hid (ss.length ≠ 4 → rdM (strB s) = none) := by
    intro h
    rw [HRD.out, ← HSS.out]
    match ss, h with
    | [], _ => rfl
    | [_], _ => rfl
    | [_, _], _ => rfl
    | [_, _, _], _ => rfl
    | [_, _, _, _], h => exact absurd rfl h
    | _ :: _ :: _ :: _ :: _ :: _, _ => rfl
  by_cases hl4 : ss.length = 4
  · have HYES : Hid (∃ x0 x1 x2 x3, ss = [x0, x1, x2, x3]) := by
      match ss, hl4 with
      | [x0, x1, x2, x3], _ => exact ⟨x0, x1, x2, x3, rfl⟩
    obtain ⟨x0, x1, x2, x3, rfl⟩ := HYES.out
    obtain ⟨-, g, rfl, -, hg0, hg1⟩ := hK2.rowS_at (k := 0) (by simp)
    have b0 : x0.size ≤ 1048576 := by rw [← strB_len]; exact HJ.out _ (by rw [← HSS.out]; simp)
    have b1 : x1.size ≤ 1048576 := by rw [← strB_len]; exact HJ.out _ (by rw [← HSS.out]; simp)
    have b2 : x2.size ≤ 1048576 := by rw [← strB_len]; exact HJ.out _ (by rw [← HSS.out]; simp)
    have b3 : x3.size ≤ 1048576 := by rw [← strB_len]; exact HJ.out _ (by rw [← HSS.out]; simp)
    obtain ⟨t, ht⟩ : ∃ t : Tri, (⟨rdReg (strB x0), rdReg (strB x1), rdReg (strB x2), rdN (strB x3)⟩ : Tri) = t := ⟨_, rfl⟩
    have hta : rdReg (strB x0) = t.a := by rw [← ht]
    have htb : rdReg (strB x1) = t.b := by rw [← ht]
    have hts : rdReg (strB x2) = t.s := by rw [← ht]
    have htc : rdN (strB x3) = t.carry := by rw [← ht]
    have n1 := rdReg_len (strB x0); rw [hta] at n1
    have n2 := rdReg_len (strB x1); rw [htb] at n2
    have n3 := rdReg_len (strB x2); rw [hts] at n3
    obtain ⟨ok1, hok1⟩ : ∃ b, (rdR (strB x0)).isSome = b := ⟨_, rfl⟩
    obtain ⟨ok2, hok2⟩ : ∃ b, (rdR (strB x1)).isSome = b := ⟨_, rfl⟩
    obtain ⟨ok3, hok3⟩ : ∃ b, (rdR (strB x2)).isSome = b := ⟨_, rfl⟩
    obtain ⟨ok4, hok4⟩ : ∃ b, (rdDec (strB x3)).isSome = b := ⟨_, rfl⟩
    have HRR : Hid (rdM (strB s) = if (ok1 && ok2 && ok3 && ok4) && vmach t then some t else none) := by
      simp only [Hid]
      rw [HRD.out, ← HSS.out]
      simp only [List.map_cons, List.map_nil]
      rw [hok1, hok2, hok3, hok4, ht]
    have K1 := Lib.hid (fun W => readS x0 b0 t.a hta ok1 hok1 W)
    have K2 := Lib.hid (fun W => readS x1 b1 t.b htb ok2 hok2 W)
    have K3 := Lib.hid (fun W => readS x2 b2 t.s hts ok3 hok3 W)
    have K4 := (fun W => l01Number_any x3 W (by omega))
    rw [htc, hok4] at K4
    have K4 := Lib.hid K4
    clear hl4 ht hta htb hts htc hok1 hok2 hok3 hok4
    have s0 := hK2.rowS_get (k := 0) (by simp)
    have s1 := hK2.rowS_get (k := 1) (by simp)
    have s2 := hK2.rowS_get (k := 2) (by simp)
    have s3 := hK2.rowS_get (k := 3) (by simp)
    simp only [List.getElem_cons_zero, List.getElem_cons_succ] at s0 s1 s2 s3
    clear s1 s2 s3
    go_wp2_with fail
    refine (K1.out _).mono ?_; rintro e w3 ⟨A1, c1, rfl, hK⟩
    have hK3 := hK2.join hK
    clear hK s0 d1 d2 d3
    have hK4 := (hK3.al [.int .i64 t.a.base, .slice A1 t.a.digits.length c1] 30)
    have hS := hK3.drop
    have s0 := hS.rowS_get (k := 0) (by simp)
    have s1 := hS.rowS_get (k := 1) (by simp)
    have s2 := hS.rowS_get (k := 2) (by simp)
    have s3 := hS.rowS_get (k := 3) (by simp)
    simp only [List.getElem_cons_zero, List.getElem_cons_succ] at s0 s1 s2 s3
    have hg3 : g < w3.heap.size := (World.ownsRow.lt hS.at0 g rfl).2
    clear s0 s2 s3
    go_wp2_with fail
    refine Calls.kn hK4 ?_; intro w4 hK5
    clear s1 hK4
    refine (K2.out _).mono ?_; rintro e w5 ⟨A2, c2, rfl, hK⟩
    have hK6 := hK5.join hK
    clear hK hS
    have hK7 := (hK6.al [.int .i64 t.b.base, .slice A2 t.b.digits.length c2] 30)
    have hS := hK6.drop.drop.drop
    have s0 := hS.rowS_get (k := 0) (by simp)
    have s1 := hS.rowS_get (k := 1) (by simp)
    have s2 := hS.rowS_get (k := 2) (by simp)
    have s3 := hS.rowS_get (k := 3) (by simp)
    simp only [List.getElem_cons_zero, List.getElem_cons_succ] at s0 s1 s2 s3
    have hg5 : g < w5.heap.size := (World.ownsRow.lt hS.at0 g rfl).2
    clear s0 s1 s3
    go_wp2_with fail
    refine Calls.kn hK7 ?_; intro w6 hK8
    clear s2 hK7
    refine (K3.out _).mono ?_; rintro e w7 ⟨A3, c3, rfl, hK⟩
    have hK9 := hK8.join hK
    clear hK hS
    have hK10 := (hK9.al [.int .i64 t.s.base, .slice A3 t.s.digits.length c3] 30)
    have hS := hK9.drop.drop.drop.drop.drop
    have s0 := hS.rowS_get (k := 0) (by simp)
    have s1 := hS.rowS_get (k := 1) (by simp)
    have s2 := hS.rowS_get (k := 2) (by simp)
    have s3 := hS.rowS_get (k := 3) (by simp)
    simp only [List.getElem_cons_zero, List.getElem_cons_succ] at s0 s1 s2 s3
    have hg7 : g < w7.heap.size := (World.ownsRow.lt hS.at0 g rfl).2
    clear s0 s1 s2
    go_wp2_with fail
    refine Calls.kn hK10 ?_; intro w8 hK11
    clear s3 hK10
    refine (K4.out _).mono ?_; rintro e w9 ⟨rfl, hw⟩
    have hK12 := hK11.keep hw
    clear hw hK11 hS
    obtain ⟨p1, p2, p3, q1, q2, q3, r1, r2, r3, d1, d2, d3, -⟩ := hK12.cells
    have hK13 := (((hK12.al [.int .i64 t.a.base, .slice A1 t.a.digits.length c1, .int .i64 t.b.base, .slice A2 t.b.digits.length c2, .int .i64 t.s.base, .slice A3 t.s.digits.length c3, .int .i64 t.carry] 32).drop1.drop2.drop3).sw4).drop
    cases ok1 with
    | false =>
      have HU := Lib.hid (rdm_none (bs := strB s) HRR.out)
      go_wp2_with (refine wpList.kn hK13 ?_; intro w10 hK14; clear p1 p2 p3 q1 q2 q3 r1 r2 r3 d1 d2 d3 hK12; obtain ⟨a1, a2, a3, d1, d2, d3, -⟩ := hK14.cells)
      refine bodyPost_ret (v := .tuple #[.agg #[.int .i64 0, .slice none 0 0, .int .i64 0, .slice none 0 0, .int .i64 0, .slice none 0 0, .int .i64 0], .bool false]) (by simp [results, Tryz.results126, go_sem, d1]) rfl ⟨none, 0, none, 0, none, 0, by rw [HU.out.1, HU.out.2]; rfl, ?_⟩
      rw [HU.out.1]
      exact ((((((((((hK14.sw4.st 0 (.int .i64 0)).st 1 (.slice none 0 0)).st 2 (.int .i64 0)).st 3 (.slice none 0 0)).st 4 (.int .i64 0)).st 5 (.slice none 0 0)).st 6 (.int .i64 0))).bare.nilRow _ _).nilRow _ _).nilRow _ _
    | true =>
    cases ok2 with
    | false =>
      have HU := Lib.hid (rdm_none (bs := strB s) HRR.out)
      go_wp2_with (refine wpList.kn hK13 ?_; intro w10 hK14; clear p1 p2 p3 q1 q2 q3 r1 r2 r3 d1 d2 d3 hK12; obtain ⟨a1, a2, a3, d1, d2, d3, -⟩ := hK14.cells)
      refine bodyPost_ret (v := .tuple #[.agg #[.int .i64 0, .slice none 0 0, .int .i64 0, .slice none 0 0, .int .i64 0, .slice none 0 0, .int .i64 0], .bool false]) (by simp [results, Tryz.results126, go_sem, d1]) rfl ⟨none, 0, none, 0, none, 0, by rw [HU.out.1, HU.out.2]; rfl, ?_⟩
      rw [HU.out.1]
      exact ((((((((((hK14.sw4.st 0 (.int .i64 0)).st 1 (.slice none 0 0)).st 2 (.int .i64 0)).st 3 (.slice none 0 0)).st 4 (.int .i64 0)).st 5 (.slice none 0 0)).st 6 (.int .i64 0))).bare.nilRow _ _).nilRow _ _).nilRow _ _
    | true =>
    cases ok3 with
    | false =>
      have HU := Lib.hid (rdm_none (bs := strB s) HRR.out)
      go_wp2_with (refine wpList.kn hK13 ?_; intro w10 hK14; clear p1 p2 p3 q1 q2 q3 r1 r2 r3 d1 d2 d3 hK12; obtain ⟨a1, a2, a3, d1, d2, d3, -⟩ := hK14.cells)
      refine bodyPost_ret (v := .tuple #[.agg #[.int .i64 0, .slice none 0 0, .int .i64 0, .slice none 0 0, .int .i64 0, .slice none 0 0, .int .i64 0], .bool false]) (by simp [results, Tryz.results126, go_sem, d1]) rfl ⟨none, 0, none, 0, none, 0, by rw [HU.out.1, HU.out.2]; rfl, ?_⟩
      rw [HU.out.1]
      exact ((((((((((hK14.sw4.st 0 (.int .i64 0)).st 1 (.slice none 0 0)).st 2 (.int .i64 0)).st 3 (.slice none 0 0)).st 4 (.int .i64 0)).st 5 (.slice none 0 0)).st 6 (.int .i64 0))).bare.nilRow _ _).nilRow _ _).nilRow _ _
    | true =>
    cases ok4 with
    | false =>
      have HU := Lib.hid (rdm_none (bs := strB s) HRR.out)
      go_wp2_with (refine wpList.kn hK13 ?_; intro w10 hK14; clear p1 p2 p3 q1 q2 q3 r1 r2 r3 d1 d2 d3 hK12; obtain ⟨a1, a2, a3, d1, d2, d3, -⟩ := hK14.cells)
      refine bodyPost_ret (v := .tuple #[.agg #[.int .i64 0, .slice none 0 0, .int .i64 0, .slice none 0 0, .int .i64 0, .slice none 0 0, .int .i64 0], .bool false]) (by simp [results, Tryz.results126, go_sem, d1]) rfl ⟨none, 0, none, 0, none, 0, by rw [HU.out.1, HU.out.2]; rfl, ?_⟩
      rw [HU.out.1]
      exact ((((((((((hK14.sw4.st 0 (.int .i64 0)).st 1 (.slice none 0 0)).st 2 (.int .i64 0)).st 3 (.slice none 0 0)).st 4 (.int .i64 0)).st 5 (.slice none 0 0)).st 6 (.int .i64 0))).bare.nilRow _ _).nilRow _ _).nilRow _ _
    | true =>
      go_wp2_with (refine wpList.kn hK13 ?_; intro w10 hK14; clear p1 p2 p3 q1 q2 q3 r1 r2 r3 d1 d2 d3 hK12; obtain ⟨a1, a2, a3, d1, d2, d3, -⟩ := hK14.cells)
      have KO := l10Ok_any ⟨w9.heap.size, 0, none⟩ t w10 (TriC.tri (TriC.of_block hK14.at0 hK14.drop.drop.drop.ownI.ri hK14.drop.drop.ownI.ri hK14.drop.ownI.ri)) ⟨by unfold SmallReg; omega, by unfold SmallReg; omega, by unfold SmallReg; omega⟩
      rcases hv : vmach t with _ | _
      · have HU := Lib.hid (rdm_none (bs := strB s) (by rw [HRR.out, hv]; rfl))
        rw [hv] at KO
        clear hv
        refine KO.mono ?_; rintro e w11 ⟨rfl, m, rfl⟩
        have hK16 := hK14.drewN m
        go_wp2_with fail
        refine bodyPost_ret (v := .tuple #[.agg #[.int .i64 0, .slice none 0 0, .int .i64 0, .slice none 0 0, .int .i64 0, .slice none 0 0, .int .i64 0], .bool false]) (by simp [results, Tryz.results126, go_sem, d1]) rfl ⟨none, 0, none, 0, none, 0, by rw [HU.out.1, HU.out.2]; rfl, ?_⟩
        rw [HU.out.1]
        exact ((((((((((hK16.sw4.st 0 (.int .i64 0)).st 1 (.slice none 0 0)).st 2 (.int .i64 0)).st 3 (.slice none 0 0)).st 4 (.int .i64 0)).st 5 (.slice none 0 0)).st 6 (.int .i64 0))).bare.nilRow _ _).nilRow _ _).nilRow _ _
      · have HU := Lib.hid (rdm_some (bs := strB s) (r := t) (by rw [HRR.out, hv]; rfl))
        rw [hv] at KO
        clear hv
        refine KO.mono ?_; rintro e w11 ⟨rfl, m, rfl⟩
        have hK16 := hK14.drewN m
        go_wp2_with fail
        have hK17 := (((((((hK16.sw4.st 0 (.int .i64 t.a.base)).st 1 (.slice A1 t.a.digits.length c1)).st 2 (.int .i64 t.b.base)).st 3 (.slice A2 t.b.digits.length c2)).st 4 (.int .i64 t.s.base)).st 5 (.slice A3 t.s.digits.length c3)).st 6 (.int .i64 t.carry))
        refine bodyPost_ret (v := .tuple #[.agg #[.int .i64 t.a.base, .slice A1 t.a.digits.length c1, .int .i64 t.b.base, .slice A2 t.b.digits.length c2, .int .i64 t.s.base, .slice A3 t.s.digits.length c3, .int .i64 t.carry], .bool true]) (by simp [results, Tryz.results126, go_sem, d1]) rfl ⟨A1, c1, A2, c2, A3, c3, by rw [HU.out.1, HU.out.2], ?_⟩
        rw [HU.out.1]
        exact hK17.drop.drop
  · have HU := Lib.hid (rdm_none (bs := strB s) (HNO.out hl4))
    have k1 : ((ss.length : Int) != 4) = true := by rw [bne_iff_ne]; omega
    clear hl4
    go_wp2_with fail
    refine bodyPost_ret (v := .tuple #[.agg #[.int .i64 0, .slice none 0 0, .int .i64 0, .slice none 0 0, .int .i64 0, .slice none 0 0, .int .i64 0], .bool false]) (by simp [results, Tryz.results126, go_sem, d1]) rfl ⟨none, 0, none, 0, none, 0, by rw [HU.out.1, HU.out.2]; rfl, ?_⟩
    rw [HU.out.1]
    exact ((((((((((hK2.sw1.st 0 (.int .i64 0)).st 1 (.slice none 0 0)).st 2 (.int .i64 0)).st 3 (.slice none 0 0)).st 4 (.int .i64 0)).st 5 (.slice none 0 0)).st 6 (.int .i64 0))).bare.nilRow _ _).nilRow _ _).nilRow _ _
end Go.Proofs.YtmmiahgmdllgdaaGreatDoor

namespace Go.Proofs.YtmmiahgmdllgdaaGreatDoor
open Go.RowKit Go.Sort
/-- a session of the reference in block g -/
def SesS (w0 : World) (g : Nat) (s : SS) (w : World) : Prop := ∃ U1 u1 U2 u2 U3 u3 A1 c1 A2 c2 A3 c3 SA sc BA bc m, Kn w0 (.blk g [.int .i64 s.start.a.base, .slice U1 s.start.a.digits.length u1, .int .i64 s.start.b.base, .slice U2 s.start.b.digits.length u2, .int .i64 s.start.s.base, .slice U3 s.start.s.digits.length u3, .int .i64 s.start.carry, .int .i64 s.m.a.base, .slice A1 s.m.a.digits.length c1, .int .i64 s.m.b.base, .slice A2 s.m.b.digits.length c2, .int .i64 s.m.s.base, .slice A3 s.m.s.digits.length c3, .int .i64 s.m.carry, .slice SA s.str.length sc, .slice BA s.bel.length bc, .bool s.ended] 91 :: rowI A3 c3 s.m.s.digits :: rowI A2 c2 s.m.b.digits :: rowI A1 c1 s.m.a.digits :: rowI SA sc s.str :: rowI BA bc s.bel :: m) w ∧ Own3 m U1 u1 U2 u2 U3 u3 s.start
theorem SesS.of {w0 w : World} {g : Nat} {s : SS} {U1 U2 U3 A1 A2 A3 SA BA : Option Addr} {u1 u2 u3 c1 c2 c3 sc bc : Nat} {m : List Ent} (hK : Kn w0 (.blk g [.int .i64 s.start.a.base, .slice U1 s.start.a.digits.length u1, .int .i64 s.start.b.base, .slice U2 s.start.b.digits.length u2, .int .i64 s.start.s.base, .slice U3 s.start.s.digits.length u3, .int .i64 s.start.carry, .int .i64 s.m.a.base, .slice A1 s.m.a.digits.length c1, .int .i64 s.m.b.base, .slice A2 s.m.b.digits.length c2, .int .i64 s.m.s.base, .slice A3 s.m.s.digits.length c3, .int .i64 s.m.carry, .slice SA s.str.length sc, .slice BA s.bel.length bc, .bool s.ended] 91 :: rowI A3 c3 s.m.s.digits :: rowI A2 c2 s.m.b.digits :: rowI A1 c1 s.m.a.digits :: rowI SA sc s.str :: rowI BA bc s.bel :: m) w) (hu : Own3 m U1 u1 U2 u2 U3 u3 s.start) : SesS w0 g s w :=
  ⟨U1, u1, U2, u2, U3, u3, A1, c1, A2, c2, A3, c3, SA, sc, BA, bc, m, hK, hu⟩
theorem lineR_ended {w0 : World} {g : Nat} (s : SS) (i : Int) (L : ByteArray) (w : World) (hS : SesS w0 g s w) (he : s.ended = true) :
    Calls Tryz.prog 128 #[.pointer (some ⟨g, 0, none⟩), .int .i64 i, .string L] w fun e w' => e = .returned (.int .i64 (lineS s i (strB L)).2) ∧ SesS w0 g (lineS s i (strB L)).1 w' := by
  rw [lineS_ended i (strB L) he]
  have HS := Lib.hid hS
  obtain ⟨U1, u1, U2, u2, U3, u3, A1, c1, A2, c2, A3, c3, SA, sc, BA, bc, m, hK, -⟩ := hS
  obtain ⟨a1, a2, a3⟩ := hK.blkAt
  clear hK
  go_enter Tryz.func128, Tryz.ntmps128
  go_wp2_with fail
  go_ret
  exact ⟨rfl, HS.out⟩
theorem nameS0 {L : ByteArray} (hq : kindOf (strB L) = 0) : Hid (∀ W, Calls Tryz.prog 138 #[.string L] W fun e w' => e = .returned (.int .i64 0) ∧ Below W.heap.size W w') := by
  have h := (fun W => l24Kind_any L W)
  rw [hq] at h
  exact h
set_option maxRecDepth 100000 in
set_option maxHeartbeats 3200000 in
theorem lineR_stroke {w0 : World} {g k : Nat} (s : SS) (i : Int) (L : ByteArray) (w : World) (hS : SesS w0 g s w) (hg : s.Good k) (hk : k ≤ 1000000) (he : s.ended = false) (hq : kindOf (strB L) ≠ 0) :
    Calls Tryz.prog 128 #[.pointer (some ⟨g, 0, none⟩), .int .i64 i, .string L] w fun e w' => e = .returned (.int .i64 0) ∧ SesS w0 g (lineS s i (strB L)).1 w' := by
  have HKN := (fun W => l24Kind_any L W)
  have hb := kindOf_bd (strB L)
  have HLS := Lib.hid (show (lineS s i (strB L)).1 = ⟨s.start, (strokeT (kindOf (strB L)) s.m).1, s.str ++ [kindOf (strB L)], if (strokeT (kindOf (strB L)) s.m).2 then s.bel ++ [i] else s.bel, s.ended⟩ by
    unfold lineS; rw [if_neg (by rw [he]; decide), if_pos hq, he])
  obtain ⟨kd, hkd⟩ : ∃ kd, kindOf (strB L) = kd := ⟨_, rfl⟩
  rw [hkd] at HKN hb hq HLS
  have hk1 : 1 ≤ kd ∧ kd ≤ 6 := by omega
  have hk2 : (0 : Int) < kd := by omega
  have KT := (fun {p0 p1 p2 p3 p4 p5 p6 : Value} {rest : List Value} {T : TypeId} {m : List Ent} W (hM : MB7 w0 g p0 p1 p2 p3 p4 p5 p6 rest T s.m m W) => l10DoK7 s.m kd W hM hg.m hk1)
  obtain ⟨⟨t, bell⟩, hr⟩ : ∃ r, strokeT kd s.m = r := ⟨_, rfl⟩
  rw [hr] at KT HLS
  obtain ⟨str', hstr⟩ : ∃ l, s.str ++ [kd] = l := ⟨_, rfl⟩
  rw [hstr] at HLS
  have HSTR := Lib.hid hstr
  replace HKN := Lib.hid HKN
  have hsl10 : s.str.length ≤ 10000000 := by have := hg.str; omega
  have hbl10 : s.bel.length ≤ 10000000 := by have := hg.bel; omega
  clear hr hkd hq hg hstr
  obtain ⟨U1, u1, U2, u2, U3, u3, A1, c1, A2, c2, A3, c3, SA, sc, BA, bc, m, hK, hu⟩ := hS
  have HU := Lib.hid hu
  clear hu
  obtain ⟨a1, a2, a3⟩ := hK.blkAt
  go_enter Tryz.func128, Tryz.ntmps128
  go_wp2_with fail
  refine (HKN.out _).mono ?_; rintro e w1 ⟨rfl, hw⟩
  have hK1 := hK.keep hw
  clear a1 a2 a3 hK hw
  obtain ⟨a1, a2, a3⟩ := hK1.blkAt
  have hA : Kn w0 (.blk w1.heap.size [.int .i64 kd] 2 :: .row (.slice SA s.str.length sc) 2 1 s.str.length (s.str.map (Value.int .i64)) :: _) _ := (hK1.front 4 rfl).al [.int .i64 kd] 2
  go_wp2_with (at_builtin; refine kn_pushI rfl _ _ rfl (.slice SA s.str.length sc) s.str rfl rfl hA hsl10 ?_; intro v2 w2 hK2; rw [HSTR.out] at hK2; obtain ⟨A5, c5, rfl⟩ := row_form hK2.at0; clear a1 a2 a3 hA hK1; obtain ⟨a1, a2, a3, -⟩ := hK2.cells)
  have hK3 := ((hK2.front 1 rfl).st 14 (.slice A5 str'.length c5)).sel [0, 2, 3, 4, 1, 5] 6 (by decide) (by decide)
  refine (KT _ ⟨A1, c1, A2, c2, A3, c3, hK3⟩).mono ?_
  rintro e w3 ⟨rfl, B1, d1, B2, d2, B3, d3, hK4⟩
  clear a1 a2 a3 hK2 hK3
  obtain ⟨a1, a2, a3, -⟩ := hK4.cells
  rcases bell with _ | _
  · go_wp2_with fail
    go_ret
    have hls := HLS.out
    simp only [Bool.false_eq_true, if_false] at hls
    rw [hls]
    exact ⟨rfl, SesS.of (s := ⟨s.start, t, str', s.bel, s.ended⟩) hK4 HU.out⟩
  · have hA : Kn w0 (.blk w3.heap.size [.int .i64 i] 2 :: .row (.slice BA s.bel.length bc) 2 1 s.bel.length (s.bel.map (Value.int .i64)) :: _) _ := (hK4.front 5 rfl).al [.int .i64 i] 2
    obtain ⟨bel', hbel⟩ : ∃ l, s.bel ++ [i] = l := ⟨_, rfl⟩
    rw [hbel] at HLS
    have HBEL := Lib.hid hbel
    clear hbel
    go_wp2_with (at_builtin; refine kn_pushI rfl _ _ rfl (.slice BA s.bel.length bc) s.bel rfl rfl hA hbl10 ?_; intro v8 w8 hK8; rw [HBEL.out] at hK8; obtain ⟨A6, c6, rfl⟩ := row_form hK8.at0; clear a1 a2 a3; obtain ⟨a1, a2, a3, -⟩ := hK8.cells)
    go_ret
    have hls := HLS.out
    simp only [if_true] at hls
    rw [hls]
    exact ⟨rfl, SesS.of (s := ⟨s.start, t, str', bel', s.ended⟩) (((hK8.front 1 rfl).st 15 (.slice A6 bel'.length c6)).sel [0, 2, 3, 4, 5, 1] 6 (by decide) (by decide)) HU.out⟩
theorem extract_eq {L : ByteArray} {p : List UInt8} (h : (L.extract 0 p.length).toList = p) (h1 : p.length < L.size) : begins p (strB L) = true := by
  rw [strB_toList, strB_extract] at h
  refine begins_iff.2 ⟨by rw [strB_len]; exact h1, ?_⟩
  simpa using h
theorem extract_beg {L : ByteArray} {p : List UInt8} (h : begins p (strB L) = true) : p.length < L.size ∧ (L.extract 0 p.length).toList = p := by
  obtain ⟨h1, h2⟩ := begins_iff.1 h
  rw [strB_len] at h1
  refine ⟨h1, ?_⟩
  rw [strB_toList, strB_extract]
  simpa using h2
theorem begins_no {L : ByteArray} {p : List UInt8} (h : begins p (strB L) = false) : L.size ≤ p.length ∨ (p.length < L.size ∧ ((L.extract 0 p.length).toList == p) = false) := by
  by_cases h1 : p.length < L.size
  · refine .inr ⟨h1, ?_⟩
    rw [beq_eq_false_iff_ne]
    intro h2
    rw [extract_eq h2 h1] at h
    cases h
  · exact .inl (by omega)
end Go.Proofs.YtmmiahgmdllgdaaGreatDoor
