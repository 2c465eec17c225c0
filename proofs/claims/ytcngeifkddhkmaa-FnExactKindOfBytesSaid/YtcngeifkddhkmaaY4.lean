import Derived.Test.YtcngeifkddhkmaaY3
namespace Go.Proofs.Ytcngeifkddhkmaa
open Go.RowKit Go.Sort
/-- a register as sealed bytes -/
def packR (base : Int) (ds : List Int) : List UInt8 := sealB (82 :: regB base ds)
theorem byteV_one (bs : List UInt8) : ∀ u ∈ bs.map byteV, u.oneCell' = true := by
  intro u hu
  obtain ⟨b, -, rfl⟩ := List.mem_map.1 hu
  rfl
theorem regB_len (base : Int) (ds : List Int) : (regB base ds).length = (ds.length + 1) / 2 + 1 := by simp [regB]
theorem ownB_cells {w : World} {base n c : Nat} {A : Option Addr} {bs : List UInt8} (h : OwnB w base (.slice A n c) bs) (hn : 0 < n) : ∃ g, A = some ⟨g, 0, none⟩ ∧ ∀ j u, (bs.map byteV)[j]? = some u → w.cell? ((⟨g, 0, none⟩ : Addr).add j) = some u := by
  rcases h.2 with ⟨e, hz⟩ | ⟨g, cap, cur, e, hbg, hc, -⟩
  · have := (ownB_form h).1; omega
  · injection e with e _ _
    subst e
    exact ⟨g, rfl, fun j u hu => h.cells (g := g) rfl j u hu⟩
set_option maxRecDepth 100000 in
set_option maxHeartbeats 1600000 in
theorem PackRegister_true (base : Int) (A : Option Addr) (n c : Nat) (ds : List Int) (w : World) (hr : RI w A n ds) (hv : vreg base ds = true) :
    Calls Try.prog 129 #[.agg #[.int .i64 base, .slice A n c]] w fun e w' => e = .returned (.tuple #[.string ⟨(packR base ds).toArray⟩, .int .i64 0]) ∧ Below w.heap.size w w' := by
  obtain ⟨⟨b1, b2⟩, ⟨n1, n2⟩, hd, -⟩ := vreg_iff.1 hv
  have hln := hr.1
  have hb0 : Below w.heap.size w (w.alloc (.cells #[.int .i64 base, .slice A n c] 26)) := (Below.refl _ _).alloc (Nat.le_refl _) _
  have KV := Lib.hid (calls_val (ValidRegister_any base A n c ds _ (hr.below hb0) (by omega)) (congrArg Value.bool hv))
  have KB := Lib.hid (fun W (hW : Below w.heap.size w W) => bytes_any base A n c ds W (hr.below hW) b1 b2 (by omega) (by omega) hd)
  have hrl := regB_len base ds
  rw [hln] at hrl
  have HRL := Lib.hid hrl
  have hrb : (regB base ds).length ≤ 20 := by omega
  have hrb0 : 0 < (regB base ds).length := by omega
  clear hv hd hrl hln
  go_enter Try.func129, Try.ntmps129
  go_wp2_with fail
  refine KV.out.mono ?_; rintro e w1 ⟨rfl, hw1⟩
  have z1 : w.heap.size + 1 ≤ w1.heap.size := by have := hw1.size; simpa using this
  have hlt1 : w.heap.size < w1.heap.size := by omega
  have hne1 : w1.heap.size ≠ w.heap.size := by omega
  have hne2 : w.heap.size ≠ w1.heap.size := by omega
  have c0 : w1.cell? ⟨w.heap.size, 0, none⟩ = some (.int .i64 base) := by rw [hw1.cell (by simp)]; go_simp
  have c1 : w1.cell? ⟨w.heap.size, 1, none⟩ = some (.slice A n c) := by rw [hw1.cell (by simp)]; go_simp
  have hbw1 : Below w.heap.size w w1 := hb0.trans (hw1.mono (by simp))
  have hbx := hbw1.alloc (by omega) (.cells #[.int .u8 82] 5)
  have HX1 := Lib.hid (show OwnB (w1.alloc (.cells #[.int .u8 82] 5)) w.heap.size (.slice (some ⟨w1.heap.size, 0, none⟩) 1 1) [82] from own_litB (n := 1) (cs := #[.int .u8 82]) (heap_alloc_new _ _) (by omega) rfl (by decide))
  have HBX := Lib.hid hbx
  clear hw1 hbw1 hbx
  go_wp2_with fail
  refine (KB.out _ HBX.out).mono ?_; rintro e w2 ⟨A2, c2, rfl, o2, hw2⟩
  have hz2 : w1.heap.size + 1 ≤ w2.heap.size := by have := hw2.size; simpa using this
  obtain ⟨g2, rfl, hcell⟩ := ownB_cells o2 hrb0
  have HB2 := Lib.hid (HBX.out.trans (hw2.mono (by simp; omega)))
  have HX2 := Lib.hid (ownB_below HX1.out hw2)
  have HCELL := Lib.hid hcell
  clear hw2 o2 hcell
  go_wp2_with (at_builtin; refine appG tpB rfl _ _ rfl w.heap.size _ 1 ([82].map byteV) rfl HX2.out ⟨g2, 0, none⟩ (regB base ds).length c2 ((regB base ds).map byteV) rfl (by simp) HCELL.out (byteV_one _) (by omega) (by omega) (by omega) ?_; intro v3 w3 hown3 hg3 hv3)
  have hob : OwnB w3 w.heap.size v3 (82 :: regB base ds) := by
    unfold OwnB
    rw [List.length_cons, Nat.add_comm, List.map_cons]
    exact hown3
  have hbw3 := HB2.out.grown hg3 (by omega) (ownB_lo HX2.out)
  have HOB := Lib.hid hob
  have HB3 := Lib.hid hbw3
  obtain ⟨A3, c3, rfl, -⟩ := hob.reads
  have hz3 : w.heap.size ≤ w3.heap.size := hbw3.size
  clear hob hbw3 hown3 hg3 hv3
  refine (sealed_any w.heap.size A3 _ c3 _ w3 HOB.out (by simp; omega) hz3).mono ?_; rintro e w4 ⟨rfl, hw4⟩
  have HB4 := Lib.hid (HB3.out.trans hw4)
  clear hw4
  go_wp2_with fail
  refine bodyPost_ret (v := .tuple #[.string ⟨(packR base ds).toArray⟩, .int .i64 0]) (by simp [results, Try.results129, go_sem, packR]) rfl ⟨rfl, HB4.out⟩
set_option maxRecDepth 100000 in
set_option maxHeartbeats 1600000 in
theorem PackRegister_false (base : Int) (A : Option Addr) (n c : Nat) (ds : List Int) (w : World) (hr : RI w A n ds) (hm : n ≤ 1000000) (hv : vreg base ds = false) :
    Calls Try.prog 129 #[.agg #[.int .i64 base, .slice A n c]] w fun e w' => e = .returned (.tuple #[.string ⟨#[]⟩, .int .i64 1]) ∧ Below w.heap.size w w' := by
  have hb0 : Below w.heap.size w (w.alloc (.cells #[.int .i64 base, .slice A n c] 26)) := (Below.refl _ _).alloc (Nat.le_refl _) _
  have KV := Lib.hid (calls_val (ValidRegister_any base A n c ds _ (hr.below hb0) (by omega)) (congrArg Value.bool hv))
  clear hv
  go_enter Try.func129, Try.ntmps129
  go_wp2_with fail
  refine KV.out.mono ?_; rintro e w1 ⟨rfl, hw1⟩
  have HB1 := Lib.hid (hb0.trans (hw1.mono (by simp)))
  go_wp2_with fail
  refine bodyPost_ret (v := .tuple #[.string ⟨#[]⟩, .int .i64 1]) (by simp [results, Try.results129, go_sem]) rfl ⟨rfl, HB1.out⟩
end Go.Proofs.Ytcngeifkddhkmaa
