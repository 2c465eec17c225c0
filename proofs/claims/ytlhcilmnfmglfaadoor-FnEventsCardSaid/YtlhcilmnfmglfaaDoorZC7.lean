/- Part 7: lemmas and contracts of the claim's functions. -/
import Derived.Test.YtlhcilmnfmglfaaDoorZC1
import Derived.Test.YtlhcilmnfmglfaaDoorZC2
import Derived.Test.YtlhcilmnfmglfaaDoorZC3
import Derived.Test.YtlhcilmnfmglfaaDoorZC4
import Derived.Test.YtlhcilmnfmglfaaDoorZC5
import Derived.Test.YtlhcilmnfmglfaaDoorZC6
namespace Go.Proofs.YtlhcilmnfmglfaaDoor
open Go.RowKit Go.Sort
theorem Kn.blAt {w0 w : World} {m : List Ent} {ad : Addr} {c k : Nat} {bs : List Bool} {v : Bool} (h : Kn w0 (rowBl (some ad) c bs :: m) w) (hk : bs[k]? = some v) : w.cell? (ad.add k) = some (.bool v) := by
  obtain ⟨hl, hv⟩ := List.getElem?_eq_some_iff.1 hk
  obtain ⟨ad2, hA, _, _, h2⟩ := h.rlBl.at_ hl
  injection hA with hA
  subst hA
  unfold BlM at h2
  rw [Nat.mul_one] at h2
  rw [h2]
  exact congrArg (fun x => some (Value.bool x)) hv
theorem Kn.blForm {w0 w : World} {m : List Ent} {A : Option Addr} {c : Nat} {bs : List Bool} (h : Kn w0 (rowBl A c bs :: m) w) (hn : 0 < bs.length) : ∃ ad, A = some ad := by
  obtain ⟨ad, hA, -⟩ := h.rlBl.at_ hn
  exact ⟨ad, hA⟩
structure EvI1 (b : Int) (xs ys : List Int) (n k : Nat) (L : List Cev) : Prop where
  ok : EvsOk b n L
  all : evAll b xs L = tuPL b xs ys n k
  pu : evPush L = 0
  len : L.length ≤ 2 * k
structure EvI2 (b : Int) (xs ys : List Int) (n k : Nat) (L : List Cev) : Prop where
  ok : EvsOk b n L
  all : evAll b xs L = digPL b xs ys n k
  pu : evPush L = levN b xs ys k
  len : L.length ≤ 2 * n + 2 * k
theorem evOk_mk {b k i s : Int} {n : Nat} (h1 : 1 ≤ k) (h2 : k ≤ 3) (h3 : 0 ≤ i) (h4 : i ≤ (n : Int) - 1) (h5 : 0 ≤ s) (h6 : s ≤ b - 1) : EvOk b n ⟨k, i, s⟩ := ⟨⟨h1, h2⟩, ⟨h3, h4⟩, ⟨h5, h6⟩⟩
theorem evStep1 (b : Int) (ds : List Int) (k y : Int) : evStep b ds ⟨1, k, y⟩ = evPut b ds k.toNat y := by simp [evStep]
theorem evStep2 (b : Int) (ds : List Int) (k y : Int) : evStep b ds ⟨2, k, y⟩ = ds := by simp [evStep]
theorem evStep3 (b : Int) (ds : List Int) (k y : Int) : evStep b ds ⟨3, k, y⟩ = evPut b ds (k.toNat + 1) 1 := by simp [evStep]
theorem evPush1 (L : List Cev) (k y : Int) : evPush (L ++ [⟨1, k, y⟩]) = evPush L := by rw [evPush_snoc]; simp
theorem evPush2 (L : List Cev) (k y : Int) : evPush (L ++ [⟨2, k, y⟩]) = evPush L := by rw [evPush_snoc]; simp
theorem evPush3 (L : List Cev) (k y : Int) : evPush (L ++ [⟨3, k, y⟩]) = evPush L + 1 := by rw [evPush_snoc]; simp
def addTurn (L : List Cev) (k : Nat) (y : Int) : List Cev := if 0 < y then L ++ [⟨1, (k : Int), y⟩] else L
def addCock (L : List Cev) (k : Nat) (c : Bool) : List Cev := if c = true then L ++ [⟨2, (k : Int), 0⟩] else L
theorem EvI1.nil (b : Int) (xs ys : List Int) : EvI1 b xs ys xs.length 0 [] := ⟨EvsOk.nil _ _, (tuPL_zero b xs ys).symm, rfl, Nat.le_refl _⟩
section
variable {b : Int} {xs ys : List Int} {n k : Nat} {L : List Cev} (hb : 2 ≤ b) (hdx : Digs b xs) (hdy : Digs b ys)
include hb hdx hdy
theorem EvI1.step (h : EvI1 b xs ys n k L) (hk : k < n) {y : Int} (hy : ys.getD k 0 = y) (c : Bool) : EvI1 b xs ys n (k + 1) (addCock (addTurn L k y) k c) := by
  have hyb := hdy.at hb k
  rw [hy] at hyb
  have h1 : EvsOk b n (addTurn L k y) ∧ evAll b xs (addTurn L k y) = tuPL b xs ys n (k + 1) ∧ evPush (addTurn L k y) = 0 ∧ (addTurn L k y).length ≤ 2 * k + 1 := by
    unfold addTurn
    have hl := h.len
    split
    · refine ⟨h.ok.snoc (evOk_mk (by decide) (by decide) (by omega) (by omega) hyb.1 (by omega)), ?_, ?_, by rw [List.length_append, List.length_singleton]; omega⟩
      · rw [evAll_snoc, h.all, evStep1, Int.toNat_natCast, ← hy]
        exact tuPL_set hk
      · rw [evPush1, h.pu]
    · exact ⟨h.ok, by rw [h.all, tuPL_keep hb hdx hk (by omega)], h.pu, by omega⟩
  unfold addCock
  split
  · refine ⟨h1.1.snoc (evOk_mk (by decide) (by decide) (by omega) (by omega) (by decide) (by omega)), ?_, ?_, by rw [List.length_append, List.length_singleton]; omega⟩
    · rw [evAll_snoc, h1.2.1, evStep2]
    · rw [evPush2, h1.2.2.1]
  · exact ⟨h1.1, h1.2.1, h1.2.2.1, by omega⟩
theorem EvI1.next (h : EvI1 b xs ys n n L) : EvI2 b xs ys n 0 L := ⟨h.ok, by rw [h.all, tuPL_end, digPL_zero hb hdx hdy], h.pu, h.len⟩
theorem EvI2.no (h : EvI2 b xs ys n k L) (hc : carK b xs ys (k + 1) = 0) : EvI2 b xs ys n (k + 1) L :=
  ⟨h.ok, by rw [h.all, (PL_no (n := n) hb hdx hdy hc).1], by rw [h.pu, levN, if_neg (by omega), Nat.add_zero], by have := h.len; omega⟩
omit hdx hdy in
theorem EvI2.push (h : EvI2 b xs ys n k L) (hk : k < n) (hc : carK b xs ys (k + 1) = 1) {j : Nat} (hj : k + 1 = j) (c : Bool) (hc2 : c = true → j < n) : EvI2 b xs ys n j (addCock (L ++ [⟨3, (k : Int), 0⟩]) j c) := by
  subst hj
  have hl := h.len
  have h1 : EvsOk b n (L ++ [⟨3, (k : Int), 0⟩]) := h.ok.snoc (evOk_mk (by decide) (by decide) (by omega) (by omega) (by decide) (by omega))
  have h2 : evAll b xs (L ++ [⟨3, (k : Int), 0⟩]) = digPL b xs ys n (k + 1) := by
    rw [evAll_snoc, h.all, evStep3, Int.toNat_natCast]
    exact push_any hk hc
  have h3 : evPush (L ++ [⟨3, (k : Int), 0⟩]) = levN b xs ys (k + 1) := by rw [evPush3, h.pu, levN, if_pos hc]
  have h4 : (L ++ [(⟨3, (k : Int), 0⟩ : Cev)]).length = L.length + 1 := by simp
  unfold addCock
  split
  · rename_i hcc
    have hkn := hc2 hcc
    refine ⟨h1.snoc (evOk_mk (by decide) (by decide) (by omega) (by omega) (by decide) (by omega)), ?_, ?_, by rw [List.length_append, List.length_singleton]; omega⟩
    · rw [evAll_snoc, h2, evStep2]
    · rw [evPush2, h3]
  · exact ⟨h1, h2, h3, by omega⟩
end
/-- what the events of an addition are -/
def EvRet (b : Int) (xs ys : List Int) (w : World) (e : Ending) (w' : World) : Prop := ∃ A c L, e = .returned (.tuple #[.slice A L.length c, .int .i64 0]) ∧ (EvsOk b xs.length L ∧ evAll b xs L = addD b xs ys xs.length ∧ evPush L = levN b xs ys xs.length ∧ L.length ≤ 64) ∧ Kn w [rowEv (.slice A L.length c) L] w'
set_option maxRecDepth 100000 in
set_option maxHeartbeats 6400000 in
theorem EventsOf_ok (b : Int) (XA : Option Addr) (xc : Nat) (xs : List Int) (YA : Option Addr) (yc : Nat) (ys : List Int) (w : World) (hx : RI w XA xs.length xs) (hy : RI w YA ys.length ys) (hv1 : vreg b xs = true) (hv2 : vreg b ys = true) (hl : xs.length = ys.length) :
    Calls Tryd.prog 30 #[.agg #[.int .i64 b, .slice XA xs.length xc], .agg #[.int .i64 b, .slice YA ys.length yc]] w (EvRet b xs ys w) := by
  unfold EvRet
  have HYL := Lib.hid hl.symm
  have HY := Lib.hid (fun W (hW : Below w.heap.size w W) => hy.below hW)
  have HI0 := Lib.hid (EvI1.nil b xs ys)
  have HST := (by
    obtain ⟨⟨b1, b2⟩, -, hdx, -⟩ := vreg_iff.1 hv1
    have hdy := (vreg_iff.1 hv2).2.2.1
    exact Lib.hid (fun k L (h : EvI1 b xs ys xs.length k L) hk y hy c => EvI1.step b1 hdx hdy h hk (y := y) hy c) : Hid (∀ k L, EvI1 b xs ys xs.length k L → k < xs.length → ∀ y, ys.getD k 0 = y → ∀ c, EvI1 b xs ys xs.length (k + 1) (addCock (addTurn L k y) k c)))
  have HNX := (by
    obtain ⟨⟨b1, b2⟩, -, hdx, -⟩ := vreg_iff.1 hv1
    have hdy := (vreg_iff.1 hv2).2.2.1
    exact Lib.hid (fun L (h : EvI1 b xs ys xs.length xs.length L) => EvI1.next b1 hdx hdy h) : Hid (∀ L, EvI1 b xs ys xs.length xs.length L → EvI2 b xs ys xs.length 0 L))
  have HNO := (by
    obtain ⟨⟨b1, b2⟩, -, hdx, -⟩ := vreg_iff.1 hv1
    have hdy := (vreg_iff.1 hv2).2.2.1
    exact Lib.hid (fun k L (h : EvI2 b xs ys xs.length k L) hc => EvI2.no b1 hdx hdy h hc) : Hid (∀ k L, EvI2 b xs ys xs.length k L → carK b xs ys (k + 1) = 0 → EvI2 b xs ys xs.length (k + 1) L))
  have HPU := (by
    obtain ⟨⟨b1, b2⟩, -, hdx, -⟩ := vreg_iff.1 hv1
    have hdy := (vreg_iff.1 hv2).2.2.1
    exact Lib.hid (fun k L (h : EvI2 b xs ys xs.length k L) hk hc j hj c hc2 => EvI2.push b1 h hk hc (j := j) hj c hc2) : Hid (∀ k L, EvI2 b xs ys xs.length k L → k < xs.length → carK b xs ys (k + 1) = 1 → ∀ j, k + 1 = j → ∀ c : Bool, (c = true → j < xs.length) → EvI2 b xs ys xs.length j (addCock (L ++ [⟨3, (k : Int), 0⟩]) j c)))
  have HDE := Lib.hid (digPL_end (b := b) (xs := xs) (ys := ys) xs.length).1
  have HDB := Lib.hid (fun k => Digs.at (vreg_iff.1 hv2).2.2.1 (vreg_iff.1 hv2).1.1 k)
  obtain ⟨⟨b1, b2⟩, ⟨n1, n2⟩, hdx, -⟩ := vreg_iff.1 hv1
  have hdy := (vreg_iff.1 hv2).2.2.1
  have KP := Lib.hid (fun W (hW : Below w.heap.size w W) => pairCode_ok b XA xc xs YA yc ys W (hx.below hW) (hy.below hW) hv1 hv2 hl)
  have KT := (fun W (hW : Below w.heap.size w W) => turned_any b XA xc xs YA yc ys W (hx.below hW) (hy.below hW) b1 b2 hdx hdy hl n2)
  have KU := (fun E ec C cc W hx hc => pushed_ok b xs ys hv1 hv2 xs.length (by omega) n2 E ec C cc W hx hc)
  have HC1 := Lib.hid (fun k => car_one b1 hdx hdy k)
  have HCL := Lib.hid (fun k (h : cockK b xs ys k = true) => cock_lev (k := k) b1 hdx hdy h)
  unfold PRet at KU
  have hal := turnD_len b xs ys xs.length
  have hcl := cockL_len b xs ys xs.length
  obtain ⟨ss, hss⟩ : ∃ s, turnD b xs ys xs.length = s := ⟨_, rfl⟩
  obtain ⟨cs, hcs⟩ : ∃ s, cockL b xs ys xs.length = s := ⟨_, rfl⟩
  obtain ⟨ls, hls⟩ : ∃ s, levL b xs ys xs.length = s := ⟨_, rfl⟩
  obtain ⟨ds, hds⟩ : ∃ s, addD b xs ys xs.length = s := ⟨_, rfl⟩
  rw [hss] at hal
  rw [hcs] at hcl
  simp only [hss, hcs, hls, hds] at KT KU
  replace KT := Lib.hid KT
  replace KU := Lib.hid KU
  have HLS := Lib.hid (fun k (h : k < xs.length) => (show ls[k]? = some (decide (carK b xs ys (k + 1) = 1)) by rw [← hls]; exact levL_get h))
  have HCS := Lib.hid (fun k (h : k < xs.length) => (show cs[k]? = some (cockK b xs ys k) by rw [← hcs]; exact cockL_get h))
  have HAL := Lib.hid hal
  have HCC := Lib.hid hcl
  clear hss hcs hls hds hal hcl hdx hdy hv1 hv2 hl hx hy
  obtain ⟨g1, hg1⟩ : ∃ g, w.heap.size = g := ⟨_, rfl⟩
  have K0 := ((Kn.nil w).al [.int .i64 b, .slice XA xs.length xc] 33).al [.int .i64 b, .slice YA ys.length yc] 33
  simp only [World.size_alloc, hg1] at K0
  obtain ⟨n, hn⟩ : ∃ n, xs.length = n := ⟨_, rfl⟩
  rw [hn] at KP KT KU K0 HAL HCC HLS HCS n1 n2 ⊢
  have HN := Lib.hid hn
  clear hn
  rw [HN.out] at HI0 HST HNX HNO HPU HDE
  have hyn : ys.length = n := HYL.out.trans HN.out
  rw [hyn] at K0 KP KT HY ⊢
  clear hyn HYL HCL
  go_enter Tryd.func30, Tryd.ntmps30
  go_upto_region 5 with (first
    | (go_at_call 98; refine Calls.kn K0 ?_; intro w1 K1; refine (KP.out _ K1.below).mono ?_; rintro e w2 ⟨rfl, hw⟩; have K2 := K1.keep hw; clear hw K1; obtain ⟨a1, a2, a3, c1, c2, c3, -⟩ := K2.cells)
    | (go_at_call 99; refine (KT.out _ K2.below).mono ?_; rintro e w3 ⟨E, ec, C, cc, rfl, hK⟩; have K3 := K2.join hK; clear hK K2 a1 a2 a3 c1 c2 c3))
  obtain ⟨g7, hg7⟩ : ∃ g, w3.heap.size = g := ⟨_, rfl⟩
  have K4 := K3.al [.int .i64 b, .slice E n ec] 33
  rw [hg7] at K4
  try rw [hg7]
  refine Code.wp.kn K4 ?_; clear K3 K4 hg7; intro w4 K4
  obtain ⟨a1, a2, a3, -⟩ := K4.cells
  go_upto_region 6 with (go_at_call 100; refine (KU.out E ec C cc _ ((K4.front 1 rfl).rivN HAL.out) ((K4.front 2 rfl).rlBlN HCC.out)).mono ?_; rintro e w5 ⟨F, fc, D, dc, rfl, hl1, hl2, hK⟩; have K5 := (K4.join hK).sel [1, 4, 5] 99 (by decide) (by decide); clear hK K4 a1 a2 a3)
  refine Code.wp.kn (K5.al_ _) ?_; clear K5; intro w6 K6
  have HL2 := Lib.hid hl2
  clear hl1 hl2 KP KT KU HAL
  go_upto_region 7 with fail
  have K7 : Kn w [rowEv (.slice (some ⟨w6.heap.size, 0, none⟩) 0 0) [], rowBl D dc ls, rowBl C cc cs, .blk (g1 + 1) [.int .i64 b, .slice YA n yc] 33] _ := (K6.al [] 74).litRow (size := 3) (n := 0) rfl (by decide)
  refine Code.wp.kn K7 ?_; clear K6 K7; intro w7 K7
  obtain ⟨a1, a2, a3, -⟩ := (K7.front 3 rfl).cells
  go_wp2_with fail
  clear a1 a2 a3
  go_loopw [11, 37] (fun oo ii wr => ∃ (k : Nat) (A : Option Addr) (m c : Nat) (L : List Cev), k ≤ n ∧ ii = .int .i64 (k : Int) ∧ oo = .slice A m c ∧ Hid (EvI1 b xs ys n k L) ∧ Kn w [rowEv (.slice A m c) L, rowBl D dc ls, rowBl C cc cs, .blk (g1 + 1) [.int .i64 b, .slice YA n yc] 33] wr) (fun _ ii _ => n - (intOf ii).toNat)
  case atStart => exact ⟨0, _, _, _, [], Nat.zero_le _, rfl, rfl, HI0, K7⟩
  case round =>
    clear K7 HI0
    obtain ⟨k, A, m, c, L, hk, rfl, rfl, HI, KR⟩ := hrel
    by_cases hkn : k < n
    · have i1 : (k : Int) < (n : Int) := by omega
      have i0 : (0 : Int) ≤ (k : Int) := by omega
      obtain ⟨ad, hA, hlt, hkx, hcx⟩ := (HY.out _ KR.below).at_ hkn
      obtain ⟨ck, hck⟩ : ∃ c, cockK b xs ys k = c := ⟨_, rfl⟩
      have HCK := Lib.hid (HCS.out k hkn)
      rw [hck] at HCK
      obtain ⟨ad2, hA2⟩ := (KR.front 2 rfl).blForm (by rw [HCC.out]; omega)
      have hst := HST.out k L HI.out hkn _ rfl ck
      have hyb := HDB.out k
      rw [getD_of hkx] at hst hyb
      obtain ⟨y, hy⟩ : ∃ y, ys[k] = y := ⟨_, rfl⟩
      rw [hy] at hcx hst hyb
      have HLb := Lib.hid (show L.length ≤ 100 by have := HI.out.len; omega)
      subst hA hA2
      clear hy hkx hck HI
      by_cases hy0 : 0 < y
      · have hst : EvI1 b xs ys n (k + 1) (addCock (L ++ [⟨1, (k : Int), y⟩]) k ck) := by rw [addTurn, if_pos hy0] at hst; exact hst
        cases ck with
        | true =>
          have HI2 := Lib.hid (show EvI1 b xs ys n (k + 1) ((L ++ [⟨1, (k : Int), y⟩]) ++ [⟨2, (k : Int), 0⟩]) by rw [addCock, if_pos rfl] at hst; exact hst)
          clear hst
          go_wp2_with (first
            | (at_builtin; refine kn_pushEv rfl _ _ rfl _ L rfl rfl (KR.al [.int .i64 1, .int .i64 k, .int .i64 y] 74) (by have := HLb.out; omega) ?_; intro A5 c5 m5 w5 K5; have y2 := Kn.blAt (K5.front 2 rfl) HCK.out)
            | (at_builtin; refine kn_pushEv rfl _ _ rfl _ (L ++ [⟨1, (k : Int), y⟩]) rfl rfl (K5.al [.int .i64 2, .int .i64 k, .int .i64 0] 74) (by have := HLb.out; simp; omega) ?_; intro A6 c6 m6 w6 K6))
          go_roundw
          case rel => exact ⟨k + 1, _, _, _, _, by omega, by go_num, rfl, HI2, K6⟩
          case measure => simp [intOf] <;> omega
        | false =>
          have HI2 := Lib.hid (show EvI1 b xs ys n (k + 1) (L ++ [⟨1, (k : Int), y⟩]) by rw [addCock, if_neg (by decide)] at hst; exact hst)
          clear hst
          go_wp2_with (at_builtin; refine kn_pushEv rfl _ _ rfl _ L rfl rfl (KR.al [.int .i64 1, .int .i64 k, .int .i64 y] 74) (by have := HLb.out; omega) ?_; intro A5 c5 m5 w5 K5; have y2 := Kn.blAt (K5.front 2 rfl) HCK.out)
          go_roundw
          case rel => exact ⟨k + 1, _, _, _, _, by omega, by go_num, rfl, HI2, K5⟩
          case measure => simp [intOf] <;> omega
      · have hst : EvI1 b xs ys n (k + 1) (addCock L k ck) := by rw [addTurn, if_neg hy0] at hst; exact hst
        have y2 := Kn.blAt (KR.front 2 rfl) HCK.out
        cases ck with
        | true =>
          have HI2 := Lib.hid (show EvI1 b xs ys n (k + 1) (L ++ [⟨2, (k : Int), 0⟩]) by rw [addCock, if_pos rfl] at hst; exact hst)
          clear hst
          go_wp2_with (at_builtin; refine kn_pushEv rfl _ _ rfl _ L rfl rfl (KR.al [.int .i64 2, .int .i64 k, .int .i64 0] 74) (by have := HLb.out; omega) ?_; intro A5 c5 m5 w5 K5)
          go_roundw
          case rel => exact ⟨k + 1, _, _, _, _, by omega, by go_num, rfl, HI2, K5⟩
          case measure => simp [intOf] <;> omega
        | false =>
          have HI2 := Lib.hid (show EvI1 b xs ys n (k + 1) L by rw [addCock, if_neg (by decide)] at hst; exact hst)
          clear hst
          go_wp2_with fail
          go_roundw
          case rel => exact ⟨k + 1, _, _, _, _, by omega, by go_num, rfl, HI2, KR⟩
          case measure => simp [intOf] <;> omega
    · have i1 : ¬ (k : Int) < (n : Int) := by omega
      obtain rfl : k = n := by omega
      have HI2 := Lib.hid (HNX.out L HI.out)
      clear HST HNX HI HDB HY
      obtain ⟨wo, hwo⟩ : ∃ wo : World, wo = wr := ⟨_, rfl⟩
      subst hwo
      go_wp2_with fail
      go_loopw [11, 62] (fun oo ii wr => ∃ (j : Nat) (A : Option Addr) (m c : Nat) (L : List Cev), j ≤ k ∧ ii = .int .i64 (j : Int) ∧ oo = .slice A m c ∧ Hid (EvI2 b xs ys k j L) ∧ Kn w [rowEv (.slice A m c) L, rowBl D dc ls, rowBl C cc cs] wr) (fun _ ii _ => k - (intOf ii).toNat)
      case atStart => exact ⟨0, A, m, c, L, Nat.zero_le _, rfl, rfl, HI2, KR.sel [0, 1, 2] 99 (by decide) (by decide)⟩
      case round =>
        clear KR HI2 hk hkn
        obtain ⟨j, A, m, c, L, hj, rfl, rfl, HI, KR⟩ := hrel
        by_cases hjk : j < k
        · have i1 : (j : Int) < (k : Int) := by omega
          have i0 : (0 : Int) ≤ (j : Int) := by omega
          have HLb := Lib.hid (show L.length ≤ 100 by have := HI.out.len; omega)
          obtain ⟨adL, hAL⟩ := (KR.front 1 rfl).blForm (by rw [HL2.out]; omega)
          obtain ⟨adC, hAC⟩ := (KR.front 2 rfl).blForm (by rw [HCC.out]; omega)
          have HLJ := Lib.hid (HLS.out j hjk)
          subst hAL hAC
          rcases HC1.out (j + 1) with hc | hc
          · rw [hc, show decide ((0 : Int) = 1) = false from rfl] at HLJ
            have HI2 := Lib.hid (HNO.out j L HI.out hc)
            have y1 := Kn.blAt (KR.front 1 rfl) HLJ.out
            clear hc HI
            go_wp2_with fail
            go_roundw
            case rel => exact ⟨j + 1, _, _, _, _, by omega, by go_num, rfl, HI2, KR⟩
            case measure => simp [intOf] <;> omega
          · rw [hc, show decide ((1 : Int) = 1) = true from rfl] at HLJ
            have y1 := Kn.blAt (KR.front 1 rfl) HLJ.out
            obtain ⟨q, hq⟩ : ∃ q, j + 1 = q := ⟨_, rfl⟩
            have w1q : IntKind.i64.wrap ((j : Int) + 1) = (q : Int) := by rw [wrapI64 (by omega)]; omega
            have HPU2 := Lib.hid (HPU.out j L HI.out hjk hc q hq)
            clear hc HI
            by_cases hqk : q < k
            · have q1 : (q : Int) < (k : Int) := by omega
              have q0 : (0 : Int) ≤ (q : Int) := by omega
              have HLQ := Lib.hid (HLS.out q hqk)
              have HCQ := Lib.hid (HCS.out q hqk)
              have HQ := Lib.hid hq
              obtain ⟨lq, hlq⟩ : ∃ v, decide (carK b xs ys (q + 1) = 1) = v := ⟨_, rfl⟩
              obtain ⟨cq, hcq⟩ : ∃ v, cockK b xs ys q = v := ⟨_, rfl⟩
              rw [hlq] at HLQ
              rw [hcq] at HCQ
              clear hlq hcq hq
              cases lq with
              | false =>
                have HI2 := Lib.hid (show EvI2 b xs ys k q (L ++ [⟨3, (j : Int), 0⟩]) by have h := HPU2.out false (fun h => by cases h); rw [addCock, if_neg (by decide)] at h; exact h)
                go_wp2_with (at_builtin; refine kn_pushEv rfl _ _ rfl _ L rfl rfl (KR.al [.int .i64 3, .int .i64 j, .int .i64 0] 74) (by have := HLb.out; omega) ?_; intro A5 c5 m5 w5 K5; have y3 := Kn.blAt (K5.front 1 rfl) HLQ.out; have y4 := Kn.blAt (K5.front 2 rfl) HCQ.out)
                go_roundw
                case rel => exact ⟨q, _, _, _, _, by have := HQ.out; omega, by rfl, rfl, HI2, K5⟩
                case measure => have := HQ.out; simp [intOf] <;> omega
              | true =>
                cases cq with
                | true =>
                  have HI2 := Lib.hid (show EvI2 b xs ys k q (L ++ [⟨3, (j : Int), 0⟩]) by have h := HPU2.out false (fun h => by cases h); rw [addCock, if_neg (by decide)] at h; exact h)
                  go_wp2_with (at_builtin; refine kn_pushEv rfl _ _ rfl _ L rfl rfl (KR.al [.int .i64 3, .int .i64 j, .int .i64 0] 74) (by have := HLb.out; omega) ?_; intro A5 c5 m5 w5 K5; have y3 := Kn.blAt (K5.front 1 rfl) HLQ.out; have y4 := Kn.blAt (K5.front 2 rfl) HCQ.out)
                  go_roundw
                  case rel => exact ⟨q, _, _, _, _, by have := HQ.out; omega, by rfl, rfl, HI2, K5⟩
                  case measure => have := HQ.out; simp [intOf] <;> omega
                | false =>
                  have HI2 := Lib.hid (show EvI2 b xs ys k q ((L ++ [⟨3, (j : Int), 0⟩]) ++ [⟨2, (q : Int), 0⟩]) by have h := HPU2.out true (fun _ => hqk); rw [addCock, if_pos rfl] at h; exact h)
                  go_wp2_with (first
                    | (at_builtin; refine kn_pushEv rfl _ _ rfl _ L rfl rfl (KR.al [.int .i64 3, .int .i64 j, .int .i64 0] 74) (by have := HLb.out; omega) ?_; intro A5 c5 m5 w5 K5; have y3 := Kn.blAt (K5.front 1 rfl) HLQ.out; have y4 := Kn.blAt (K5.front 2 rfl) HCQ.out)
                    | (at_builtin; refine kn_pushEv rfl _ _ rfl _ (L ++ [⟨3, (j : Int), 0⟩]) rfl rfl (K5.al [.int .i64 2, .int .i64 q, .int .i64 0] 74) (by have := HLb.out; simp; omega) ?_; intro A6 c6 m6 w6 K6))
                  go_roundw
                  case rel => exact ⟨q, _, _, _, _, by have := HQ.out; omega, by rfl, rfl, HI2, K6⟩
                  case measure => have := HQ.out; simp [intOf] <;> omega
            · have q1 : ¬ (q : Int) < (k : Int) := by omega
              have HI2 := Lib.hid (show EvI2 b xs ys k q (L ++ [⟨3, (j : Int), 0⟩]) by have h := HPU2.out false (fun h => by cases h); rw [addCock, if_neg (by decide)] at h; exact h)
              have HQ := Lib.hid hq
              clear hq HPU2
              go_wp2_with (at_builtin; refine kn_pushEv rfl _ _ rfl _ L rfl rfl (KR.al [.int .i64 3, .int .i64 j, .int .i64 0] 74) (by have := HLb.out; omega) ?_; intro A5 c5 m5 w5 K5)
              go_roundw
              case rel => exact ⟨q, _, _, _, _, by have := HQ.out; omega, by rfl, rfl, HI2, K5⟩
              case measure => have := HQ.out; simp [intOf] <;> omega
        · have i1 : ¬ (j : Int) < (k : Int) := by omega
          obtain rfl : j = k := by omega
          have hml := (KR.rlEv).1
          have hi := HI.out
          subst hml
          have HF := Lib.hid (show EvsOk b j L ∧ evAll b xs L = addD b xs ys j ∧ evPush L = levN b xs ys j ∧ L.length ≤ 64 from ⟨hi.ok, by rw [hi.all, HDE.out], hi.pu, by have := hi.len; omega⟩)
          clear hi HI
          go_wp2_with fail
          go_ret2
          exact ⟨A, c, L, rfl, HF.out, KR.sel [0] 99 (by decide) (by decide)⟩
end Go.Proofs.YtlhcilmnfmglfaaDoor

namespace Go.Proofs.YtlhcilmnfmglfaaDoor
open Go.RowKit Go.Sort
theorem betweenB {x l h : Int} {v : Bool} (hv : betB x l h = v) (W : World) : Calls Tryd.prog 105 #[.int .i64 x, .int .i64 l, .int .i64 h] W fun e w' => e = .returned (.bool v) ∧ Below W.heap.size W w' := by
  refine (between_any x l h W).mono ?_
  rintro e w' ⟨rfl, rfl⟩
  exact ⟨by rw [hv], Below.refl _ _⟩
theorem evAll_take (b : Int) (xs : List Int) {L : List Cev} {k : Nat} (h : k < L.length) : evAll b xs (L.take (k + 1)) = evStep b (evAll b xs (L.take k)) L[k] := by
  rw [List.take_succ_eq_append_getElem h, evAll_snoc]
theorem evAll_take' (b : Int) (xs : List Int) {L : List Cev} {k : Nat} {e : Cev} (h : L[k]? = some e) : evAll b xs (L.take (k + 1)) = evStep b (evAll b xs (L.take k)) e := by
  obtain ⟨hl, he⟩ := List.getElem?_eq_some_iff.1 h
  rw [evAll_take b xs hl, he]
set_option maxRecDepth 100000 in
set_option maxHeartbeats 6400000 in
theorem ReplayEvents_ok (b : Int) (XA : Option Addr) (xc : Nat) (xs : List Int) (LA : Option Addr) (lc : Nat) (L : List Cev) (w : World) (hx : RI w XA xs.length xs) (hL : RL EvM 3 w LA L.length L) (hv : vreg b xs = true) (hml : L.length ≤ 1000) (hok : EvsOk b xs.length L) (hvr : vreg b (evAll b xs L) = true) :
    Calls Tryd.prog 33 #[.agg #[.int .i64 b, .slice XA xs.length xc], .slice LA L.length lc] w fun e w' => ∃ E ec, e = .returned (.tuple #[.agg #[.int .i64 b, .slice E xs.length ec], .int .i64 0]) ∧ Kn w [rowI E ec (evAll b xs L)] w' := by
  obtain ⟨⟨b1, b2⟩, ⟨n1, n2⟩, hdx, -⟩ := vreg_iff.1 hv
  have KX := Lib.hid (fun W (hW : Below w.heap.size w W) => calls_val (ValidRegister_any b XA xs.length xc xs W (hx.below hW) (by omega)) (congrArg Value.bool hv))
  have KC := Lib.hid (fun W (hW : Below w.heap.size w W) => copyNumbers_any XA xs.length xc xs W (hx.below hW) (by omega) (by omega))
  have HL := Lib.hid (fun W (hW : Below w.heap.size w W) => hL.below steady_EvM hW)
  have HOK := Lib.hid hok
  have HDG := Lib.hid (fun k => evAll_digs b1 hdx (L.take k))
  have HLN := Lib.hid (fun k => evAll_len b xs (L.take k))
  have HTK := Lib.hid (fun k e (h : L[k]? = some e) => evAll_take' b xs h)
  have KO := (fun E ec W hr => sole_ok b E ec (evAll b xs L) W hr hvr (by rw [evAll_len]; omega))
  have hfl := evAll_len b xs L
  have HALL := Lib.hid (show evAll b xs (L.take L.length) = evAll b xs L by rw [List.take_length])
  obtain ⟨R, hR⟩ : ∃ R, evAll b xs L = R := ⟨_, rfl⟩
  rw [hR] at hfl HALL ⊢
  simp only [hR] at KO
  have HFL := Lib.hid hfl
  have H0 := Lib.hid (show evAll b xs (L.take 0) = xs from rfl)
  clear hR hdx hx hL hok hvr hv hfl
  obtain ⟨g, hg⟩ : ∃ g, w.heap.size = g := ⟨_, rfl⟩
  have K0 := ((Kn.nil w).al [.int .i64 b, .slice XA xs.length xc] 33).al [.int .i64 0, .slice none 0 0] 33
  simp only [World.size_alloc, hg] at K0
  obtain ⟨n, hn⟩ : ∃ n, xs.length = n := ⟨_, rfl⟩
  have HN := Lib.hid hn
  rw [hn] at KX KC K0 HOK HLN HFL n1 n2 ⊢
  rw [HFL.out] at KO
  replace KO := Lib.hid KO
  clear hn
  obtain ⟨m, hm⟩ : ∃ m, L.length = m := ⟨_, rfl⟩
  have HM := Lib.hid hm
  rw [hm] at HL HALL hml ⊢
  clear hm
  have hw1 : IntKind.i64.wrap ((n : Int) - 1) = (n : Int) - 1 := wrapI64 (by omega)
  have hw2 : IntKind.i64.wrap (b - 1) = b - 1 := wrapI64 (by omega)
  have KB1 := Lib.hid (fun x (h : 1 ≤ x ∧ x ≤ 3) W => betweenB (x := x) (l := 1) (h := 3) (betB_iff.2 h) W)
  have KB2 := Lib.hid (fun x (h : 0 ≤ x ∧ x ≤ (n : Int) - 1) W => betweenB (x := x) (l := 0) (h := (n : Int) - 1) (betB_iff.2 h) W)
  have KB3 := Lib.hid (fun x (h : 0 ≤ x ∧ x ≤ b - 1) W => betweenB (x := x) (l := 0) (h := b - 1) (betB_iff.2 h) W)
  go_enter Tryd.func33, Tryd.ntmps33
  go_upto_region 1 with fail
  try rw [hg]
  refine Code.wp.kn K0 ?_; clear K0; intro w1 K1
  obtain ⟨a1, a2, a3, d1, d2, d3, -⟩ := K1.cells
  go_wp2_with (go_at_call 104; (refine (KX.out _ K1.below).mono ?_); rintro e w2 ⟨rfl, hw⟩; have K2 := K1.keep hw; clear hw a1 a2 a3 d1 d2 d3)
  clear K1 KX
  go_loopw [19] (fun ii wr => ∃ (k : Nat), k ≤ m ∧ ii = .int .i64 (k : Int) ∧ Kn w [.blk (g + 1) [.int .i64 0, .slice none 0 0] 33, .blk g [.int .i64 b, .slice XA n xc] 33] wr) (fun ii _ => m - (intOf ii).toNat)
  case atStart => exact ⟨0, Nat.zero_le _, rfl, K2⟩
  case round =>
    clear K2
    obtain ⟨k, hk, rfl, KR⟩ := hrel
    by_cases hkm : k < m
    · have i1 : (k : Int) < (m : Int) := by omega
      have i0 : (0 : Int) ≤ (k : Int) := by omega
      obtain ⟨ad, hA, hlt, hkx, f1, f2, f3⟩ := (HL.out _ KR.below).at_ hkm
      obtain ⟨c1, c2, c3⟩ := HOK.out L[k] (List.getElem_mem hkx)
      obtain ⟨⟨q, i, s⟩, hev⟩ : ∃ e, L[k] = e := ⟨_, rfl⟩
      rw [hev] at f1 f2 f3 c1 c2 c3
      dsimp only at f1 f2 f3 c1 c2 c3
      have R1 := Lib.hid (KB1.out q c1)
      have R2 := Lib.hid (KB2.out i c2)
      have R3 := Lib.hid (KB3.out s c3)
      subst hA
      clear hev hkx c1 c2 c3
      obtain ⟨g7, hg7⟩ : ∃ g, wr.heap.size = g := ⟨_, rfl⟩
      go_upto_region 6 with fail
      refine Code.wp.kn (KR.al [.int .i64 q, .int .i64 i, .int .i64 s] 74) ?_; clear KR f1 f2 f3; intro w5 K5
      rw [hg7] at K5
      try rw [hg7]
      clear hg7
      have x0 := cell_regrown (show w5.cell? ⟨g7, 0, none⟩ = some (.int .i64 q) from K5.blkAt.1 0)
      have x1 := cell_regrown (show w5.cell? ⟨g7, 1, none⟩ = some (.int .i64 i) from K5.blkAt.1 1)
      have x2 := cell_regrown (show w5.cell? ⟨g7, 2, none⟩ = some (.int .i64 s) from K5.blkAt.1 2)
      have x3 := cell_regrown (show w5.cell? ⟨g, 0, none⟩ = some (.int .i64 b) from (K5.front 2 rfl).blkAt.1 0)
      have x4 := cell_regrown (show w5.cell? ⟨g, 1, none⟩ = some (.slice XA n xc) from (K5.front 2 rfl).blkAt.1 1)
      have RW := Lib.hid (fun W => width_any b XA n xc W)
      refine wp_region_quiet_below (by kernel_rfl) (by kernel_rfl) ?_
      repeat (go_big_quiet_step (first | (go_at_call 106; exact quietB (fun W _ => RW.out W)) | (go_at_call 105; first | with_reducible exact quietB (fun W _ => R1.out W) | with_reducible exact quietB (fun W _ => R2.out W) | with_reducible exact quietB (fun W _ => R3.out W))))
      refine wpQuiet_nil ?_
      intro _ hw'
      obtain ⟨⟨dq, osq⟩, hw''⟩ := hw'
      subst hw''
      obtain ⟨w6, hw3⟩ : ∃ W, grow (redrawn w5 dq) osq = W := ⟨_, rfl⟩
      have K6 := K5.keep (below_regrown w5 dq osq)
      dsimp only
      rw [hw3] at K6 ⊢
      clear x0 x1 x2 x3 x4 hw3 K5
      go_wp2_with fail
      go_roundw
      case rel => exact ⟨k + 1, by omega, by go_num, K6.drop⟩
      case measure => simp [intOf] <;> omega
    · have i1 : ¬ (k : Int) < (m : Int) := by omega
      obtain rfl : k = m := by omega
      clear KB1 KB2 KB3
      obtain ⟨wo, hwo⟩ : ∃ wo : World, wo = wr := ⟨_, rfl⟩
      subst hwo
      go_wp2_with fail
      have HF := Lib.hid (fun W (h : Kn w [.blk g [.int .i64 b, .slice XA n xc] 33] W) => box2 h)
      have hKd := KR.drew
      have HG := Lib.hid (HF.out _ (hKd.sel [1] 99 (by decide) (by decide)))
      go_cut [8] (fun pp wx => ∃ (gO : Nat) (E : Option Addr) (ec : Nat), pp = .pointer (some ⟨gO, 0, none⟩) ∧ Kn w [.blk gO [.int .i64 b, .slice E n ec] 33, rowI E ec xs, .blk (g + 1) [.int .i64 0, .slice none 0 0] 33, .blk g [.int .i64 b, .slice XA n xc] 33] wx)
      case first =>
        refine wp_region_held_drew (S := fun W => W.cell? ⟨g, 0, none⟩ = some (.int .i64 b) ∧ W.cell? ⟨g, 1, none⟩ = some (.slice XA n xc)) (by kernel_rfl) ?_ (fun hHeld => ?_)
        · exact HG.out
        try dsimp only
        generalize wo.drew = wd at hKd HG hHeld ⊢
        clear KR
        refine wpAnyH_take (i := 0) (v := ?_) rfl (by kernel_rfl) (by kernel_rfl) (by kernel_rfl) (fun _ _ _ h => h) (Or.inl ⟨by rfl, ?_⟩) hHeld ?_
        rotate_left
        · (intro w hSw; (try dsimp only at hSw); go_simp; try with_reducible rfl)
        try simp only [Act.put, List.setIfInBounds_toArray, List.set_cons_zero, List.set_cons_succ, List.getElem_toArray, List.getElem_cons_succ, List.getElem_cons_zero]
        refine wpAnyH_take (i := 1) (v := ?_) rfl (by kernel_rfl) (by kernel_rfl) (by kernel_rfl) (fun _ _ _ h => h) (Or.inl ⟨by rfl, ?_⟩) hHeld ?_
        rotate_left
        · (intro w hSw; (try dsimp only at hSw); go_simp; try with_reducible rfl)
        try simp only [Act.put, List.setIfInBounds_toArray, List.set_cons_zero, List.set_cons_succ, List.getElem_toArray, List.getElem_cons_succ, List.getElem_cons_zero]
        refine wpAnyH_take (i := 2) (v := ?_) rfl (by kernel_rfl) (by kernel_rfl) (by kernel_rfl) (fun _ _ _ h => h) (Or.inl ⟨by rfl, ?_⟩) hHeld ?_
        rotate_left
        · (intro w hSw; (try dsimp only at hSw); go_simp; try with_reducible rfl)
        try simp only [Act.put, List.setIfInBounds_toArray, List.set_cons_zero, List.set_cons_succ, List.getElem_toArray, List.getElem_cons_succ, List.getElem_cons_zero]
        refine wpAnyH_take (i := 3) (v := ?_) rfl (by kernel_rfl) (by kernel_rfl) (by kernel_rfl) (fun _ _ _ h => h) (Or.inl ⟨by rfl, ?_⟩) hHeld ?_
        rotate_left
        · (intro w hSw; (try dsimp only at hSw); go_simp; try with_reducible rfl)
        try simp only [Act.put, List.setIfInBounds_toArray, List.set_cons_zero, List.set_cons_succ, List.getElem_toArray, List.getElem_cons_succ, List.getElem_cons_zero]
        refine wpAnyH_ready (rs := [4, 6]) (by kernel_rfl) (by decide) (AllReadyH.cons (o := _) rfl (fun K hK' => ?_) (AllReadyH.cons (o := _) rfl (fun K hK' => ?_) AllReadyH.nil))
        · skip
          go_simp
          go_at_call 107
          refine (KC.out _ hKd.below).mono ?_
          rintro e wo1 ⟨E1, ec1, rfl, hK⟩
          have KO1 := hKd.join hK
          clear hK
          have HG := Lib.hid (HF.out _ (KO1.sel [2] 99 (by decide) (by decide)))
          refine hK'.out _ _ HG.out (fun hHeld2 => ?_)
          clear hK' K hHeld
          have hHeld := hHeld2
          clear hHeld2
          try simp only [Act.put, List.setIfInBounds_toArray]
          refine wpAnyH_take (i := 5) (v := ?_) rfl (by kernel_rfl) (by kernel_rfl) (by kernel_rfl) (fun _ _ _ h => h) (Or.inl ⟨by rfl, ?_⟩) hHeld ?_
          rotate_left
          · (intro w hSw; (try dsimp only at hSw); go_simp; try with_reducible rfl)
          try simp only [Act.put, List.setIfInBounds_toArray, List.set_cons_zero, List.set_cons_succ, List.getElem_toArray, List.getElem_cons_succ, List.getElem_cons_zero]
          refine wpAnyH_ready (rs := [6]) (by kernel_rfl) (by decide) (AllReadyH.cons (o := _) rfl (fun K hK' => ?_) AllReadyH.nil)
          go_simp
          have KO2 := KO1.al [.int .i64 0, .slice none 0 0] 33
          have HG := Lib.hid (HF.out _ (KO2.sel [3] 99 (by decide) (by decide)))
          refine hK'.out _ _ HG.out (fun hHeld2 => ?_)
          clear hK' K hHeld
          have hHeld := hHeld2
          clear hHeld2
          try simp only [Act.put, List.setIfInBounds_toArray]
          generalize wo1.alloc (.cells #[.int .i64 0, .slice none 0 0] 33) = wo2 at KO2 hHeld ⊢
          obtain ⟨go2, hgo2⟩ : ∃ g, wo1.heap.size = g := ⟨_, rfl⟩
          rw [hgo2] at KO2 ⊢
          clear hgo2
          refine wpAnyH_ready (rs := [7]) (by kernel_rfl) (by decide) (AllReadyH.cons (o := _) rfl (fun K hK' => ?_) AllReadyH.nil)
          obtain ⟨s1, s2, s3, -⟩ := (KO2.front 0 rfl).cells
          have KO3 := (((KO2.front 0 rfl).st 0 (.int .i64 b)).st 1 (.slice E1 n ec1))
          go_simp
          clear s1 s2 s3
          have HG := Lib.hid (HF.out _ (KO3.sel [3] 99 (by decide) (by decide)))
          refine hK'.out _ _ HG.out (fun hHeld2 => ?_)
          clear hK' K hHeld
          have hHeld := hHeld2
          clear hHeld2
          try simp only [Act.put, List.setIfInBounds_toArray]
          refine wpAnyH_done (by kernel_rfl) ?_ _
          go_wp2_with fail
          go_meet
          exact ⟨_, _, _, rfl, (KO3.sel [0, 1, 2, 3] 99 (by decide) (by decide))⟩
        · skip
          go_simp
          have KO4 := hKd.al [.int .i64 0, .slice none 0 0] 33
          have HG := Lib.hid (HF.out _ (KO4.sel [2] 99 (by decide) (by decide)))
          refine hK'.out _ _ HG.out (fun hHeld2 => ?_)
          clear hK' K hHeld
          have hHeld := hHeld2
          clear hHeld2
          try simp only [Act.put, List.setIfInBounds_toArray]
          generalize wd.alloc (.cells #[.int .i64 0, .slice none 0 0] 33) = wo4 at KO4 hHeld ⊢
          obtain ⟨go4, hgo4⟩ : ∃ g, wd.heap.size = g := ⟨_, rfl⟩
          rw [hgo4] at KO4 ⊢
          clear hgo4
          refine wpAnyH_ready (rs := [4]) (by kernel_rfl) (by decide) (AllReadyH.cons (o := _) rfl (fun K hK' => ?_) AllReadyH.nil)
          go_simp
          go_at_call 107
          refine (KC.out _ KO4.below).mono ?_
          rintro e wo5 ⟨E5, ec5, rfl, hK⟩
          have KO5 := KO4.join hK
          clear hK
          have HG := Lib.hid (HF.out _ (KO5.sel [3] 99 (by decide) (by decide)))
          refine hK'.out _ _ HG.out (fun hHeld2 => ?_)
          clear hK' K hHeld
          have hHeld := hHeld2
          clear hHeld2
          try simp only [Act.put, List.setIfInBounds_toArray]
          refine wpAnyH_take (i := 5) (v := ?_) rfl (by kernel_rfl) (by kernel_rfl) (by kernel_rfl) (fun _ _ _ h => h) (Or.inl ⟨by rfl, ?_⟩) hHeld ?_
          rotate_left
          · (intro w hSw; (try dsimp only at hSw); go_simp; try with_reducible rfl)
          try simp only [Act.put, List.setIfInBounds_toArray, List.set_cons_zero, List.set_cons_succ, List.getElem_toArray, List.getElem_cons_succ, List.getElem_cons_zero]
          refine wpAnyH_ready (rs := [7]) (by kernel_rfl) (by decide) (AllReadyH.cons (o := _) rfl (fun K hK' => ?_) AllReadyH.nil)
          obtain ⟨s1, s2, s3, -⟩ := (KO5.front 1 rfl).cells
          have KO6 := (((KO5.front 1 rfl).st 0 (.int .i64 b)).st 1 (.slice E5 n ec5))
          go_simp
          clear s1 s2 s3
          have HG := Lib.hid (HF.out _ (KO6.sel [3] 99 (by decide) (by decide)))
          refine hK'.out _ _ HG.out (fun hHeld2 => ?_)
          clear hK' K hHeld
          have hHeld := hHeld2
          clear hHeld2
          try simp only [Act.put, List.setIfInBounds_toArray]
          refine wpAnyH_done (by kernel_rfl) ?_ _
          go_wp2_with fail
          go_meet
          exact ⟨_, _, _, rfl, (KO6.sel [0, 1, 2, 3] 99 (by decide) (by decide))⟩
      case rest =>
        obtain ⟨gO, E, ec, rfl, K3⟩ := hcut
        clear KC HF HG hKd KR
        unfold rowI at K3
        rw [HN.out] at K3
        obtain ⟨gd, d1, hE⟩ := Kn.rowForm (K3.front 1 rfl) (by omega)
        injection hE with hE hE2 hE3
        subst hE hE3
        rw [← H0.out] at K3
        have K4 := K3.sel [1, 0, 2, 3] 99 (by decide) (by decide)
        clear K3
        go_wp2_with fail
        go_loopw [55] (fun ii wr => ∃ (j : Nat), j ≤ k ∧ ii = .int .i64 (j : Int) ∧ Kn w [.row (.slice (some ⟨gd, 0, none⟩) n ec) 2 1 n ((evAll b xs (L.take j)).map (Value.int .i64)), .blk gO [.int .i64 b, .slice (some ⟨gd, 0, none⟩) n ec] 33, .blk (g + 1) [.int .i64 0, .slice none 0 0] 33, .blk g [.int .i64 b, .slice XA n xc] 33] wr) (fun ii _ => k - (intOf ii).toNat)
        case atStart => exact ⟨0, Nat.zero_le _, rfl, K4⟩
        case round =>
          clear K4 hk hkm i1
          obtain ⟨j, hj, rfl, KR⟩ := hrel
          by_cases hjk : j < k
          · have i1 : (j : Int) < (k : Int) := by omega
            have i0 : (0 : Int) ≤ (j : Int) := by omega
            obtain ⟨ad, hA, hlt, hkx, f1, f2, f3⟩ := (HL.out _ KR.below).at_ hjk
            obtain ⟨c1, c2, c3⟩ := HOK.out L[j] (List.getElem_mem hkx)
            have hst := HTK.out j L[j] (List.getElem?_eq_getElem hkx)
            obtain ⟨⟨q, i9, s⟩, hev⟩ : ∃ e, L[j] = e := ⟨_, rfl⟩
            rw [hev] at f1 f2 f3 c1 c2 c3 hst
            dsimp only at f1 f2 f3 c1 c2 c3
            obtain ⟨i, rfl⟩ : ∃ i : Nat, i9 = i := ⟨i9.toNat, by omega⟩
            have hdg := HDG.out j
            have hln := HLN.out j
            obtain ⟨ds, hds⟩ : ∃ ds, evAll b xs (L.take j) = ds := ⟨_, rfl⟩
            rw [hds] at KR hst hdg hln
            have hi : i < n := by omega
            have hii : (0 : Int) ≤ (i : Int) := by omega
            have hin : (i : Int) < (n : Int) := by omega
            subst hA
            clear hev hkx hds
            obtain ⟨g7, hg7⟩ : ∃ g, wr.heap.size = g := ⟨_, rfl⟩
            go_upto_region 13 with fail
            have KE := KR.al [.int .i64 q, .int .i64 i, .int .i64 s] 74
            rw [hg7] at KE
            try rw [hg7]
            refine Code.wp.kn (KE.sel [1, 2, 0, 3, 4] 99 (by decide) (by decide)) ?_; clear KR KE f1 f2 f3 hg7; intro wF KE
            obtain ⟨o1, o2, o3, e1, e2, e3, z1, z2, z3, a1, a2, a3, -⟩ := KE.cells
            go_quiet (fail)
            have hq3 : q = 1 ∨ q = 2 ∨ q = 3 := by omega
            have HF := Lib.hid (fun W (h : Kn w [.blk gO [.int .i64 b, .slice (some ⟨gd, 0, none⟩) n ec] 33, .blk g [.int .i64 b, .slice XA n xc] 33] W) => And.intro (box2 h).2 (box2 (h.front 1 rfl)).1)
            rcases hq3 with rfl | rfl | rfl
            · rw [evStep1, Int.toNat_natCast] at hst
              have hil : i < ds.length := by omega
              have hdx := hdg ds[i] (List.getElem_mem hil)
              have HXX := Lib.hid (List.getElem?_eq_getElem hil)
              rw [evPut, getD_of hil] at hst
              obtain ⟨x, hx⟩ : ∃ x, ds[i] = x := ⟨_, rfl⟩
              rw [hx] at hst hdx HXX
              obtain ⟨y, hy⟩ : ∃ y, x + s = y := ⟨_, rfl⟩
              rw [hy] at hst
              have r1 : IntKind.i64.wrap (x + s) = y := by rw [hy]; exact wrapI64 (by omega)
              obtain ⟨z, hz⟩ : ∃ z, y % b = z := ⟨_, rfl⟩
              rw [hz] at hst
              have r2 : Int.tmod y b = z := by rw [Int.tmod_eq_emod_of_nonneg (by omega)]; exact hz
              have r0 : ¬ b = 0 := by omega
              have HST := Lib.hid hst
              clear hx hy hz hst hdx hil
              go_upto_region 19 with fail
              have KE := KE.drewN nq
              clear o1 o2 o3 e1 e2 e3 z1 z2 z3 a1 a2 a3
              generalize wF.drewN nq = wE at KE ⊢
              have hKd := KE.drew
              have HG := Lib.hid (HF.out _ (hKd.sel [1, 4] 99 (by decide) (by decide)))
              refine wp_region_held_drew (S := fun W => W.cell? ⟨gO, 1, none⟩ = some (.slice (some ⟨gd, 0, none⟩) n ec) ∧ W.cell? ⟨g, 0, none⟩ = some (.int .i64 b)) (by kernel_rfl) ?_ (fun hHeld => ?_)
              · exact HG.out
              try dsimp only
              have hCell := Lib.hid (Kn.rowCell hKd (j := i) (u := .int .i64 x) (by rw [List.getElem?_map, HXX.out]; rfl))
              generalize wE.drew = wd at hKd HG hHeld hCell ⊢
              refine wpAnyH_take (i := 0) (v := ?_) rfl (by kernel_rfl) (by kernel_rfl) (by kernel_rfl) (fun _ _ _ h => h) (Or.inl ⟨by rfl, ?_⟩) hHeld ?_
              rotate_left
              · (intro w hSw; (try dsimp only at hSw); go_simp; try with_reducible rfl)
              try simp only [Act.put, List.setIfInBounds_toArray, List.set_cons_zero, List.set_cons_succ, List.getElem_toArray, List.getElem_cons_succ, List.getElem_cons_zero]
              refine wpAnyH_take (i := 1) (v := ?_) rfl (by kernel_rfl) (by kernel_rfl) (by kernel_rfl) (fun _ _ _ h => h) (Or.inl ⟨by rfl, ?_⟩) hHeld ?_
              rotate_left
              · (intro w hSw; (try dsimp only at hSw); go_simp; try with_reducible rfl)
              try simp only [Act.put, List.setIfInBounds_toArray, List.set_cons_zero, List.set_cons_succ, List.getElem_toArray, List.getElem_cons_succ, List.getElem_cons_zero]
              refine wpAnyH_take (i := 2) (v := ?_) rfl (by kernel_rfl) (by kernel_rfl) (by kernel_rfl) (fun _ _ _ h => h) (Or.inl ⟨by rfl, ?_⟩) hHeld ?_
              rotate_left
              · (intro w hSw; (try dsimp only at hSw); go_simp; try with_reducible rfl)
              try simp only [Act.put, List.setIfInBounds_toArray, List.set_cons_zero, List.set_cons_succ, List.getElem_toArray, List.getElem_cons_succ, List.getElem_cons_zero]
              refine wpAnyH_take (i := 3) (v := ?_) rfl (by kernel_rfl) (by kernel_rfl) (by kernel_rfl) (fun _ _ _ h => h) (Or.inl ⟨by rfl, ?_⟩) hHeld ?_
              rotate_left
              · (intro w hSw; (try dsimp only at hSw); go_simp; try with_reducible rfl)
              try simp only [Act.put, List.setIfInBounds_toArray, List.set_cons_zero, List.set_cons_succ, List.getElem_toArray, List.getElem_cons_succ, List.getElem_cons_zero]
              refine wpAnyH_take (i := 4) (v := ?_) rfl (by kernel_rfl) (by kernel_rfl) (by kernel_rfl) (fun _ _ _ h => h) (Or.inl ⟨by rfl, ?_⟩) hHeld ?_
              rotate_left
              · (intro w hSw; (try dsimp only at hSw); go_simp; try with_reducible rfl)
              try simp only [Act.put, List.setIfInBounds_toArray, List.set_cons_zero, List.set_cons_succ, List.getElem_toArray, List.getElem_cons_succ, List.getElem_cons_zero]
              refine wpAnyH_take (i := 5) (v := ?_) rfl (by kernel_rfl) (by kernel_rfl) (by kernel_rfl) (fun _ _ _ h => h) (Or.inl ⟨by rfl, ?_⟩) hHeld ?_
              rotate_left
              · (intro w hSw; (try dsimp only at hSw); go_simp; try with_reducible rfl)
              try simp only [Act.put, List.setIfInBounds_toArray, List.set_cons_zero, List.set_cons_succ, List.getElem_toArray, List.getElem_cons_succ, List.getElem_cons_zero]
              refine wpAnyH_take (i := 6) (v := ?_) rfl (by kernel_rfl) (by kernel_rfl) (by kernel_rfl) (fun _ _ _ h => h) (Or.inl ⟨by rfl, ?_⟩) hHeld ?_
              rotate_left
              · (intro w hSw; (try dsimp only at hSw); go_simp; try with_reducible rfl)
              try simp only [Act.put, List.setIfInBounds_toArray, List.set_cons_zero, List.set_cons_succ, List.getElem_toArray, List.getElem_cons_succ, List.getElem_cons_zero]
              refine wpAnyH_take (i := 8) (v := ?_) rfl (by kernel_rfl) (by kernel_rfl) (by kernel_rfl) (fun _ _ _ h => h) (Or.inl ⟨by rfl, ?_⟩) hHeld ?_
              rotate_left
              · (intro w hSw; (try dsimp only at hSw); go_simp; try with_reducible rfl)
              try simp only [Act.put, List.setIfInBounds_toArray, List.set_cons_zero, List.set_cons_succ, List.getElem_toArray, List.getElem_cons_succ, List.getElem_cons_zero]
              refine wpAnyH_take (i := 10) (v := ?_) rfl (by kernel_rfl) (by kernel_rfl) (by kernel_rfl) (fun _ _ _ h => h) (Or.inl ⟨by rfl, ?_⟩) hHeld ?_
              rotate_left
              · (intro w hSw; (try dsimp only at hSw); go_simp; try with_reducible rfl)
              try simp only [Act.put, List.setIfInBounds_toArray, List.set_cons_zero, List.set_cons_succ, List.getElem_toArray, List.getElem_cons_succ, List.getElem_cons_zero]
              refine wpAnyH_take (i := 11) (v := ?_) rfl (by kernel_rfl) (by kernel_rfl) (by kernel_rfl) (fun _ _ _ h => h) (Or.inl ⟨by rfl, ?_⟩) hHeld ?_
              rotate_left
              · (intro w hSw; (try dsimp only at hSw); go_simp; try with_reducible rfl)
              try simp only [Act.put, List.setIfInBounds_toArray, List.set_cons_zero, List.set_cons_succ, List.getElem_toArray, List.getElem_cons_succ, List.getElem_cons_zero]
              refine wpAnyH_ready (rs := [7]) (by kernel_rfl) (by decide) (AllReadyH.cons (o := _) rfl (fun K hK' => ?_) AllReadyH.nil)
              obtain ⟨x1, x2⟩ := hCell.out
              go_simp
              have HG := Lib.hid (HF.out _ (hKd.sel [1, 4] 99 (by decide) (by decide)))
              refine hK'.out _ _ HG.out (fun hHeld2 => ?_)
              clear hK' K hHeld
              have hHeld := hHeld2
              clear hHeld2
              try simp only [Act.put, List.setIfInBounds_toArray]
              clear x1 x2
              refine wpAnyH_take (i := 9) (v := ?_) rfl (by kernel_rfl) (by kernel_rfl) (by kernel_rfl) (fun _ _ _ h => h) (Or.inl ⟨by rfl, ?_⟩) hHeld ?_
              rotate_left
              · (intro w hSw; (try dsimp only at hSw); go_simp; try with_reducible rfl)
              try simp only [Act.put, List.setIfInBounds_toArray, List.set_cons_zero, List.set_cons_succ, List.getElem_toArray, List.getElem_cons_succ, List.getElem_cons_zero]
              refine wpAnyH_take (i := 12) (v := ?_) rfl (by kernel_rfl) (by kernel_rfl) (by kernel_rfl) (fun _ _ _ h => h) (Or.inl ⟨by rfl, ?_⟩) hHeld ?_
              rotate_left
              · (intro w hSw; (try dsimp only at hSw); go_simp; try with_reducible rfl)
              try simp only [Act.put, List.setIfInBounds_toArray, List.set_cons_zero, List.set_cons_succ, List.getElem_toArray, List.getElem_cons_succ, List.getElem_cons_zero]
              refine wpAnyH_take (i := 13) (v := ?_) rfl (by kernel_rfl) (by kernel_rfl) (by kernel_rfl) (fun _ _ _ h => h) (Or.inl ⟨by rfl, ?_⟩) hHeld ?_
              rotate_left
              · (intro w hSw; (try dsimp only at hSw); go_simp; try with_reducible rfl)
              try simp only [Act.put, List.setIfInBounds_toArray, List.set_cons_zero, List.set_cons_succ, List.getElem_toArray, List.getElem_cons_succ, List.getElem_cons_zero]
              refine wpAnyH_ready (rs := [14]) (by kernel_rfl) (by decide) (AllReadyH.cons (o := _) rfl (fun K hK' => ?_) AllReadyH.nil)
              obtain ⟨x1, x2⟩ := hCell.out
              have KS := Kn.rowSt hKd i (.int .i64 z)
              go_simp
              have HG := Lib.hid (HF.out _ (KS.sel [1, 4] 99 (by decide) (by decide)))
              refine hK'.out _ _ HG.out (fun hHeld2 => ?_)
              clear hK' K hHeld
              have hHeld := hHeld2
              clear hHeld2
              try simp only [Act.put, List.setIfInBounds_toArray]
              clear x1 x2
              refine wpAnyH_done (by kernel_rfl) ?_ _
              go_wp2_with fail
              go_roundw
              case rel => exact ⟨j + 1, by omega, by go_num, by rw [HST.out, List.map_set]; exact KS.sel [0, 1, 3, 4] 99 (by decide) (by decide)⟩
              case measure => simp [intOf] <;> omega
            · rw [evStep2] at hst
              have HST := Lib.hid hst
              go_wp2_with fail
              go_roundw
              case rel => exact ⟨j + 1, by omega, by go_num, by rw [HST.out]; exact (KE.drewN _).sel [0, 1, 3, 4] 99 (by decide) (by decide)⟩
              case measure => simp [intOf] <;> omega
            · rw [evStep3, Int.toNat_natCast] at hst
              obtain ⟨p, hp⟩ : ∃ p, i + 1 = p := ⟨_, rfl⟩
              have p1 : IntKind.i64.wrap ((i : Int) + 1) = (p : Int) := by rw [wrapI64 (by omega)]; omega
              rw [hp] at hst
              have pp : (0 : Int) ≤ (p : Int) := by omega
              have hpb : p ≤ 16 := by omega
              clear hp
              by_cases hpn : p < n
              · have pn : (p : Int) < (n : Int) := by omega
                have hil : p < ds.length := by omega
                have hdx := hdg ds[p] (List.getElem_mem hil)
                have HXX := Lib.hid (List.getElem?_eq_getElem hil)
                rw [evPut, getD_of hil] at hst
                obtain ⟨x, hx⟩ : ∃ x, ds[p] = x := ⟨_, rfl⟩
                rw [hx] at hst hdx HXX
                obtain ⟨y, hy⟩ : ∃ y, x + 1 = y := ⟨_, rfl⟩
                rw [hy] at hst
                have r1 : IntKind.i64.wrap (x + 1) = y := by rw [hy]; exact wrapI64 (by omega)
                obtain ⟨z, hz⟩ : ∃ z, y % b = z := ⟨_, rfl⟩
                rw [hz] at hst
                have r2 : Int.tmod y b = z := by rw [Int.tmod_eq_emod_of_nonneg (by omega)]; exact hz
                have r0 : ¬ b = 0 := by omega
                have HST := Lib.hid hst
                clear hx hy hz hst hdx hil
                go_upto_region 19 with fail
                have KE := KE.drewN nq
                clear o1 o2 o3 e1 e2 e3 z1 z2 z3 a1 a2 a3
                generalize wF.drewN nq = wE at KE ⊢
                have hKd := KE.drew
                have HG := Lib.hid (HF.out _ (hKd.sel [1, 4] 99 (by decide) (by decide)))
                refine wp_region_held_drew (S := fun W => W.cell? ⟨gO, 1, none⟩ = some (.slice (some ⟨gd, 0, none⟩) n ec) ∧ W.cell? ⟨g, 0, none⟩ = some (.int .i64 b)) (by kernel_rfl) ?_ (fun hHeld => ?_)
                · exact HG.out
                try dsimp only
                have hCell := Lib.hid (Kn.rowCell hKd (j := p) (u := .int .i64 x) (by rw [List.getElem?_map, HXX.out]; rfl))
                generalize wE.drew = wd at hKd HG hHeld hCell ⊢
                refine wpAnyH_take (i := 0) (v := ?_) rfl (by kernel_rfl) (by kernel_rfl) (by kernel_rfl) (fun _ _ _ h => h) (Or.inl ⟨by rfl, ?_⟩) hHeld ?_
                rotate_left
                · (intro w hSw; (try dsimp only at hSw); go_simp; try with_reducible rfl)
                try simp only [Act.put, List.setIfInBounds_toArray, List.set_cons_zero, List.set_cons_succ, List.getElem_toArray, List.getElem_cons_succ, List.getElem_cons_zero]
                refine wpAnyH_take (i := 1) (v := ?_) rfl (by kernel_rfl) (by kernel_rfl) (by kernel_rfl) (fun _ _ _ h => h) (Or.inl ⟨by rfl, ?_⟩) hHeld ?_
                rotate_left
                · (intro w hSw; (try dsimp only at hSw); go_simp; try with_reducible rfl)
                try simp only [Act.put, List.setIfInBounds_toArray, List.set_cons_zero, List.set_cons_succ, List.getElem_toArray, List.getElem_cons_succ, List.getElem_cons_zero]
                refine wpAnyH_take (i := 2) (v := ?_) rfl (by kernel_rfl) (by kernel_rfl) (by kernel_rfl) (fun _ _ _ h => h) (Or.inl ⟨by rfl, ?_⟩) hHeld ?_
                rotate_left
                · (intro w hSw; (try dsimp only at hSw); go_simp; try with_reducible rfl)
                try simp only [Act.put, List.setIfInBounds_toArray, List.set_cons_zero, List.set_cons_succ, List.getElem_toArray, List.getElem_cons_succ, List.getElem_cons_zero]
                refine wpAnyH_take (i := 3) (v := ?_) rfl (by kernel_rfl) (by kernel_rfl) (by kernel_rfl) (fun _ _ _ h => h) (Or.inl ⟨by rfl, ?_⟩) hHeld ?_
                rotate_left
                · (intro w hSw; (try dsimp only at hSw); go_simp; try with_reducible rfl)
                try simp only [Act.put, List.setIfInBounds_toArray, List.set_cons_zero, List.set_cons_succ, List.getElem_toArray, List.getElem_cons_succ, List.getElem_cons_zero]
                refine wpAnyH_take (i := 4) (v := ?_) rfl (by kernel_rfl) (by kernel_rfl) (by kernel_rfl) (fun _ _ _ h => h) (Or.inl ⟨by rfl, ?_⟩) hHeld ?_
                rotate_left
                · (intro w hSw; (try dsimp only at hSw); go_simp; try with_reducible rfl)
                try simp only [Act.put, List.setIfInBounds_toArray, List.set_cons_zero, List.set_cons_succ, List.getElem_toArray, List.getElem_cons_succ, List.getElem_cons_zero]
                refine wpAnyH_take (i := 5) (v := ?_) rfl (by kernel_rfl) (by kernel_rfl) (by kernel_rfl) (fun _ _ _ h => h) (Or.inl ⟨by rfl, ?_⟩) hHeld ?_
                rotate_left
                · (intro w hSw; (try dsimp only at hSw); go_simp; try with_reducible rfl)
                try simp only [Act.put, List.setIfInBounds_toArray, List.set_cons_zero, List.set_cons_succ, List.getElem_toArray, List.getElem_cons_succ, List.getElem_cons_zero]
                refine wpAnyH_take (i := 6) (v := ?_) rfl (by kernel_rfl) (by kernel_rfl) (by kernel_rfl) (fun _ _ _ h => h) (Or.inl ⟨by rfl, ?_⟩) hHeld ?_
                rotate_left
                · (intro w hSw; (try dsimp only at hSw); go_simp; try with_reducible rfl)
                try simp only [Act.put, List.setIfInBounds_toArray, List.set_cons_zero, List.set_cons_succ, List.getElem_toArray, List.getElem_cons_succ, List.getElem_cons_zero]
                refine wpAnyH_take (i := 8) (v := ?_) rfl (by kernel_rfl) (by kernel_rfl) (by kernel_rfl) (fun _ _ _ h => h) (Or.inl ⟨by rfl, ?_⟩) hHeld ?_
                rotate_left
                · (intro w hSw; (try dsimp only at hSw); go_simp; try with_reducible rfl)
                try simp only [Act.put, List.setIfInBounds_toArray, List.set_cons_zero, List.set_cons_succ, List.getElem_toArray, List.getElem_cons_succ, List.getElem_cons_zero]
                refine wpAnyH_take (i := 10) (v := ?_) rfl (by kernel_rfl) (by kernel_rfl) (by kernel_rfl) (fun _ _ _ h => h) (Or.inl ⟨by rfl, ?_⟩) hHeld ?_
                rotate_left
                · (intro w hSw; (try dsimp only at hSw); go_simp; try with_reducible rfl)
                try simp only [Act.put, List.setIfInBounds_toArray, List.set_cons_zero, List.set_cons_succ, List.getElem_toArray, List.getElem_cons_succ, List.getElem_cons_zero]
                refine wpAnyH_take (i := 11) (v := ?_) rfl (by kernel_rfl) (by kernel_rfl) (by kernel_rfl) (fun _ _ _ h => h) (Or.inl ⟨by rfl, ?_⟩) hHeld ?_
                rotate_left
                · (intro w hSw; (try dsimp only at hSw); go_simp; try with_reducible rfl)
                try simp only [Act.put, List.setIfInBounds_toArray, List.set_cons_zero, List.set_cons_succ, List.getElem_toArray, List.getElem_cons_succ, List.getElem_cons_zero]
                refine wpAnyH_ready (rs := [7]) (by kernel_rfl) (by decide) (AllReadyH.cons (o := _) rfl (fun K hK' => ?_) AllReadyH.nil)
                obtain ⟨x1, x2⟩ := hCell.out
                go_simp
                have HG := Lib.hid (HF.out _ (hKd.sel [1, 4] 99 (by decide) (by decide)))
                refine hK'.out _ _ HG.out (fun hHeld2 => ?_)
                clear hK' K hHeld
                have hHeld := hHeld2
                clear hHeld2
                try simp only [Act.put, List.setIfInBounds_toArray]
                clear x1 x2
                refine wpAnyH_take (i := 9) (v := ?_) rfl (by kernel_rfl) (by kernel_rfl) (by kernel_rfl) (fun _ _ _ h => h) (Or.inl ⟨by rfl, ?_⟩) hHeld ?_
                rotate_left
                · (intro w hSw; (try dsimp only at hSw); go_simp; try with_reducible rfl)
                try simp only [Act.put, List.setIfInBounds_toArray, List.set_cons_zero, List.set_cons_succ, List.getElem_toArray, List.getElem_cons_succ, List.getElem_cons_zero]
                refine wpAnyH_take (i := 12) (v := ?_) rfl (by kernel_rfl) (by kernel_rfl) (by kernel_rfl) (fun _ _ _ h => h) (Or.inl ⟨by rfl, ?_⟩) hHeld ?_
                rotate_left
                · (intro w hSw; (try dsimp only at hSw); go_simp; try with_reducible rfl)
                try simp only [Act.put, List.setIfInBounds_toArray, List.set_cons_zero, List.set_cons_succ, List.getElem_toArray, List.getElem_cons_succ, List.getElem_cons_zero]
                refine wpAnyH_take (i := 13) (v := ?_) rfl (by kernel_rfl) (by kernel_rfl) (by kernel_rfl) (fun _ _ _ h => h) (Or.inl ⟨by rfl, ?_⟩) hHeld ?_
                rotate_left
                · (intro w hSw; (try dsimp only at hSw); go_simp; try with_reducible rfl)
                try simp only [Act.put, List.setIfInBounds_toArray, List.set_cons_zero, List.set_cons_succ, List.getElem_toArray, List.getElem_cons_succ, List.getElem_cons_zero]
                refine wpAnyH_ready (rs := [14]) (by kernel_rfl) (by decide) (AllReadyH.cons (o := _) rfl (fun K hK' => ?_) AllReadyH.nil)
                obtain ⟨x1, x2⟩ := hCell.out
                have KS := Kn.rowSt hKd p (.int .i64 z)
                go_simp
                have HG := Lib.hid (HF.out _ (KS.sel [1, 4] 99 (by decide) (by decide)))
                refine hK'.out _ _ HG.out (fun hHeld2 => ?_)
                clear hK' K hHeld
                have hHeld := hHeld2
                clear hHeld2
                try simp only [Act.put, List.setIfInBounds_toArray]
                clear x1 x2
                refine wpAnyH_done (by kernel_rfl) ?_ _
                go_wp2_with fail
                go_roundw
                case rel => exact ⟨j + 1, by omega, by go_num, by rw [HST.out, List.map_set]; exact KS.sel [0, 1, 3, 4] 99 (by decide) (by decide)⟩
                case measure => simp [intOf] <;> omega
              · have pn : ¬ (p : Int) < (n : Int) := by omega
                rw [evPut, List.set_eq_of_length_le (by omega)] at hst
                have HST := Lib.hid hst
                clear hst
                go_wp2_with fail
                go_roundw
                case rel => exact ⟨j + 1, by omega, by go_num, by rw [HST.out]; exact (KE.drewN _).sel [0, 1, 3, 4] 99 (by decide) (by decide)⟩
                case measure => simp [intOf] <;> omega
          · have i1 : ¬ (j : Int) < (k : Int) := by omega
            obtain rfl : j = k := by omega
            rw [HALL.out] at KR
            have KR2 : Kn w [rowI (some ⟨gd, 0, none⟩) ec R, .blk gO [.int .i64 b, .slice (some ⟨gd, 0, none⟩) n ec] 33, .blk (g + 1) [.int .i64 0, .slice none 0 0] 33, .blk g [.int .i64 b, .slice XA n xc] 33] wr := by unfold rowI; rw [HFL.out]; exact KR
            clear KR
            obtain ⟨o1, o2, o3, z1, z2, z3, -⟩ := (KR2.front 0 rfl).cells
            go_wp2_with (go_at_call 108; (refine (KO.out _ ec _ (KR2.rivN HFL.out)).mono ?_); rintro e w8 ⟨rfl, hw⟩; have K8 := KR2.keep hw; clear hw o1 o2 o3 z1 z2 z3; obtain ⟨o1, o2, o3, z1, z2, z3, -⟩ := (K8.front 0 rfl).cells)
            clear o1 o2 o3 z1 z2 z3
            refine bodyPost.kn (((K8.front 2 rfl).st 0 (.int .i64 b)).st 1 (.slice (some ⟨gd, 0, none⟩) n ec)) ?_; intro w9 K9
            obtain ⟨a1, a2, a3, -⟩ := K9.cells
            exact bodyPost_ret (v := .tuple #[.agg #[.int .i64 b, .slice (some ⟨gd, 0, none⟩) n ec], .int .i64 0]) (by simp [results, Tryd.results33, go_sem, a1]) rfl ⟨_, ec, rfl, K9.sel [1] 99 (by decide) (by decide)⟩
end Go.Proofs.YtlhcilmnfmglfaaDoor

namespace Go.Proofs.YtlhcilmnfmglfaaDoor
open Go.RowKit Go.Sort
set_option maxRecDepth 100000 in
set_option maxHeartbeats 3200000 in
theorem PushLevers_ok (b : Int) (xs ys : List Int) (hv1 : vreg b xs = true) (hv2 : vreg b ys = true) (n : Nat) (hxn : xs.length = n) (hvt : vreg b (turnD b xs ys n) = true) (hva : vreg b (addD b xs ys n) = true) (E : Option Addr) (ec : Nat) (C : Option Addr) (cc : Nat) (w : World) (hx : RI w E n (turnD b xs ys n)) (hc : RL BlM 1 w C n (cockL b xs ys n)) :
    Calls Tryd.prog 39 #[.agg #[.int .i64 b, .slice E n ec], .slice C n cc] w fun e w' => ∃ F fc, e = .returned (.tuple #[.agg #[.int .i64 b, .slice F n fc], .int .i64 (carK b xs ys n), .int .i64 0]) ∧ Kn w [rowI F fc (addD b xs ys n)] w' := by
  obtain ⟨⟨b1, b2⟩, ⟨n1, n2⟩, hdx, -⟩ := vreg_iff.1 hv1
  have hdy := (vreg_iff.1 hv2).2.2.1
  rw [hxn] at n1 n2
  have htl := turnD_len b xs ys n
  have KX := (fun W (hW : Below w.heap.size w W) => calls_val (ValidRegister_any b E n ec (turnD b xs ys n) W (hx.below hW) (by omega)) (congrArg Value.bool hvt))
  have KU := (fun W (hW : Below w.heap.size w W) => pushed_ok b xs ys hv1 hv2 n (by omega) n2 E ec C cc W (hx.below hW) (hc.below steady_BlM hW))
  unfold PRet at KU
  obtain ⟨m, hm⟩ : ∃ m, n = m + 1 := ⟨n - 1, by omega⟩
  have hlast : (levL b xs ys n).getD m false = decide (carK b xs ys n = 1) := by
    rw [List.getD_eq_getElem?_getD, levL_get (by omega), Option.getD_some, hm]
  have hcar := car_one b1 hdx hdy n
  have hal := addD_len b xs ys n
  have KL := (fun D dc W (hr : RL BlM 1 W D n (levL b xs ys n)) => (by
    have h := lastCarry_any D m dc (levL b xs ys n) W (by rw [← hm]; exact hr) (by omega)
    rw [hlast, ← hm] at h
    exact h : Calls Tryd.prog 111 #[.slice D n dc] W fun e w' => e = .returned (.int .i64 (if decide (carK b xs ys n = 1) = true then 1 else 0)) ∧ Below W.heap.size W w'))
  have hcv : (if decide (carK b xs ys n = 1) = true then (1 : Int) else 0) = carK b xs ys n := by
    rcases hcar with h | h <;> rw [h] <;> rfl
  rw [hcv] at KL
  obtain ⟨ls, hls⟩ : ∃ s, levL b xs ys n = s := ⟨_, rfl⟩
  obtain ⟨ds, hds⟩ : ∃ s, addD b xs ys n = s := ⟨_, rfl⟩
  obtain ⟨cr, hcr⟩ : ∃ s, carK b xs ys n = s := ⟨_, rfl⟩
  rw [hds] at hal hva
  simp only [hls, hds, hcr] at KU KL ⊢
  have KW := (fun F fc W (hr : RI W F n ds) => (by
    have h := whole_ok b cr F fc ds W (by rw [hal]; exact hr) hva
    rw [hal] at h
    exact h : Calls Tryd.prog 110 #[.agg #[.int .i64 b, .slice F n fc], .int .i64 cr] W fun e w' => e = .returned (.tuple #[.agg #[.int .i64 b, .slice F n fc], .int .i64 cr, .int .i64 0]) ∧ Below W.heap.size W w'))
  replace KX := Lib.hid KX
  replace KU := Lib.hid KU
  replace KL := Lib.hid KL
  replace KW := Lib.hid KW
  have KWD := Lib.hid (fun W => width_any b E n ec W)
  have HAL := Lib.hid hal
  have z1 : ((n : Int) != (n : Int)) = false := bne_self_eq_false _
  clear hls hds hcr hal hva hcar hlast hcv hm htl hdx hdy hv1 hv2 hvt hx hc hxn
  obtain ⟨g, hg⟩ : ∃ g, w.heap.size = g := ⟨_, rfl⟩
  have K0 := ((Kn.nil w).al [.int .i64 b, .slice E n ec] 33).al [.int .i64 0, .slice none 0 0] 33
  simp only [World.size_alloc, hg] at K0
  go_enter Tryd.func39, Tryd.ntmps39
  go_upto_region 1 with fail
  try rw [hg]
  refine Code.wp.kn K0 ?_; clear K0; intro w1 K1
  obtain ⟨a1, a2, a3, d1, d2, d3, -⟩ := K1.cells
  go_upto_region 6 with (first
    | (go_at_call 104; (refine (KX.out _ K1.below).mono ?_); rintro e w2 ⟨rfl, hw⟩; have K2 := K1.keep hw; clear hw a1 a2 a3 d1 d2 d3; obtain ⟨a1, a2, a3, d1, d2, d3, -⟩ := K2.cells)
    | (go_at_call 106; (refine (KWD.out _).mono ?_); rintro e w3 ⟨rfl, hw⟩; have K3 := K2.keep hw; clear hw a1 a2 a3 d1 d2 d3; obtain ⟨a1, a2, a3, d1, d2, d3, -⟩ := K3.cells)
    | (go_at_call 100; (refine (KU.out _ K3.below).mono ?_); rintro e w4 ⟨F, fc, D, dc, rfl, hl1, hl2, hK⟩; have K4 := K3.join hK; clear hK a1 a2 a3 d1 d2 d3))
  obtain ⟨g7, hg7⟩ : ∃ g, w4.heap.size = g := ⟨_, rfl⟩
  have K5 := K4.al [.int .i64 b, .slice F n fc] 33
  rw [hg7] at K5
  try rw [hg7]
  refine Code.wp.kn K5 ?_; clear K4 K5 hg7 K1 K2 K3; intro w5 K5
  have HL1 := Lib.hid hl1
  have HL2 := Lib.hid hl2
  clear hl1 hl2
  have HF := Lib.hid (fun W (h : Kn w [.blk g7 [.int .i64 b, .slice F n fc] 33] W) => box2 h)
  have hKd := K5.drew
  have HG := Lib.hid (HF.out _ (hKd.sel [0] 99 (by decide) (by decide)))
  refine wp_region_held_drew (S := fun W => W.cell? ⟨g7, 0, none⟩ = some (.int .i64 b) ∧ W.cell? ⟨g7, 1, none⟩ = some (.slice F n fc)) (by kernel_rfl) ?_ (fun hHeld => ?_)
  · exact HG.out
  try dsimp only
  generalize w5.drew = wd at hKd HG hHeld ⊢
  clear K5
  refine wpAnyH_take (i := 0) (v := ?_) rfl (by kernel_rfl) (by kernel_rfl) (by kernel_rfl) (fun _ _ _ h => h) (Or.inl ⟨by rfl, ?_⟩) hHeld ?_
  rotate_left
  · (intro w hSw; (try dsimp only at hSw); go_simp; try with_reducible rfl)
  try simp only [Act.put, List.setIfInBounds_toArray, List.set_cons_zero, List.set_cons_succ, List.getElem_toArray, List.getElem_cons_succ, List.getElem_cons_zero]
  refine wpAnyH_take (i := 1) (v := ?_) rfl (by kernel_rfl) (by kernel_rfl) (by kernel_rfl) (fun _ _ _ h => h) (Or.inl ⟨by rfl, ?_⟩) hHeld ?_
  rotate_left
  · (intro w hSw; (try dsimp only at hSw); go_simp; try with_reducible rfl)
  try simp only [Act.put, List.setIfInBounds_toArray, List.set_cons_zero, List.set_cons_succ, List.getElem_toArray, List.getElem_cons_succ, List.getElem_cons_zero]
  refine wpAnyH_ready (rs := [2]) (by kernel_rfl) (by decide) (AllReadyH.cons (o := _) rfl (fun K hK' => ?_) AllReadyH.nil)
  go_simp
  refine (KL.out D dc _ ((hKd.front 2 rfl).rlBlN HL2.out)).mono ?_
  rintro e w6 ⟨rfl, hw⟩
  have K6 := hKd.keep hw
  clear hw
  have HG := Lib.hid (HF.out _ (K6.sel [0] 99 (by decide) (by decide)))
  refine hK'.out _ _ HG.out (fun hHeld2 => ?_)
  clear hK' K hHeld
  have hHeld := hHeld2
  clear hHeld2
  try simp only [Act.put, List.setIfInBounds_toArray]
  refine wpAnyH_ready (rs := [3]) (by kernel_rfl) (by decide) (AllReadyH.cons (o := _) rfl (fun K hK' => ?_) AllReadyH.nil)
  go_simp
  refine (KW.out F fc _ ((K6.front 1 rfl).rivN HL1.out)).mono ?_
  rintro e w7 ⟨rfl, hw⟩
  have K7 := K6.keep hw
  clear hw
  have HG := Lib.hid (HF.out _ (K7.sel [0] 99 (by decide) (by decide)))
  refine hK'.out _ _ HG.out (fun hHeld2 => ?_)
  clear hK' K hHeld
  have hHeld := hHeld2
  clear hHeld2
  try simp only [Act.put, List.setIfInBounds_toArray]
  refine wpAnyH_take (i := 4) (v := ?_) rfl (by kernel_rfl) (by kernel_rfl) (by kernel_rfl) (fun _ _ _ h => h) (Or.inl ⟨by rfl, ?_⟩) hHeld ?_
  rotate_left
  · (intro w hSw; (try dsimp only at hSw); go_simp; try with_reducible rfl)
  try simp only [Act.put, List.setIfInBounds_toArray, List.set_cons_zero, List.set_cons_succ, List.getElem_toArray, List.getElem_cons_succ, List.getElem_cons_zero]
  refine wpAnyH_take (i := 5) (v := ?_) rfl (by kernel_rfl) (by kernel_rfl) (by kernel_rfl) (fun _ _ _ h => h) (Or.inl ⟨by rfl, ?_⟩) hHeld ?_
  rotate_left
  · (intro w hSw; (try dsimp only at hSw); go_simp; try with_reducible rfl)
  try simp only [Act.put, List.setIfInBounds_toArray, List.set_cons_zero, List.set_cons_succ, List.getElem_toArray, List.getElem_cons_succ, List.getElem_cons_zero]
  refine wpAnyH_take (i := 6) (v := ?_) rfl (by kernel_rfl) (by kernel_rfl) (by kernel_rfl) (fun _ _ _ h => h) (Or.inl ⟨by rfl, ?_⟩) hHeld ?_
  rotate_left
  · (intro w hSw; (try dsimp only at hSw); go_simp; try with_reducible rfl)
  try simp only [Act.put, List.setIfInBounds_toArray, List.set_cons_zero, List.set_cons_succ, List.getElem_toArray, List.getElem_cons_succ, List.getElem_cons_zero]
  refine wpAnyH_ready (rs := [7]) (by kernel_rfl) (by decide) (AllReadyH.cons (o := _) rfl (fun K hK' => ?_) AllReadyH.nil)
  obtain ⟨s1, s2, s3, -⟩ := (K7.front 3 rfl).cells
  have K8 := ((K7.front 3 rfl).st 0 (.int .i64 b)).st 1 (.slice F n fc)
  go_simp
  clear s1 s2 s3
  have HG := Lib.hid (HF.out _ (K8.sel [1] 99 (by decide) (by decide)))
  refine hK'.out _ _ HG.out (fun hHeld2 => ?_)
  clear hK' K hHeld
  have hHeld := hHeld2
  clear hHeld2
  try simp only [Act.put, List.setIfInBounds_toArray]
  refine wpAnyH_take (i := 8) (v := ?_) rfl (by kernel_rfl) (by kernel_rfl) (by kernel_rfl) (fun _ _ _ h => h) (Or.inl ⟨by rfl, ?_⟩) hHeld ?_
  rotate_left
  · (intro w hSw; (try dsimp only at hSw); go_simp; try with_reducible rfl)
  try simp only [Act.put, List.setIfInBounds_toArray, List.set_cons_zero, List.set_cons_succ, List.getElem_toArray, List.getElem_cons_succ, List.getElem_cons_zero]
  refine wpAnyH_take (i := 9) (v := ?_) rfl (by kernel_rfl) (by kernel_rfl) (by kernel_rfl) (fun _ _ _ h => h) (Or.inl ⟨by rfl, ?_⟩) hHeld ?_
  rotate_left
  · (intro w hSw; (try dsimp only at hSw); go_simp; try with_reducible rfl)
  try simp only [Act.put, List.setIfInBounds_toArray, List.set_cons_zero, List.set_cons_succ, List.getElem_toArray, List.getElem_cons_succ, List.getElem_cons_zero]
  refine wpAnyH_done (by kernel_rfl) ?_ _
  go_wp2_with fail
  refine bodyPost.kn K8 ?_; intro w9 K9
  obtain ⟨a1, a2, a3, -⟩ := K9.cells
  exact bodyPost_ret (v := .tuple #[.agg #[.int .i64 b, .slice F n fc], .int .i64 cr, .int .i64 0]) (by simp [results, Tryd.results39, go_sem, a1]) rfl ⟨F, fc, rfl, K9.sel [2] 99 (by decide) (by decide)⟩
end Go.Proofs.YtlhcilmnfmglfaaDoor

namespace Go.Proofs.YtlhcilmnfmglfaaDoor
open Go.RowKit Go.Sort
theorem tpS : TP 94 9 (.string ⟨#[]⟩) 1 16 := ⟨Tryd.underlying94, by kernel_rfl, rfl, by decide⟩
/-- a row of strings that is owned -/
def rowS (v : Value) (ss : List ByteArray) : Ent := .row v 9 1 ss.length (ss.map Value.string)
theorem Kn.rowS_at {w0 w : World} {m : List Ent} {A : Option Addr} {n c : Nat} {ss : List ByteArray} (h : Kn w0 (rowS (.slice A n c) ss :: m) w) {k : Nat} (hk : k < ss.length) :
    n = ss.length ∧ ∃ g, A = some ⟨g, 0, none⟩ ∧ w.cell? ⟨g, k, none⟩ = some (.string ss[k]) ∧ w0.heap.size ≤ g ∧ g < w.heap.size := by
  have h0 : w.ownsRow 0 9 1 (.slice A n c) ss.length (ss.map Value.string) := h.at0
  rcases h0.2 with ⟨hv, hn⟩ | ⟨g, cap, cur, hv, -, hg, -⟩
  · omega
  · injection hv with h1 h2 h3
    rw [h1] at h0
    have d1 := h0.cells (g := g) rfl k (.string ss[k]) (by simp [hk])
    rw [add_zero_block] at d1
    exact ⟨h2, g, h1, d1, h.own _ (List.mem_cons_self ..) g (by rw [h1]; rfl), (Array.getElem?_eq_some_iff.1 hg).1⟩
theorem kn_pushS {ops : Array Oper} {rest : List Oper} {o : Oper} {a : Act} {Q : Exit → Act → World → Prop} {w0 w : World} {m : List Ent} (hgd : o.guard = none) (s x : Operand) (ho : o.op = .call { callee := .builtin .append, args := #[s, x], argTypes := #[94, 94] })
    (v : Value) (ss : List ByteArray) (hs : a.eval s = v) {g c : Nat} {T' : TypeId} {z : ByteArray} (hx : a.eval x = .slice (some ⟨g, 0, none⟩) 1 c)
    (hK : Kn w0 (.blk g [.string z] T' :: rowS v ss :: m) w) (hl : ss.length ≤ 10000000)
    (h : ∀ v' w', Kn w0 (rowS v' (ss ++ [z]) :: m) w' → wpList Tryd.prog ops Q rest (a.put o.dst v') w') : wpList Tryd.prog ops Q (o :: rest) a w := by
  refine kn_app tpS hgd s x ho v ss.length (ss.map Value.string) hs hx hK rfl (by simp [Value.oneCell']) (by omega) (by omega) (fun v' w' hK' => h v' w' ?_)
  unfold rowS
  rw [List.length_append, List.map_append, List.map_cons, List.map_nil]
  exact hK'
/-- the parts of bytes between bytes -/
def splitB (k : Nat) : List UInt8 → List (List UInt8)
  | [] => [[]]
  | b :: tl => if b.toNat = k then [] :: splitB k tl else match splitB k tl with
    | [] => [[b]]
    | h :: t => (b :: h) :: t
def glue (p : List UInt8) : List (List UInt8) → List (List UInt8)
  | [] => [p]
  | h :: t => (p ++ h) :: t
theorem splitB_ne (k : Nat) (bs : List UInt8) : splitB k bs ≠ [] := by
  cases bs with
  | nil => simp [splitB]
  | cons b tl =>
    simp only [splitB]
    split
    · simp
    · split <;> simp
theorem glue_nil (l : List (List UInt8)) (h : l ≠ []) : glue [] l = l := by
  cases l with
  | nil => exact absurd rfl h
  | cons a t => rfl
theorem splitB_cons (k : Nat) (b : UInt8) (tl : List UInt8) : splitB k (b :: tl) = if b.toNat = k then [] :: splitB k tl else glue [b] (splitB k tl) := by
  simp only [splitB]
  split
  · rfl
  · cases splitB k tl <;> rfl
theorem glue_glue (p : List UInt8) (b : UInt8) (l : List (List UInt8)) : glue p (glue [b] l) = glue (p ++ [b]) l := by cases l <;> simp [glue]
theorem splitB_len (k : Nat) (bs : List UInt8) : (splitB k bs).length ≤ bs.length + 1 := by
  induction bs with
  | nil => simp [splitB]
  | cons b tl ih =>
    rw [splitB_cons]
    split
    · simp; omega
    · cases h : splitB k tl with
      | nil => simp [glue]
      | cons a t => rw [h] at ih; simp [glue] at ih ⊢; omega
theorem take_piece {bs : List UInt8} {f i : Nat} (h : i < bs.length) (hf : f ≤ i) : (bs.drop f).take (i + 1 - f) = (bs.drop f).take (i - f) ++ [bs[i]] := by
  rw [show i + 1 - f = (i - f) + 1 by omega, List.take_succ_eq_append_getElem (by rw [List.length_drop]; omega)]
  congr 2
  rw [List.getElem_drop]
  congr 1; omega
set_option maxRecDepth 100000 in
set_option maxHeartbeats 1600000 in
theorem l01Split_any (s : ByteArray) (kd : UInt8) (w : World) (hs : s.size ≤ 1048576) :
    Calls Tryd.prog 196 #[.string s, .int .u8 (kd.toNat : Int)] w fun e w' => ∃ A c ss, e = .returned (.slice A ss.length c) ∧ ss.map strB = splitB kd.toNat (strB s) ∧ Kn w [rowS (.slice A ss.length c) ss] w' := by
  have HSL := Lib.hid (strB_len s)
  obtain ⟨kn, hkn⟩ : ∃ k : Nat, kd.toNat = k := ⟨_, rfl⟩
  rw [hkn]
  clear hkn
  go_enter Tryd.func196, Tryd.ntmps196
  have hK0 := ((Kn.nil w).al [] 9).litRow (n := 0) (size := 1) rfl (by decide)
  go_wp2_with fail
  go_loopw [5, 6, 7] (fun vv ff ii wr => ∃ (f i : Nat) (ss : List ByteArray), f ≤ i ∧ i ≤ s.size ∧ ff = .int .i64 f ∧ ii = .int .i64 i ∧ ss.length ≤ i ∧
    splitB kn (strB s) = ss.map strB ++ glue (((strB s).drop f).take (i - f)) (splitB kn ((strB s).drop i)) ∧ Kn w [rowS vv ss] wr) (fun _ _ i _ => s.size - (intOf i).toNat)
  case atStart => exact ⟨0, 0, [], by omega, by omega, rfl, rfl, by simp, by simp [glue_nil _ (splitB_ne _ _)], hK0⟩
  case round =>
    rename_i vv _ _
    obtain ⟨f, i, ss, hf, hi, rfl, rfl, hsl, hsp, hK⟩ := hrel
    have HSP := Lib.hid hsp
    clear hsp hK0
    have i0 : (0 : Int) ≤ (i : Int) := by omega
    have f0 : (0 : Int) ≤ (f : Int) := by omega
    have f1 : (f : Int) ≤ (i : Int) := by omega
    have f2 : (f : Int) ≤ (s.size : Int) := by omega
    have i2 : (i : Int) ≤ (s.size : Int) := by omega
    by_cases hlt : i < s.size
    · obtain ⟨q, hq⟩ : ∃ q : UInt8, s[i] = q := ⟨_, rfl⟩
      obtain ⟨z, hz⟩ : ∃ z : Nat, q.toNat = z := ⟨_, rfl⟩
      have hil : i < (strB s).length := by rw [HSL.out]; exact hlt
      have hg : (strB s)[i] = q := by rw [← hq, strB_get s hlt]
      have hdr : (strB s).drop i = q :: (strB s).drop (i + 1) := by rw [List.drop_eq_getElem_cons hil, hg]
      have i1 : (i : Int) < (s.size : Int) := by omega
      have HS2 := Lib.hid (show splitB kn ((strB s).drop i) = if z = kn then [] :: splitB kn ((strB s).drop (i + 1)) else glue [q] (splitB kn ((strB s).drop (i + 1))) by rw [hdr, splitB_cons, hz])
      have HP := Lib.hid (take_piece (f := f) hil hf)
      rw [hg] at HP
      clear hdr hg
      by_cases hzk : z = kn
      · have k1 : ((z : Int) == (kn : Int)) = true := by rw [beq_iff_eq]; omega
        have k2 : (z : Int) = (kn : Int) := by omega
        have HS3 : Hid (splitB kn (strB s) = (ss ++ [s.extract f i]).map strB ++ glue [] (splitB kn ((strB s).drop (i + 1)))) := by
          simp only [Hid]
          rw [HSP.out, HS2.out, if_pos hzk, glue_nil _ (splitB_ne _ _), List.map_append, List.map_cons, List.map_nil, strB_extract]
          simp [glue]
        clear hzk k2
        go_wp2_with (at_builtin; refine kn_pushS rfl _ _ rfl _ ss rfl rfl (hK.al [.string (s.extract f i)] 9) (by omega) ?_; intro v5 w6 hK4)
        go_roundw
        case rel => exact ⟨i + 1, i + 1, ss ++ [s.extract f i], by omega, by omega, by go_num, by go_num, by rw [List.length_append]; simp; omega, by rw [Nat.sub_self, List.take_zero]; exact HS3.out, hK4⟩
        case measure => simp [intOf]; omega
      · have k1 : ((z : Int) == (kn : Int)) = false := by rw [beq_eq_false_iff_ne]; omega
        have HS3 : Hid (splitB kn (strB s) = ss.map strB ++ glue (((strB s).drop f).take (i + 1 - f)) (splitB kn ((strB s).drop (i + 1)))) := by
          simp only [Hid]
          rw [HSP.out, HS2.out, if_neg hzk, glue_glue, HP.out]
        clear hzk
        go_wp2_with fail
        go_roundw
        case rel => exact ⟨f, i + 1, ss, by omega, by omega, rfl, by go_num, by omega, HS3.out, hK⟩
        case measure => simp [intOf]; omega
    · have i1 : ¬ (i : Int) < (s.size : Int) := by omega
      have HS3 : Hid ((ss ++ [s.extract f s.size]).map strB = splitB kn (strB s)) := by
        simp only [Hid]
        rw [HSP.out, List.drop_of_length_le (show (strB s).length ≤ i by rw [HSL.out]; omega), List.map_append, List.map_cons, List.map_nil, strB_drop]
        simp only [splitB, glue, List.append_nil]
        rw [List.take_of_length_le (by rw [List.length_drop, HSL.out]; omega)]
      go_wp2_with (at_builtin; refine kn_pushS rfl _ _ rfl _ ss rfl rfl (hK.al [.string (s.extract f s.size)] 9) (by omega) ?_; intro v5 w6 hK4)
      obtain ⟨A, c, rfl⟩ := row_form hK4.at0
      go_ret
      exact ⟨A, c, _, rfl, HS3.out, hK4⟩
/-- the parts of bytes without blanks -/
def wordsB (bs : List UInt8) : List (List UInt8) := (splitB 32 bs).filter (fun l => !l.isEmpty)
def wordsG (p : List UInt8) (bs : List UInt8) : List (List UInt8) := (glue p (splitB 32 bs)).filter (fun l => !l.isEmpty)
set_option maxRecDepth 100000 in
set_option maxHeartbeats 1600000 in
theorem SplitWords_any (s : ByteArray) (w : World) (hs : s.size ≤ 1048576) :
    Calls Tryd.prog 202 #[.string s] w fun e w' => ∃ A c ss, e = .returned (.slice A ss.length c) ∧ ss.map strB = wordsB (strB s) ∧ Kn w [rowS (.slice A ss.length c) ss] w' := by
  have HSL := Lib.hid (strB_len s)
  go_enter Tryd.func202, Tryd.ntmps202
  have hK0 := ((Kn.nil w).al [] 9).litRow (n := 0) (size := 1) rfl (by decide)
  go_wp2_with fail
  go_loopw [3, 4, 9] (fun vv ff ii wr => ∃ (i : Nat) (ss : List ByteArray), i ≤ s.size ∧ ii = .int .i64 i ∧ ss.length ≤ i ∧
    ((ff = .int .i64 (-1) ∧ wordsB (strB s) = ss.map strB ++ wordsG [] ((strB s).drop i)) ∨
      ∃ f : Nat, f < i ∧ ff = .int .i64 f ∧ wordsB (strB s) = ss.map strB ++ wordsG (((strB s).drop f).take (i - f)) ((strB s).drop i)) ∧ Kn w [rowS vv ss] wr) (fun _ _ i _ => s.size - (intOf i).toNat)
  case atStart => exact ⟨0, [], by omega, rfl, by simp, .inl ⟨rfl, by simp [wordsB, wordsG, glue_nil _ (splitB_ne _ _)]⟩, hK0⟩
  case round =>
    rename_i vv ff _
    obtain ⟨i, ss, hi, rfl, hsl, hor, hK⟩ := hrel
    clear hK0
    have i0 : (0 : Int) ≤ (i : Int) := by omega
    have i2 : (i : Int) ≤ (s.size : Int) := by omega
    by_cases hlt : i < s.size
    · obtain ⟨q, hq⟩ : ∃ q : UInt8, s[i] = q := ⟨_, rfl⟩
      obtain ⟨z, hz⟩ : ∃ z : Nat, q.toNat = z := ⟨_, rfl⟩
      have hil : i < (strB s).length := by rw [HSL.out]; exact hlt
      have hg : (strB s)[i] = q := by rw [← hq, strB_get s hlt]
      have hdr : (strB s).drop i = q :: (strB s).drop (i + 1) := by rw [List.drop_eq_getElem_cons hil, hg]
      have i1 : (i : Int) < (s.size : Int) := by omega
      have HS2 := Lib.hid (show splitB 32 ((strB s).drop i) = if z = 32 then [] :: splitB 32 ((strB s).drop (i + 1)) else glue [q] (splitB 32 ((strB s).drop (i + 1))) by rw [hdr, splitB_cons, hz])
      have HPP := Lib.hid (fun f hf => take_piece (f := f) hil hf)
      rw [hg] at HPP
      clear hdr hg
      by_cases hzk : z = 32
      · have k1 : ((z : Int) == 32) = true := by rw [beq_iff_eq]; omega
        have k3 : ((z : Int) != 32) = false := by simp [bne, k1]
        have HZK := Lib.hid hzk
        clear hzk
        rcases hor with ⟨rfl, hsp⟩ | ⟨f, hf, rfl, hsp⟩
        · have HS3 : Hid (wordsB (strB s) = ss.map strB ++ wordsG [] ((strB s).drop (i + 1))) := by
            simp only [Hid]
            rw [hsp]; unfold wordsG
            rw [HS2.out, if_pos HZK.out, glue_nil (splitB 32 ((strB s).drop (i + 1))) (splitB_ne _ _)]
            simp [glue]
          clear hsp
          go_wp2_with fail
          go_roundw
          case rel => exact ⟨i + 1, ss, by omega, by go_num, by omega, .inl ⟨rfl, HS3.out⟩, hK⟩
          case measure => simp [intOf]; omega
        · have hne : (((strB s).drop f).take (i - f)).isEmpty = false := by
            cases h : ((strB s).drop f).take (i - f) with
            | nil =>
              have := congrArg List.length h
              rw [List.length_take, List.length_drop, HSL.out] at this
              simp at this; omega
            | cons a l => rfl
          have HS3 : Hid (wordsB (strB s) = (ss ++ [s.extract f i]).map strB ++ wordsG [] ((strB s).drop (i + 1))) := by
            simp only [Hid]
            rw [hsp]; unfold wordsG
            rw [HS2.out, if_pos HZK.out, List.map_append, List.map_cons, List.map_nil, strB_extract, glue_nil _ (splitB_ne _ _)]
            simp only [glue, List.append_nil]
            rw [List.filter_cons, hne]; simp
          have f0 : (0 : Int) ≤ (f : Int) := by omega
          have f1 : (f : Int) ≤ (i : Int) := by omega
          have f2 : ¬ (f : Int) < 0 := by omega
          clear hsp hne
          go_wp2_with (at_builtin; refine kn_pushS rfl _ _ rfl _ ss rfl rfl (hK.al [.string (s.extract f i)] 9) (by omega) ?_; intro v5 w6 hK4)
          go_roundw
          case rel => exact ⟨i + 1, ss ++ [s.extract f i], by omega, by go_num, by rw [List.length_append]; simp; omega, .inl ⟨rfl, HS3.out⟩, hK4⟩
          case measure => simp [intOf]; omega
      · have k1 : ((z : Int) == 32) = false := by rw [beq_eq_false_iff_ne]; omega
        have k3 : ((z : Int) != 32) = true := by simp [bne, k1]
        have HZK := Lib.hid hzk
        clear hzk
        rcases hor with ⟨rfl, hsp⟩ | ⟨f, hf, rfl, hsp⟩
        · have HS3 : Hid (wordsB (strB s) = ss.map strB ++ wordsG (((strB s).drop i).take (i + 1 - i)) ((strB s).drop (i + 1))) := by
            simp only [Hid]
            rw [hsp]; unfold wordsG
            rw [HS2.out, if_neg HZK.out, HPP.out i (Nat.le_refl _), glue_glue]; simp
          clear hsp
          go_wp2_with fail
          go_roundw
          case rel => exact ⟨i + 1, ss, by omega, by go_num, by omega, .inr ⟨i, by omega, rfl, HS3.out⟩, hK⟩
          case measure => simp [intOf]; omega
        · have HS3 : Hid (wordsB (strB s) = ss.map strB ++ wordsG (((strB s).drop f).take (i + 1 - f)) ((strB s).drop (i + 1))) := by
            simp only [Hid]
            rw [hsp]; unfold wordsG
            rw [HS2.out, if_neg HZK.out, HPP.out f (by omega), glue_glue]
          have f2 : ¬ (f : Int) < 0 := by omega
          have f0 : (0 : Int) ≤ (f : Int) := by omega
          clear hsp
          go_wp2_with fail
          go_roundw
          case rel => exact ⟨i + 1, ss, by omega, by go_num, by omega, .inr ⟨f, by omega, rfl, HS3.out⟩, hK⟩
          case measure => simp [intOf]; omega
    · have i1 : ¬ (i : Int) < (s.size : Int) := by omega
      have hdn : (strB s).drop i = [] := List.drop_of_length_le (show (strB s).length ≤ i by rw [HSL.out]; omega)
      rcases hor with ⟨rfl, hsp⟩ | ⟨f, hf, rfl, hsp⟩
      · have HS3 : Hid (ss.map strB = wordsB (strB s)) := by
          simp only [Hid]; rw [hsp, hdn]; simp [wordsG, splitB, glue]
        clear hsp hdn
        obtain ⟨A, c, rfl⟩ := row_form hK.at0
        go_wp2_with fail
        go_ret
        exact ⟨A, c, ss, rfl, HS3.out, hK⟩
      · have hne : (((strB s).drop f).take (i - f)).isEmpty = false := by
          cases h : ((strB s).drop f).take (i - f) with
          | nil =>
            have := congrArg List.length h
            rw [List.length_take, List.length_drop, HSL.out] at this
            simp at this; omega
          | cons a l => rfl
        have HS3 : Hid ((ss ++ [s.extract f s.size]).map strB = wordsB (strB s)) := by
          simp only [Hid]
          rw [hsp, hdn, List.map_append, List.map_cons, List.map_nil, strB_drop]; unfold wordsG
          simp only [splitB, glue, List.append_nil]
          rw [List.filter_cons, hne, List.take_of_length_le (by rw [List.length_drop, HSL.out]; omega)]; simp
        have f0 : (0 : Int) ≤ (f : Int) := by omega
        have f1 : (f : Int) ≤ (s.size : Int) := by omega
        clear hsp hdn hne
        go_wp2_with (at_builtin; refine kn_pushS rfl _ _ rfl _ ss rfl rfl (hK.al [.string (s.extract f s.size)] 9) (by omega) ?_; intro v5 w6 hK4)
        obtain ⟨A, c, rfl⟩ := row_form hK4.at0
        go_ret
        exact ⟨A, c, _, rfl, HS3.out, hK4⟩
/-- what stands in front of the first place of a text, and behind it -/
def cutB (p : List UInt8) : List UInt8 → Option (List UInt8 × List UInt8)
  | [] => none
  | b :: tl => if p.isPrefixOf (b :: tl) then some ([], (b :: tl).drop p.length) else (cutB p tl).map fun q => (b :: q.1, q.2)
theorem prefix_iff (p l : List UInt8) : p.isPrefixOf l = decide (l.take p.length = p) := by
  rw [Bool.eq_iff_iff, List.isPrefixOf_iff_prefix, List.prefix_iff_eq_take, decide_eq_true_eq]
  exact ⟨fun h => h.symm, fun h => h.symm⟩
theorem cutB_short (p : List UInt8) : ∀ l : List UInt8, l.length < p.length → cutB p l = none
  | [], _ => rfl
  | b :: tl, h => by
    simp only [cutB]
    have h1 : p.isPrefixOf (b :: tl) = false := by
      rw [prefix_iff]; refine decide_eq_false fun h2 => ?_
      have := congrArg List.length h2
      rw [List.length_take] at this; omega
    rw [h1, cutB_short p tl (by simp at h; omega)]; rfl
def cutX (p bs : List UInt8) : List UInt8 := ((cutB p bs).map (·.1)).getD bs
def cutY (p bs : List UInt8) : List UInt8 := ((cutB p bs).map (·.2)).getD []
set_option maxRecDepth 100000 in
set_option maxHeartbeats 1600000 in
theorem cut_any (s p : ByteArray) (w : World) (hs : s.size ≤ 1048576) (hp0 : 0 < p.size) (hp : p.size ≤ 1048576) :
    Calls Tryd.prog 219 #[.string s, .string p] w fun e w' => ∃ x y, e = .returned (.tuple #[.string x, .string y, .bool (cutB (strB p) (strB s)).isSome]) ∧ strB x = cutX (strB p) (strB s) ∧ strB y = cutY (strB p) (strB s) ∧ Below w.heap.size w w' := by
  have HSL := Lib.hid (strB_len s)
  have HPL := Lib.hid (strB_len p)
  obtain ⟨m, hm⟩ : ∃ m, p.size = m := ⟨_, rfl⟩
  rw [hm] at hp0 hp
  go_enter Tryd.func219, Tryd.ntmps219
  go_wp2_with fail
  go_loopw [7] (fun ii wr => ∃ i : Nat, i ≤ s.size + 1 ∧ ii = .int .i64 i ∧ cutB (strB p) (strB s) = (cutB (strB p) ((strB s).drop i)).map (fun q => ((strB s).take i ++ q.1, q.2)) ∧ w = wr) (fun i _ => s.size + 1 - (intOf i).toNat)
  case atStart => exact ⟨0, by omega, rfl, by simp, rfl⟩
  case round =>
    obtain ⟨i, hi, rfl, hcb, rfl⟩ := hrel
    have HCB := Lib.hid hcb
    clear hcb
    have i0 : (0 : Int) ≤ (i : Int) := by omega
    by_cases hle : i + m ≤ s.size
    · have i1 : (i : Int) + (m : Int) ≤ (s.size : Int) := by omega
      have i2 : (i : Int) ≤ (i : Int) + (m : Int) := by omega
      have hil : i < (strB s).length := by rw [HSL.out]; omega
      obtain ⟨q, hq⟩ : ∃ q : UInt8, (strB s)[i] = q := ⟨_, rfl⟩
      have hdr : (strB s).drop i = q :: (strB s).drop (i + 1) := by rw [List.drop_eq_getElem_cons hil, hq]
      have hT : (strB s).take (i + 1) = (strB s).take i ++ [q] := by rw [List.take_succ_eq_append_getElem hil, hq]
      have hpre : (strB p).isPrefixOf ((strB s).drop i) = ((s.extract i (i + m)).toList == p.toList) := by
        rw [prefix_iff, strB_toList, strB_toList, strB_extract, HPL.out, hm, show i + m - i = m by omega, Bool.eq_iff_iff, decide_eq_true_eq, beq_iff_eq]
      rcases hq2 : ((s.extract i (i + m)).toList == p.toList) with _ | _
      · have HC2 : Hid (cutB (strB p) (strB s) = (cutB (strB p) ((strB s).drop (i + 1))).map (fun q => ((strB s).take (i + 1) ++ q.1, q.2))) := by
          simp only [Hid]
          rw [HCB.out]
          rw [hq2, hdr] at hpre
          rw [hdr, cutB, hpre, hT]
          simp [Option.map_map, Function.comp_def]
        clear hdr hT hpre
        go_wp2_with fail
        go_roundw
        case rel => exact ⟨i + 1, by omega, by go_num, HC2.out, by first | rfl | trivial⟩
        case measure => simp [intOf]; omega
      · have HC2 : Hid (cutB (strB p) (strB s) = some ((strB s).take i, (strB s).drop (i + m))) := by
          simp only [Hid]
          rw [HCB.out]
          rw [hq2, hdr] at hpre
          rw [hdr, cutB, hpre, ← hdr]
          simp [HPL.out, hm, List.drop_drop]
        clear hdr hT hpre
        go_wp2_with fail
        go_region
        all_goals
          go_wp2_with fail
          refine bodyPost_ret (v := .tuple #[.string (s.extract 0 i), .string (s.extract (i + m) s.size), .bool true]) (by simp [results, Tryd.results219, go_sem]) rfl ⟨_, _, by rw [HC2.out]; rfl, ?_, ?_, ?_⟩
          · rw [strB_extract, cutX, HC2.out]; simp
          · rw [strB_drop, cutY, HC2.out]; rfl
          · first | exact Below.refl _ _ | exact (Below.refl _ _).drew
    · have i1 : ¬ (i : Int) + (m : Int) ≤ (s.size : Int) := by omega
      have HC2 : Hid (cutB (strB p) (strB s) = none) := by
        simp only [Hid]; rw [HCB.out, cutB_short _ _ (by rw [List.length_drop, HSL.out, HPL.out, hm]; omega)]; rfl
      go_wp2_with fail
      refine bodyPost_ret (v := .tuple #[.string s, .string ⟨#[]⟩, .bool false]) (by simp [results, Tryd.results219, go_sem]) rfl ⟨s, ⟨#[]⟩, by rw [HC2.out]; rfl, ?_, ?_, Below.refl _ _⟩
      · rw [cutX, HC2.out]; rfl
      · rw [cutY, HC2.out]; rfl
end Go.Proofs.YtlhcilmnfmglfaaDoor
