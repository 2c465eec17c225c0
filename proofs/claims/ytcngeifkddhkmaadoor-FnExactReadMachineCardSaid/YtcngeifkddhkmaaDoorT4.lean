import Derived.Test.YtcngeifkddhkmaaDoorT3
import Derived.Test.YtcngeifkddhkmaaDoorQ1
import Derived.Deep.DeepCutAuto
namespace Go.Proofs.YtcngeifkddhkmaaDoor
open Go.RowKit Go.Sort
theorem Kn.rowS_get {w0 w : World} {m : List Ent} {g n c : Nat} {ss : List ByteArray} (h : Kn w0 (rowS (.slice (some ⟨g, 0, none⟩) n c) ss :: m) w) {k : Nat} (hk : k < ss.length) : w.cell? ⟨g, k, none⟩ = some (.string ss[k]) := by
  obtain ⟨-, g', e, hc, -⟩ := h.rowS_at hk
  injection e with e
  injection e with e
  subst e; exact hc
def rowI (A : Option Addr) (c : Nat) (ds : List Int) : Ent := .row (.slice A ds.length c) 2 1 ds.length (ds.map (Value.int .i64))
def dtx : ByteArray := ⟨#[48, 49, 50, 51, 52, 53, 54, 55, 56, 57, 97, 98, 99, 100, 101, 102]⟩
/-- the last place among the first d characters of digits that a byte has -/
def lastAt (c : Nat) (d : Nat) : Int := (List.range d).foldl (fun a j => if (dtx.data.getD j 0).toNat = c then (j : Int) else a) (-1)
theorem lastAt_succ (c d : Nat) : lastAt c (d + 1) = if (dtx.data.getD d 0).toNat = c then (d : Int) else lastAt c d := by
  unfold lastAt; rw [List.range_succ, List.foldl_append]; rfl
theorem lastAt_all : ∀ c, c < 256 → lastAt c 16 = digV (UInt8.ofNat c) := by decide +kernel
theorem dtx_get (d : Nat) (h : d < 16) : dtx[d]? = some (dtx.data.getD d 0) := by
  have : ∀ d, d < 16 → dtx[d]? = some (dtx.data.getD d 0) := by decide
  exact this d h
theorem splitB_each (k : Nat) : ∀ (bs : List UInt8), ∀ x ∈ splitB k bs, x.length ≤ bs.length
  | [], x, h => by simp [splitB] at h; subst h; simp
  | b :: tl, x, h => by
    rw [splitB_cons] at h
    split at h
    · rcases List.mem_cons.1 h with rfl | h
      · simp
      · have := splitB_each k tl x h; rw [List.length_cons]; omega
    · cases h2 : splitB k tl with
      | nil => exact absurd h2 (splitB_ne k tl)
      | cons a t =>
        have h3 := fun y hy => splitB_each k tl y (by rw [h2]; exact hy)
        rw [h2] at h
        simp only [glue] at h
        rcases List.mem_cons.1 h with rfl | h
        · have := h3 a (List.mem_cons_self ..); simp; omega
        · have := h3 x (List.mem_cons_of_mem _ h); rw [List.length_cons]; omega
set_option maxRecDepth 100000 in
set_option maxHeartbeats 1600000 in
theorem ReadRegister_any (s : ByteArray) (w : World) (hs : s.size ≤ 1048576) (ht : TB w) :
    Calls Tryd.prog 16 #[.string s] w fun e w' => ∃ A c, e = .returned (.tuple #[.agg #[.int .i64 (rdReg (strB s)).base, .slice A (rdReg (strB s)).digits.length c], .bool (rdR (strB s)).isSome]) ∧ Kn w [rowI A c (rdReg (strB s)).digits] w' := by
  have HRD := Lib.hid (show rdR (strB s) = _ from rfl)
  have KC := Lib.hid (fun W => cut_any s ⟨#[58]⟩ W hs (by decide) (by decide))
  have hxl : (cutX [58] (strB s)).length ≤ 1048576 ∧ (cutY [58] (strB s)).length ≤ 1048576 := by
    have hl := strB_len s
    unfold cutX cutY
    cases h : cutB [58] (strB s) with
    | none => simp; omega
    | some q =>
      obtain ⟨x, y⟩ := q
      obtain ⟨h1, -⟩ := cutB_mem 58 _ x y h
      have := congrArg List.length h1
      simp at this ⊢; omega
  have HT := Lib.hid (fun W (hW : Below w.heap.size w W) => TB.below ht hW)
  clear ht
  go_enter Tryd.func16, Tryd.ntmps16
  go_wp2_with fail
  refine Calls.kn ((Kn.nil w).al [.int .i64 0, .slice none 0 0] 26) ?_; intro w1 hK1
  refine (KC.out w1).mono ?_; rintro e w2 ⟨x, y, rfl, hx, hy, hw⟩
  have e58 : strB ⟨#[58]⟩ = [58] := rfl
  rw [e58] at hx hy ⊢
  have hK2 := hK1.keep hw
  have hxs : x.size ≤ 1048576 := by rw [← strB_len, hx]; exact hxl.1
  have hys : y.size ≤ 1048576 := by rw [← strB_len, hy]; exact hxl.2
  have KD := Lib.hid (ReadDecimal_any x w2 (by omega) (HT.out _ hK2.below))
  have HX := Lib.hid hx
  have HY := Lib.hid hy
  clear hw hx hy hK1 hxl e58
  cases hcb : cutB [58] (strB s) with
  | none =>
    have HU := Lib.hid (rdr_none (bs := strB s) (by unfold rdR; rw [hcb]; rfl))
    clear hcb
    go_wp2_with fail
    refine KD.out.mono ?_; rintro e w3 ⟨rfl, hw⟩
    have hK3 := hK2.keep hw
    obtain ⟨d1, d2, d3, -⟩ := hK3.cells
    clear hw
    go_wp2_with fail
    refine bodyPost_ret (v := .tuple #[.agg #[.int .i64 0, .slice none 0 0], .bool false]) (by simp [results, Tryd.results16, go_sem, d1, d2, d3]) rfl ⟨none, 0, by rw [HU.out.1, HU.out.2]; rfl, ?_⟩
    rw [HU.out.1]
    exact ((hK3.st 0 (.int .i64 0)).st 1 (.slice none 0 0)).bare.nilRow _ _
  | some q =>
    obtain ⟨qx, qy⟩ := q
    have HXB : Hid (strB x = qx) := by simp only [Hid]; rw [HX.out, cutX, hcb]; rfl
    have HYB : Hid (strB y = qy) := by simp only [Hid]; rw [HY.out, cutY, hcb]; rfl
    have HRR : Hid (rdR (strB s) = (rdDec qx).bind fun n => if vreg n (qy.reverse.map digV) then some ⟨n, qy.reverse.map digV⟩ else none) := by
      simp only [Hid, rdR]; rw [hcb]; rfl
    have KD := KD.out
    rw [HXB.out] at KD
    clear hcb
    cases hrd : rdDec qx with
    | none =>
      have HU := Lib.hid (rdr_none (bs := strB s) (by rw [HRR.out, hrd]; rfl))
      rw [hrd] at KD
      have KD := Lib.hid KD
      clear hrd
      go_wp2_with fail
      refine KD.out.mono ?_; rintro e w3 ⟨rfl, hw⟩
      have hK3 := hK2.keep hw
      obtain ⟨d1, d2, d3, -⟩ := hK3.cells
      clear hw
      go_wp2_with fail
      refine bodyPost_ret (v := .tuple #[.agg #[.int .i64 0, .slice none 0 0], .bool false]) (by simp [results, Tryd.results16, go_sem, d1, d2, d3]) rfl ⟨none, 0, by rw [HU.out.1, HU.out.2]; rfl, ?_⟩
      rw [HU.out.1]
      exact ((hK3.st 0 (.int .i64 0)).st 1 (.slice none 0 0)).bare.nilRow _ _
    | some n =>
      have HRR := Lib.hid (show rdR (strB s) = if vreg n (qy.reverse.map digV) then some ⟨n, qy.reverse.map digV⟩ else none by rw [HRR.out, hrd]; rfl)
      have hn0 := (rd_some hrd).1
      rw [hn0, hrd] at KD
      have KD := Lib.hid KD
      clear hrd hn0
      rcases hbs : betB n 2 16 with _ | _
      · have HU := Lib.hid (rdr_none (bs := strB s) (by rw [HRR.out]; simp [vreg, hbs]))
        have KB := Lib.hid (fun W => calls_val (isBase_any n W) (congrArg Value.bool hbs))
        clear hbs
        go_wp2_with fail
        refine KD.out.mono ?_; rintro e w3 ⟨rfl, hw⟩
        have hK3 := hK2.keep hw
        obtain ⟨d1, d2, d3, -⟩ := hK3.cells
        clear hw
        go_wp2_with (go_at_call 95; refine (KB.out _).mono ?_; rintro e w' ⟨rfl, rfl⟩)
        refine bodyPost_ret (v := .tuple #[.agg #[.int .i64 0, .slice none 0 0], .bool false]) (by simp [results, Tryd.results16, go_sem, d1, d2, d3]) rfl ⟨none, 0, by rw [HU.out.1, HU.out.2]; rfl, ?_⟩
        rw [HU.out.1]
        exact ((hK3.st 0 (.int .i64 0)).st 1 (.slice none 0 0)).bare.nilRow _ _
      · have KB := Lib.hid (fun W => calls_val (isBase_any n W) (congrArg Value.bool hbs))
        clear hbs
        go_wp2_with fail
        refine KD.out.mono ?_; rintro e w3 ⟨rfl, hw⟩
        have hK3 := hK2.keep hw
        clear hw
        go_wp2_with (first | (go_at_call 95; refine (KB.out _).mono ?_; rintro e w' ⟨rfl, rfl⟩) | (refine wpList.kn (hK3.al [.int .i64 0, .slice none 0 0] 26) ?_; intro w4 hK4; obtain ⟨a1, a2, a3, -⟩ := hK4.cells) | (refine wpList.kn ((hK4.st 0 _).st 1 _) ?_; intro w5 hK5; clear a1 a2 a3))
        have hK6 := hK5.nilRow 2 1
        clear hK3 hK4 hK5 hK2
        go_loopw [10] (fun ii wr => ∃ (k : Nat) (v : Value), k ≤ y.size ∧ ii = .int .i64 ((k : Int) - 1) ∧
          Kn w [.row v 2 1 (((strB y).drop k).reverse.map digV).length ((((strB y).drop k).reverse.map digV).map (Value.int .i64)), .blk w3.heap.size [.int .i64 n, v] 26, .blk w.heap.size [.int .i64 0, .slice none 0 0] 26] wr) (fun i _ => (intOf i + 1).toNat)
        case atStart =>
          refine ⟨y.size, .slice none 0 0, Nat.le_refl _, rfl, ?_⟩
          rw [List.drop_of_length_le (by rw [strB_len]; omega)]
          exact hK6
        case round =>
          obtain ⟨k, v, hk, rfl, hK⟩ := hrel
          obtain ⟨wo, rfl⟩ : ∃ wo : World, wo = wr := ⟨_, rfl⟩
          clear hK6
          obtain ⟨a1, a2, a3, d1, d2, d3, -⟩ := hK.cells
          rcases Nat.eq_zero_or_pos k with hk0 | hk0
          · subst hk0
            rw [List.drop_zero] at hK
            have HYB := HYB
            have hE : (strB y).reverse.map digV = qy.reverse.map digV := by rw [HYB.out]
            rw [hE] at hK
            obtain ⟨ds, hds⟩ : ∃ ds, qy.reverse.map digV = ds := ⟨_, rfl⟩
            have HRR := HRR.out
            rw [hds] at hK HRR
            have HRR := Lib.hid HRR
            obtain ⟨A, c, rfl⟩ := row_form hK.at0
            have hri := hK.ownI.ri
            have hdl : ds.length ≤ 1048576 := by rw [← hds, ← HYB.out]; simp [strB_len]; omega
            have KV := fun b (hb : vreg n ds = b) => calls_val (ValidRegister_any n A ds.length c ds wo hri (by omega)) (congrArg Value.bool hb)
            clear hE hds hri
            rcases hv : vreg n ds with _ | _
            · have HU := Lib.hid (rdr_none (bs := strB s) (by rw [HRR.out, hv]; rfl))
              have KV := Lib.hid (KV _ hv)
              clear hv
              go_wp2_with fail
              refine KV.out.mono ?_; rintro e w7 ⟨rfl, hw⟩
              have hK7 := hK.keep hw
              clear d1 d2 d3 a1 a2 a3 hw
              obtain ⟨a1, a2, a3, d1, d2, d3, -⟩ := hK7.cells
              go_wp2_with fail
              refine bodyPost_ret (v := .tuple #[.agg #[.int .i64 0, .slice none 0 0], .bool false]) (by simp [results, Tryd.results16, go_sem, d1, d2, d3]) rfl ⟨none, 0, by rw [HU.out.1, HU.out.2]; rfl, ?_⟩
              rw [HU.out.1]
              exact ((hK7.sw2.st 0 (.int .i64 0)).st 1 (.slice none 0 0)).bare.nilRow _ _
            · have HU := Lib.hid (rdr_some (bs := strB s) (r := ⟨n, ds⟩) (by rw [HRR.out, hv]; rfl))
              have KV := Lib.hid (KV _ hv)
              clear hv
              go_wp2_with fail
              refine KV.out.mono ?_; rintro e w7 ⟨rfl, hw⟩
              have hK7 := hK.keep hw
              clear d1 d2 d3 a1 a2 a3 hw
              obtain ⟨a1, a2, a3, d1, d2, d3, -⟩ := hK7.cells
              go_wp2_with fail
              have hK8 := (hK7.sw2.st 0 (.int .i64 n)).st 1 (.slice A ds.length c)
              refine bodyPost_ret (v := .tuple #[.agg #[.int .i64 n, .slice A ds.length c], .bool true]) (by simp [results, Tryd.results16, go_sem, d1, d2, d3]) rfl ⟨A, c, by rw [HU.out.1, HU.out.2], ?_⟩
              rw [HU.out.1]
              exact hK8.sw1.drop1.drop1
          · obtain ⟨q, hq⟩ : ∃ q : UInt8, y[k - 1] = q := ⟨_, rfl⟩
            obtain ⟨z, hz⟩ : ∃ z : Nat, q.toNat = z := ⟨_, rfl⟩
            have hz2 : z < 256 := by rw [← hz]; exact q.toNat_lt
            have hdr : (strB y).drop (k - 1) = q :: (strB y).drop k := by
              rw [List.drop_eq_getElem_cons (by rw [strB_len]; omega), ← strB_get y (by omega), hq, show k - 1 + 1 = k by omega]
            have HDG := Lib.hid (show ((strB y).drop (k - 1)).reverse.map digV = ((strB y).drop k).reverse.map digV ++ [digV q] by rw [hdr]; simp)
            have HQ := Lib.hid (show lastAt z 16 = digV q by rw [lastAt_all z hz2, ← hz]; simp)
            have hi0 : (0 : Int) ≤ (k : Int) - 1 := by omega
            have hi1 : (k : Int) - 1 < (y.size : Int) := by omega
            have hin : ((k : Int) - 1).toNat = k - 1 := by omega
            have hlen : (((strB y).drop k).reverse.map digV).length ≤ 1048576 := by simp [strB_len]; omega
            obtain ⟨ds, hds⟩ : ∃ ds, ((strB y).drop k).reverse.map digV = ds := ⟨_, rfl⟩
            rw [hds] at hK hlen HDG
            clear hdr hds
            go_wp2_with fail
            go_loopw [11, 45] (fun gg dd wi => ∃ d : Nat, d ≤ 16 ∧ dd = .int .i64 d ∧ gg = .int .i64 (lastAt z d) ∧ ∃ q, wi = wo.drewN q) (fun _ d _ => 16 - (intOf d).toNat)
            case atStart => exact ⟨0, by omega, rfl, rfl, 0, rfl⟩
            case round =>
              obtain ⟨d, hd, rfl, rfl, nq, rfl⟩ := hrel
              by_cases hd16 : d < 16
              · have hdg := dtx_get d hd16
                obtain ⟨u, hu⟩ : ∃ u : Nat, (dtx.data.getD d 0).toNat = u := ⟨_, rfl⟩
                have HLS := Lib.hid (lastAt_succ z d)
                have j0 : (0 : Int) ≤ (d : Int) := by omega
                have j1 : (d : Int) < 16 := by omega
                have hgu : ((⟨#[48, 49, 50, 51, 52, 53, 54, 55, 56, 57, 97, 98, 99, 100, 101, 102]⟩ : ByteArray)[d]'hd16).toNat = u := by
                  rw [← hu]
                  have h3 : dtx[d]? = some (dtx[d]'hd16) := getElem?_pos dtx d hd16
                  rw [hdg] at h3
                  injection h3 with h3
                  rw [h3]; rfl
                have HU9 := Lib.hid hu
                clear hdg hu
                by_cases huz : u = z
                · have k1 : ((u : Int) == (z : Int)) = true := by rw [beq_iff_eq]; omega
                  have HL2 : Hid (lastAt z (d + 1) = (d : Int)) := by simp only [Hid]; rw [HLS.out, HU9.out, if_pos huz]
                  clear huz
                  go_wp2_with fail
                  go_quiet (fail)
                  go_wp2_with fail
                  go_roundw
                  case rel => exact ⟨d + 1, by omega, by go_num, by rw [HL2.out], by first | exact ⟨_, rfl⟩ | exact ⟨_, World.drewN_drewN _ _ _⟩⟩
                  case measure => simp [intOf]; omega
                · have k1 : ((u : Int) == (z : Int)) = false := by rw [beq_eq_false_iff_ne]; omega
                  have HL2 : Hid (lastAt z (d + 1) = lastAt z d) := by simp only [Hid]; rw [HLS.out, HU9.out, if_neg huz]
                  clear huz
                  go_wp2_with fail
                  go_quiet (fail)
                  go_wp2_with fail
                  go_roundw
                  case rel => exact ⟨d + 1, by omega, by go_num, by rw [HL2.out], by first | exact ⟨_, rfl⟩ | exact ⟨_, World.drewN_drewN _ _ _⟩⟩
                  case measure => simp [intOf]; omega
              · have hde : d = 16 := by omega
                subst hde
                rw [HQ.out]
                have hKd := hK.drewN nq
                go_wp2_with (at_builtin; refine kn_pushI rfl _ _ rfl _ ds rfl rfl (hKd.al [.int .i64 (digV q)] 2) (by omega) ?_; intro v5 w6 hK9; obtain ⟨A5, c5, rfl⟩ := row_form hK9.at0; rw [show (ds ++ [digV q]).length = ds.length + 1 by simp] at hK9; clear a1 a2 a3 d1 d2 d3; obtain ⟨a1, a2, a3, d1, d2, d3, -⟩ := hK9.cells)
                go_roundw
                case rel => exact ⟨k - 1, _, by omega, by congr 1; omega, by rw [HDG.out, show (ds ++ [digV q]).length = ds.length + 1 by simp]; exact (hK9.sw1.st 1 _).sw1⟩
                case measure => simp [intOf]; omega
set_option maxRecDepth 100000 in
set_option maxHeartbeats 1600000 in
theorem specReadRegister_any (s : ByteArray) (w : World) (hs : s.size ≤ 1048576) :
    Calls Tryd.prog 144 #[.string s] w fun e w' => ∃ A c, e = .returned (.tuple #[.agg #[.int .i64 (rdReg (strB s)).base, .slice A (rdReg (strB s)).digits.length c], .bool (rdR (strB s)).isSome]) ∧ Kn w [rowI A c (rdReg (strB s)).digits] w' := by
  have HRD := Lib.hid (rdR_spec (strB s))
  have KS := fun W => l01Split_any s 58 W hs
  have e58 : (58 : UInt8).toNat = 58 := rfl
  rw [e58] at KS
  have KS := Lib.hid KS
  have hjoin : ∀ x ∈ splitB 58 (strB s), x.length ≤ 1048576 := by
    have h1 := splitB_each 58 (strB s)
    intro x hx
    have := h1 x hx; rw [strB_len] at this; omega
  go_enter Tryd.func144, Tryd.ntmps144
  go_wp2_with fail
  refine Calls.kn ((Kn.nil w).al [.int .i64 0, .slice none 0 0] 26) ?_; intro w1 hK1
  refine (KS.out w1).mono ?_; rintro e w2 ⟨A, c, ss, rfl, hss, hK⟩
  have hK2 := hK1.join hK
  have HSS := Lib.hid hss
  have HJ := Lib.hid hjoin
  clear hK hK1 hss hjoin e58
  obtain ⟨d1, d2, d3, -⟩ := hK2.cells
  have HNO : Hid (ss.length ≠ 2 → rdR (strB s) = none) := by
    intro h
    rw [HRD.out, ← HSS.out]
    match ss, h with
    | [], _ => rfl
    | [_], _ => rfl
    | [_, _], h => exact absurd rfl h
    | _ :: _ :: _ :: _, _ => rfl
  by_cases hl2 : ss.length = 2
  · have HYES : Hid (∃ x y, ss = [x, y]) := by
      match ss, hl2 with
      | [x, y], _ => exact ⟨x, y, rfl⟩
    obtain ⟨x, y, rfl⟩ := HYES.out
    obtain ⟨-, g, rfl, -, -, -⟩ := hK2.rowS_at (k := 0) (by simp)
    have hx : (strB x).length ≤ 1048576 := HJ.out _ (by rw [← HSS.out]; simp)
    have hy : (strB y).length ≤ 1048576 := HJ.out _ (by rw [← HSS.out]; simp)
    rw [strB_len] at hx hy
    have HRR : Hid (rdR (strB s) = if y.size ≤ 16 then (rdDec (strB x)).bind fun n => if vreg n ((strB y).reverse.map digV) then some ⟨n, (strB y).reverse.map digV⟩ else none else none) := by
      simp only [Hid]
      rw [HRD.out, ← HSS.out]
      simp only [List.map_cons, List.map_nil, strB_len]
    have s0 := hK2.rowS_get (k := 0) (by simp)
    have s1 := hK2.rowS_get (k := 1) (by simp)
    simp only [List.getElem_cons_zero, List.getElem_cons_succ] at s0 s1
    clear hl2
    by_cases h16 : y.size ≤ 16
    · have i16 : ¬ (16 : Int) < (y.size : Int) := by omega
      have HRR := Lib.hid (show rdR (strB s) = (rdDec (strB x)).bind fun n => if vreg n ((strB y).reverse.map digV) then some ⟨n, (strB y).reverse.map digV⟩ else none by rw [HRR.out, if_pos h16])
      have KN := Lib.hid (l01Number_any x w2 (by omega))
      obtain ⟨n, hn⟩ : ∃ n, rdN (strB x) = n := ⟨_, rfl⟩
      obtain ⟨ok, hok⟩ : ∃ b, (rdDec (strB x)).isSome = b := ⟨_, rfl⟩
      have KN := KN.out
      rw [hn, hok] at KN
      have KN := Lib.hid KN
      have HRS : Hid (rdR (strB s) = if ok && vreg n ((strB y).reverse.map digV) then some ⟨n, (strB y).reverse.map digV⟩ else none) := by
        simp only [Hid]; rw [HRR.out]
        cases hrd : rdDec (strB x) with
        | none => rw [hrd] at hok; subst hok; rfl
        | some q =>
          have h2 := (rd_some hrd).1
          rw [hrd] at hok
          subst hok
          rw [hn] at h2; subst h2; simp
      clear h16 hn hok
      go_wp2_with fail
      refine KN.out.mono ?_; rintro e w3 ⟨rfl, hw⟩
      have hK3 := hK2.keep hw
      clear hw d1 d2 d3 s0 s1
      have s1 := hK3.rowS_get (k := 1) (by simp)
      simp only [List.getElem_cons_zero, List.getElem_cons_succ] at s1
      go_wp2_with (first | (refine wpList.kn (hK3.al [.int .i64 0, .slice none 0 0] 26) ?_; intro w4 hK4; clear s1; have s1 := hK4.drop.rowS_get (k := 1) (by simp); simp only [List.getElem_cons_zero, List.getElem_cons_succ] at s1; obtain ⟨a1, a2, a3, -⟩ := hK4.cells) | (refine wpList.kn ((hK4.st 0 _).st 1 _) ?_; intro w5 hK5; clear s1; have s1 := hK5.drop.rowS_get (k := 1) (by simp); simp only [List.getElem_cons_zero, List.getElem_cons_succ] at s1; clear a1 a2 a3))
      have hK6 := hK5.nilRow 2 1
      clear hK3 hK4 hK5 hK2
      go_loopw [8] (fun ii wr => ∃ (k : Nat) (v : Value), k ≤ y.size ∧ ii = .int .i64 ((k : Int) - 1) ∧
        Kn w [.row v 2 1 (((strB y).drop k).reverse.map digV).length ((((strB y).drop k).reverse.map digV).map (Value.int .i64)), .blk w3.heap.size [.int .i64 n, v] 26, rowS (.slice (some ⟨g, 0, none⟩) 2 c) [x, y], .blk w.heap.size [.int .i64 0, .slice none 0 0] 26] wr) (fun i _ => (intOf i + 1).toNat)
      case atStart =>
        refine ⟨y.size, .slice none 0 0, Nat.le_refl _, rfl, ?_⟩
        rw [List.drop_of_length_le (by rw [strB_len]; omega)]
        exact hK6
      case round =>
        obtain ⟨k, v, hk, rfl, hK⟩ := hrel
        obtain ⟨wo, rfl⟩ : ∃ wo : World, wo = wr := ⟨_, rfl⟩
        clear hK6 s1
        obtain ⟨a1, a2, a3, d1, d2, d3, -⟩ := hK.cells
        have s1 := hK.drop.drop.rowS_get (k := 1) (by simp)
        simp only [List.getElem_cons_zero, List.getElem_cons_succ] at s1
        rcases Nat.eq_zero_or_pos k with hk0 | hk0
        · subst hk0
          rw [List.drop_zero] at hK
          obtain ⟨ds, hds⟩ : ∃ ds, (strB y).reverse.map digV = ds := ⟨_, rfl⟩
          have HRS := HRS.out
          rw [hds] at hK HRS
          have HRS := Lib.hid HRS
          obtain ⟨A, c, rfl⟩ := row_form hK.at0
          have hri := hK.ownI.ri
          have hdl : ds.length ≤ 1048576 := by rw [← hds]; simp [strB_len]; omega
          have hRM : RegM wo ⟨w3.heap.size, 0, none⟩ ⟨n, ds⟩ := ⟨A, c, ⟨by rw [a1]; rfl, by rw [a1]; rfl⟩, hri⟩
          have KV := fun b (hb : (⟨n, ds⟩ : Reg).ok = b) => l02Ok_reg ⟨w3.heap.size, 0, none⟩ ⟨n, ds⟩ wo hRM (by unfold SmallReg; simp only []; omega) b hb
          clear hds hri hRM
          cases ok with
          | false =>
            have HU := Lib.hid (rdr_none (bs := strB s) HRS.out)
            clear KV
            go_wp2_with fail
            refine bodyPost_ret (v := .tuple #[.agg #[.int .i64 0, .slice none 0 0], .bool false]) (by simp [results, Tryd.results144, go_sem, d1, d2, d3]) rfl ⟨none, 0, by rw [HU.out.1, HU.out.2]; rfl, ?_⟩
            rw [HU.out.1]
            exact ((hK.sw3.st 0 (.int .i64 0)).st 1 (.slice none 0 0)).bare.nilRow _ _
          | true =>
          rcases hv : vreg n ds with _ | _
          · have HU := Lib.hid (rdr_none (bs := strB s) (by rw [HRS.out, hv]; rfl))
            have KV := Lib.hid (KV _ hv)
            clear hv
            go_wp2_with fail
            refine KV.out.mono ?_; rintro e w7 ⟨rfl, m, rfl⟩
            have hK7 := hK.drewN m
            go_wp2_with fail
            refine bodyPost_ret (v := .tuple #[.agg #[.int .i64 0, .slice none 0 0], .bool false]) (by simp [results, Tryd.results144, go_sem, d1, d2, d3]) rfl ⟨none, 0, by rw [HU.out.1, HU.out.2]; rfl, ?_⟩
            rw [HU.out.1]
            exact ((hK7.sw3.st 0 (.int .i64 0)).st 1 (.slice none 0 0)).bare.nilRow _ _
          · have HU := Lib.hid (rdr_some (bs := strB s) (r := ⟨n, ds⟩) (by rw [HRS.out, hv]; rfl))
            have KV := Lib.hid (KV _ hv)
            clear hv
            go_wp2_with fail
            refine KV.out.mono ?_; rintro e w7 ⟨rfl, m, rfl⟩
            have hK7 := hK.drewN m
            go_wp2_with fail
            have hK8 := (hK7.sw3.st 0 (.int .i64 n)).st 1 (.slice A ds.length c)
            refine bodyPost_ret (v := .tuple #[.agg #[.int .i64 n, .slice A ds.length c], .bool true]) (by simp [results, Tryd.results144, go_sem, d1, d2, d3, a1, a2, a3]) rfl ⟨A, c, by rw [HU.out.1, HU.out.2], ?_⟩
            rw [HU.out.1]
            exact hK8.drop.drop1.drop1
        · obtain ⟨q, hq⟩ : ∃ q : UInt8, y[k - 1] = q := ⟨_, rfl⟩
          obtain ⟨z, hz⟩ : ∃ z : Nat, q.toNat = z := ⟨_, rfl⟩
          have hz2 : z < 256 := by rw [← hz]; exact q.toNat_lt
          have hdr : (strB y).drop (k - 1) = q :: (strB y).drop k := by
            rw [List.drop_eq_getElem_cons (by rw [strB_len]; omega), ← strB_get y (by omega), hq, show k - 1 + 1 = k by omega]
          have HDG := Lib.hid (show ((strB y).drop (k - 1)).reverse.map digV = ((strB y).drop k).reverse.map digV ++ [digV q] by rw [hdr]; simp)
          have KD := Lib.hid (fun W => l02Digit_any z q hz W)
          have hi0 : (0 : Int) ≤ (k : Int) - 1 := by omega
          have hi1 : (k : Int) - 1 < (y.size : Int) := by omega
          have hin : ((k : Int) - 1).toNat = k - 1 := by omega
          have hlen : (((strB y).drop k).reverse.map digV).length ≤ 1048576 := by simp [strB_len]; omega
          obtain ⟨ds, hds⟩ : ∃ ds, ((strB y).drop k).reverse.map digV = ds := ⟨_, rfl⟩
          rw [hds] at hK hlen HDG
          clear hdr hds
          go_wp2_with fail
          go_region_law (first
            | (go_simp; go_at_call 200; refine (KD.out _).mono ?_; rintro e w' ⟨rfl, rfl⟩)
            | (refine kn_stepI rfl _ _ rfl _ ds rfl rfl ((hK.al [.int .i64 (digV q)] 2).drew) (by omega) ?_; intro v5 w6 hK9; obtain ⟨A5, c5, rfl⟩ := row_form hK9.at0; rw [show (ds ++ [digV q]).length = ds.length + 1 by simp] at hK9; clear a1 a2 a3 d1 d2 d3; obtain ⟨a1, a2, a3, d1, d2, d3, -⟩ := hK9.cells))
          all_goals
            go_wp2_with fail
            go_roundw
            case rel => exact ⟨k - 1, _, by omega, by congr 1; omega, by rw [HDG.out, show (ds ++ [digV q]).length = ds.length + 1 by simp]; exact (hK9.sw1.st 1 _).sw1⟩
            case measure => simp [intOf]; omega
    · have i16 : (16 : Int) < (y.size : Int) := by omega
      have HU := Lib.hid (rdr_none (bs := strB s) (by rw [HRR.out, if_neg h16]))
      clear h16
      go_wp2_with fail
      refine bodyPost_ret (v := .tuple #[.agg #[.int .i64 0, .slice none 0 0], .bool false]) (by simp [results, Tryd.results144, go_sem, d1, d2, d3]) rfl ⟨none, 0, by rw [HU.out.1, HU.out.2]; rfl, ?_⟩
      rw [HU.out.1]
      exact ((hK2.sw1.st 0 (.int .i64 0)).st 1 (.slice none 0 0)).bare.nilRow _ _
  · have HU := Lib.hid (rdr_none (bs := strB s) (HNO.out hl2))
    have k1 : ((ss.length : Int) != 2) = true := by rw [bne_iff_ne]; omega
    clear hl2
    go_wp2_with fail
    refine bodyPost_ret (v := .tuple #[.agg #[.int .i64 0, .slice none 0 0], .bool false]) (by simp [results, Tryd.results144, go_sem, d1, d2, d3]) rfl ⟨none, 0, by rw [HU.out.1, HU.out.2]; rfl, ?_⟩
    rw [HU.out.1]
    exact ((hK2.sw1.st 0 (.int .i64 0)).st 1 (.slice none 0 0)).bare.nilRow _ _
end Go.Proofs.YtcngeifkddhkmaaDoor
