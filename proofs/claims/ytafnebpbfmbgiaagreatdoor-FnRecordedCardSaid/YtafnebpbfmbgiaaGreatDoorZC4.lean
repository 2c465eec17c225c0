/- Part 4: lemmas and contracts of the claim's functions. -/
import Derived.Test.YtafnebpbfmbgiaaGreatDoorZC1
import Derived.Test.YtafnebpbfmbgiaaGreatDoorZC2
import Derived.Test.YtafnebpbfmbgiaaGreatDoorZC3
import Derived.Lib.ItoaLen
import Derived.Test.YtafnebpbfmbgiaaGreatDoorShelf
namespace Go.Proofs.YtafnebpbfmbgiaaGreatDoor
open Go.RowKit Go.Sort
theorem l00Max_any (a b : Int) (w : World) : Calls Tryz.prog 150 #[.int .i64 a, .int .i64 b] w fun e w' => e = .returned (.int .i64 (max a b)) ∧ w = w' := by
  by_cases h : b < a
  · go_enter Tryz.func150, Tryz.ntmps150
    go_wp2
    go_ret
    exact ⟨ret_int (by omega), rfl⟩
  · go_enter Tryz.func150, Tryz.ntmps150
    go_wp2
    go_ret
    exact ⟨ret_int (by omega), rfl⟩
theorem Ev.stop {L : List Ins} {j tt : Nat} {s s' : RS} {b : Bool} (h : Ev L (.run j tt) s s' b) (hc : ¬ s.code = 0) : s' = s ∧ b = false := by
  cases h <;> first | exact ⟨rfl, rfl⟩ | contradiction
set_option maxRecDepth 100000 in
set_option maxHeartbeats 3200000 in
theorem runS_of {L : List Ins} {LA : Option Addr} {n lc : Nat} {w0 : World} {N : Nat} (hv : vprog L = true) (hr : RL InsM 2 w0 LA n L) (ihL : LoopSOK L LA n lc w0 N) : RunSOK L LA n lc w0 N := by
  intro g m s b i tt w hN hc hg hseg hM
  have hL := vprog_len hv
  have hn9 : n ≤ 120 := by rw [← hr.1]; exact hL
  have htt : tt ≤ n := by have := hseg.len; have := hr.1; omega
  have HIH := Lib.hid ihL
  have HR := Lib.hid hr
  have HV := Lib.hid hv
  have HN0 := Lib.hid hN
  clear hr ihL hv hN
  go_enter Tryz.func110, Tryz.ntmps110
  go_wp2_with fail
  go_loopw [6] (fun ii wr => ∃ (j : Nat) (s1 : RS) (b1 : Bool), ii = .int .i64 j ∧ RunS w0 g (.slice LA n lc) s1 (b || b1) m wr ∧ s1.Good ∧ s.done ≤ s1.done ∧ Seg L j tt ∧ ∀ s' b', Ev L (.run j tt) s1 s' b' → Ev L (.run i tt) s s' (b1 || b')) (fun ii _ => tt - (intOf ii).toNat)
  case atStart => exact ⟨i, s, false, rfl, by simpa using hM, hg, Nat.le_refl _, hseg, fun s' b' h => by simpa using h⟩
  case round =>
    clear hM hc hg hseg
    obtain ⟨j, s1, b1, rfl, hM, hg1, hmono, hseg, hev⟩ := hrel
    have HM := Lib.hid hM
    have HG := Lib.hid hg1
    have HSEG := Lib.hid hseg
    have HE := Lib.hid hev
    obtain ⟨SA, sc, A1, c1, A2, c2, A3, c3, hK⟩ := hM
    obtain ⟨a1, a2, a3⟩ := hK.blkAt
    clear hg1 hev
    by_cases hjt : j < tt
    · have hi1 : (j : Int) < (tt : Int) := by omega
      by_cases hc1 : s1.code = 0
      · have HC := Lib.hid hc1
        have h2 : (s1.code == 0) = true := by simp [hc1]
        have hlt := hseg.lt hjt
        have hjn : j < n := by omega
        obtain ⟨ad, hA, hlt2, hkl, hx'⟩ := (HR.out.below steady_InsM hK.below).at_ hjn
        obtain ⟨x1, x2⟩ := hx'
        obtain ⟨x, hx⟩ : ∃ x, L[j] = x := ⟨_, rfl⟩
        rw [hx] at x1 x2
        subst hA
        have hok := (dep_step HV.out hlt).1
        rw [hx] at hok
        have hbd := instrOk_bd1 hok
        have h10 := hseg.noEnd HV.out hjt
        rw [hx] at h10
        have hj0 : (0 : Int) ≤ (j : Int) := by omega
        have hj1 : (j : Int) < (n : Int) := by omega
        have HX := Lib.hid hx
        have HLT := Lib.hid hlt
        have HOK := Lib.hid hok
        have H10 := Lib.hid h10
        clear hc1 hseg hlt hx hok h10
        rcases hop : opens x.op with _ | _
        · have KO := Lib.hid (fun W => calls_val (l11Opens_any x.op W) (congrArg Value.bool hop))
          have HNX := Lib.hid (HSEG.out.next HV.out hjt (by rw [HX.out]; exact hop))
          have HOP := Lib.hid hop
          clear hop
          rcases h1 : (x.op == 1) with _ | _
          · have hne1 : ¬ x.op = 1 := by simpa using h1
            have hkd : 1 ≤ x.op - 1 ∧ x.op - 1 ≤ 6 := by
              have h3 := HOP.out
              have h4 := H10.out
              simp [opens] at h3; omega
            obtain ⟨T, hT⟩ : ∃ T : Nat, max 1 x.arg = (T : Int) := ⟨(max 1 x.arg).toNat, by omega⟩
            have hT2 : (max 1 x.arg).toNat = T := by omega
            have hT3 : T ≤ 1000000 := by
              have h3 := HOK.out
              have h4 := HOP.out
              simp [opens] at h4
              simp only [instrOk] at h3
              split at h3
              · omega
              · split at h3
                · have := betB_iff.1 h3; omega
                · split at h3
                  · simp at h3; omega
                  · cases h3
            have KM := Lib.hid (fun W => calls_val (l00Max_any 1 x.arg W) (congrArg (Value.int .i64) hT))
            have KS := Lib.hid (fun (m' : List Ent) W (h : RunS w0 g (.slice (some ad) n lc) s1 (b || b1) m' W) => strokesS_any (L := L) s1 (x.op - 1) T W h HG.out HC.out hkd hT3)
            have HT2 := Lib.hid hT2
            have HN1 := Lib.hid hne1
            have hwr : IntKind.i64.wrap (x.op - 1) = x.op - 1 := wrapI64 (by omega)
            clear hT hT2 hkd hne1
            go_wp2_with (go_at_call 109; refine Calls.kn (hK.al [.int .i64 x.op, .int .i64 x.arg] 93) ?_; intro w1 hK1; clear a1 a2 a3 x1 x2; obtain ⟨x1, x2, x3, a1, a2, a3, -⟩ := hK1.cells; refine (KO.out _).mono ?_; rintro e w2 ⟨rfl, rfl⟩)
            have hK2 := hK1.drew.sel [1, 2, 3, 4, 5, 0] 6 (by decide) (by decide)
            have HG2 := Lib.hid (box2 hK1.drew)
            go_region_held3 (fun W => W.cell? ⟨wr.heap.size, 0, none⟩ = some (.int .i64 x.op) ∧ W.cell? ⟨wr.heap.size, 1, none⟩ = some (.int .i64 x.arg))
              (first | with_reducible exact HG2.out | exact HG2.out) (first
              | (go_at_call 150; (with_reducible refine (KM.out _).mono ?_); rintro e w3 ⟨rfl, rfl⟩)
              | (go_at_call 149; refine (KS.out (.blk wr.heap.size [.int .i64 x.op, .int .i64 x.arg] 93 :: m) _ ⟨SA, sc, A1, c1, A2, c2, A3, c3, hK2⟩).mono ?_; rintro e w3 ⟨s3, b3, rfl, he3, hM3, hg3⟩; have HM3 := Lib.hid hM3; obtain ⟨SA3, sc3, A13, c13, A23, c23, A33, c33, hK3⟩ := hM3; clear HG2; have HG2 := Lib.hid (box2 hK3.drop.drop.drop.drop.drop)))
            all_goals
              clear a1 a2 a3 x1 x2 x3 hK3
              have HE3 := Lib.hid he3
              have HG3 := Lib.hid hg3
              clear he3 hg3
              go_wp2_with fail
              go_roundw
              case rel => exact ⟨j + 1, s3, b1 || b3, by go_num, by rw [← Bool.or_assoc]; exact HM3.out.drop, HG3.out, by have := HE3.out.mono; omega, HNX.out, fun s' b' h => by
                rw [Bool.or_assoc]
                exact HE.out s' (b3 || b') (Ev.rStr hjt HLT.out HC.out (by rw [HX.out]; exact HOP.out) (by rw [HX.out]; exact HN1.out) (by rw [HX.out, HT2.out]; exact HE3.out) h)⟩
              case measure => simp [intOf]; omega
          · have ho1 : x.op = 1 := by simpa using h1
            have KS := Lib.hid (fun (m' : List Ent) W (h : RunS w0 g (.slice (some ad) n lc) s1 (b || b1) m' W) => setS_any s1 x.arg W h HG.out HC.out hbd.2.2.1 hbd.2.2.2)
            have hst : ∀ s3 : RS, ¬ s3.code = 0 → (Ev L (.run j tt) s1 s3 false) → ∀ s' b', Ev L (.run (j + 1) tt) s3 s' b' → Ev L (.run i tt) s s' (b1 || b') := fun s3 h3 h4 s' b' h5 => by
              obtain ⟨rfl, rfl⟩ := h5.stop h3
              exact HE.out _ _ h4
            have HST := Lib.hid hst
            have HO1 := Lib.hid ho1
            have hng : setFits s1.m x.arg = true → vmach (setT s1.m x.arg) = true := fun h => by
              obtain ⟨k1, -⟩ := vmach_all HG.out.m
              obtain ⟨⟨b1', b2'⟩, -⟩ := vreg_iff.1 k1
              have h6 : setFits s1.m x.arg = _ := restD_zero s1.m.a.base b1' s1.m.a.digits.length x.arg hbd.2.2.1
              rw [h6, decide_eq_true_iff] at h
              exact setT_ok x.arg HG.out.m hbd.2.2.1 h
            have HNG := Lib.hid hng
            clear ho1 hst hng
            go_wp2_with (first
              | (go_at_call 109; refine Calls.kn (hK.al [.int .i64 x.op, .int .i64 x.arg] 93) ?_; intro w1 hK1; clear a1 a2 a3 x1 x2; obtain ⟨x1, x2, x3, a1, a2, a3, -⟩ := hK1.cells; refine (KO.out _).mono ?_; rintro e w2 ⟨rfl, rfl⟩)
              | (go_at_call 148; refine (KS.out (.blk wr.heap.size [.int .i64 x.op, .int .i64 x.arg] 93 :: m) _ ⟨SA, sc, A1, c1, A2, c2, A3, c3, hK1.sel [1, 2, 3, 4, 5, 0] 6 (by decide) (by decide)⟩).mono ?_; rintro e w3 ⟨rfl, hres⟩; have HRES := Lib.hid hres; clear hres))
            clear a1 a2 a3 x1 x2 x3 hK1
            rcases HRES.out with ⟨hd, hM3⟩ | ⟨hd, hf, hM3⟩ | ⟨hd, hf, hM3⟩
            · have HD := Lib.hid hd
              have HM3 := Lib.hid hM3
              clear hd hM3 HRES
              go_roundw
              case rel => exact ⟨j + 1, s1.tick, b1, by go_num, HM3.out.drop, HG.out.tick HC.out, by simp only [RS.tick]; omega, HNX.out, HST.out _ (by rw [RS.tick_full HD.out]; simp) (Ev.rSetFull hjt HLT.out HC.out (by rw [HX.out]; exact HO1.out) HD.out)⟩
              case measure => simp [intOf]; omega
            · have HD := Lib.hid hd
              have HF := Lib.hid hf
              have HM3 := Lib.hid hM3
              clear hd hM3 HRES hf
              go_roundw
              case rel => exact ⟨j + 1, ⟨s1.m, s1.tr, s1.done + 1, 10⟩, b1, by go_num, HM3.out.drop, HG.out.more HC.out HD.out _ HG.out.m 10, by simp only []; omega, HNX.out, HST.out _ (by simp) (by
                have := Ev.rSetBad hjt HLT.out HC.out (by rw [HX.out]; exact HO1.out) HD.out (by rw [HX.out]; exact HF.out)
                exact this)⟩
              case measure => simp [intOf]; omega
            · have HD := Lib.hid hd
              have HF := Lib.hid hf
              have HM3 := Lib.hid hM3
              clear hd hM3 HRES hf
              go_roundw
              case rel => exact ⟨j + 1, ⟨setT s1.m x.arg, s1.tr, s1.done + 1, 0⟩, b1, by go_num, HM3.out.drop, HG.out.more HC.out HD.out _ (HNG.out HF.out) 0, by simp only []; omega, HNX.out, fun s' b' h => HE.out s' b' (Ev.rSet hjt HLT.out HC.out (by rw [HX.out]; exact HO1.out) HD.out (by rw [HX.out]; exact HF.out) (by rw [HX.out]; exact h))⟩
              case measure => simp [intOf]; omega
        · have KO := Lib.hid (fun W => calls_val (l11Opens_any x.op W) (congrArg Value.bool hop))
          have HOP := Lib.hid hop
          have KM := Lib.hid (fun W (h : RL InsM 2 W (some ad) n L) => l11Match_any (some ad) n lc L j W h HV.out HLT.out (by rw [HX.out]; exact HOP.out))
          have KL := (fun (m' : List Ent) W e h (hseg' : Seg L (j + 1) e) => HIH.out g m' s1 (b || b1) j e W HLT.out (by have := HN0.out; omega) HC.out HG.out (by rw [HX.out]; exact HOP.out) (by rw [HX.out]; exact HOK.out) hseg' h)
          rw [HX.out] at KL
          have KL := Lib.hid KL
          clear hop
          go_wp2_with (first
            | (go_at_call 109; refine Calls.kn (hK.al [.int .i64 x.op, .int .i64 x.arg] 93) ?_; intro w1 hK1; clear a1 a2 a3 x1 x2; obtain ⟨x1, x2, x3, a1, a2, a3, -⟩ := hK1.cells; refine (KO.out _).mono ?_; rintro e w2 ⟨rfl, rfl⟩)
            | (go_at_call 146; refine (KM.out _ (HR.out.below steady_InsM hK1.below)).mono ?_; rintro e w2 ⟨f, rfl, hmt, rfl⟩; have hsl := HSEG.out.loop HV.out hjt (by rw [HX.out]; exact HOP.out) hmt; have HMT := Lib.hid hmt; have HSL := Lib.hid hsl; have hfb : f < tt ∧ j < f := ⟨hsl.2.1, hsl.1⟩; clear hmt hsl)
            | (go_at_call 147; refine (KL.out (.blk wr.heap.size [.int .i64 x.op, .int .i64 x.arg] 93 :: m) _ f ⟨SA, sc, A1, c1, A2, c2, A3, c3, hK1.sel [1, 2, 3, 4, 5, 0] 6 (by decide) (by decide)⟩ HSL.out.2.2.1).mono ?_; rintro e w3 ⟨s3, b3, rfl, he3, hM3, hg3⟩; have HE3 := Lib.hid he3; have HG3 := Lib.hid hg3; obtain ⟨SA3, sc3, A13, c13, A23, c23, A33, c33, hK3⟩ := hM3; clear a1 a2 a3 x1 x2 x3 he3 hg3; obtain ⟨a1, a2, a3⟩ := hK3.blkAt; obtain ⟨x1, x2, x3⟩ := hK3.drop.drop.drop.drop.drop.blkAt))
          go_roundw
          case rel => exact ⟨f + 1, s3, b1, by go_num, RunS.drop ⟨SA3, sc3, A13, c13, A23, c23, A33, c33, hK3.st 10 (.bool (b || b1))⟩, HG3.out, by have := HE3.out.mono; omega, HSL.out.2.2.2, fun s' b' h => HE.out s' b' (Ev.rLoop hjt HLT.out HC.out (by rw [HX.out]; exact HOP.out) HMT.out (by rw [HX.out]; exact HE3.out) h)⟩
          case measure => simp [intOf]; omega
      · have h2 : (s1.code == 0) = false := by simp [hc1]
        have HE1 := Lib.hid (show Ev L (.run i tt) s s1 b1 by have := HE.out s1 false (Ev.rCode hjt hc1); simpa using this)
        clear hc1
        go_wp2_with fail
        go_end0
        exact ⟨s1, b1, rfl, HE1.out, HM.out, HG.out⟩
    · have hi1 : ¬ (j : Int) < (tt : Int) := by omega
      have HE1 := Lib.hid (show Ev L (.run i tt) s s1 b1 by have := HE.out s1 false (Ev.rEnd (by omega)); simpa using this)
      go_wp2_with fail
      go_end0
      exact ⟨s1, b1, rfl, HE1.out, HM.out, HG.out⟩
theorem runS_all {L : List Ins} {LA : Option Addr} {n lc : Nat} {w0 : World} (hv : vprog L = true) (hr : RL InsM 2 w0 LA n L) : ∀ N, RunSOK L LA n lc w0 N := by
  intro N
  induction N using Nat.strongRecOn with
  | ind N ih => exact runS_of hv hr (loopS_of hr (vprog_len hv) ih)
end Go.Proofs.YtafnebpbfmbgiaaGreatDoor

namespace Go.Proofs.YtafnebpbfmbgiaaGreatDoor
open Go.RowKit Go.Sort
def StrI (L : List Ins) (w0 : World) (g : Nat) (LV : Value) (m : List Ent) (kind : Int) (N : Nat) (s : RS) (e : Ending) (w' : World) : Prop := ∃ s' b', e = .returned (.bool b') ∧ Ev L (.str kind N) s s' b' ∧ RunI w0 g LV s' m w' ∧ s'.Good
set_option maxRecDepth 100000 in
set_option maxHeartbeats 1600000 in
theorem strokesI_any {L : List Ins} {w0 : World} {g : Nat} {LV : Value} {m : List Ent} (s : RS) (kind : Int) (N : Nat) (w : World) (hM : RunI w0 g LV s m w) (hg : s.Good) (hc : s.code = 0) (hk : 1 ≤ kind ∧ kind ≤ 6) (hN : N ≤ 1000000) :
    Calls Tryz.prog 142 #[.pointer (some ⟨g, 0, none⟩), .int .i64 kind, .int .i64 N] w (StrI L w0 g LV m kind N s) := by
  go_enter Tryz.func142, Tryz.ntmps142
  go_wp2_with fail
  go_loopw [7, 11] (fun bb kk wr => ∃ (j : Nat) (s1 : RS) (b1 : Bool), j ≤ N ∧ kk = .int .i64 j ∧ bb = .bool b1 ∧ RunI w0 g LV s1 m wr ∧ s1.Good ∧ s1.code = 0 ∧ ∀ s' b', Ev L (.str kind (N - j)) s1 s' b' → Ev L (.str kind N) s s' (b1 || b')) (fun _ kk _ => N - (intOf kk).toNat)
  case atStart => exact ⟨0, s, false, Nat.zero_le _, rfl, rfl, hM, hg, hc, fun s' b' h => by simpa using h⟩
  case round =>
    clear hM
    obtain ⟨j, s1, b1, hj, rfl, rfl, hM, hg1, hc1, hev⟩ := hrel
    have HM := Lib.hid hM
    have HG := Lib.hid hg1
    have HC := Lib.hid hc1
    have HE := Lib.hid hev
    have hdn := hg1.done hc1
    have htl := hg1.tr
    clear hg1 hc1 hev hg hc hM
    by_cases hjn : j < N
    · have hi1 : (j : Int) < (N : Int) := by omega
      by_cases hd : s1.done = 3000
      · have HD := Lib.hid hd
        clear hd
        go_wp2_with (go_at_call 139; refine (counted_full s1 _ HM.out HC.out HD.out).mono ?_; rintro e w2 ⟨rfl, hM2⟩)
        go_ret
        have hev := Ev.sFull (L := L) (kind := kind) (n := N - j - 1) HD.out
        rw [show N - j - 1 + 1 = N - j by omega] at hev
        exact ⟨_, b1, rfl, by have := HE.out _ _ hev; simpa using this, by rw [RS.tick_full HD.out]; exact hM2, HG.out.tick HC.out⟩
      · have HD := Lib.hid hd
        clear hd
        obtain ⟨tr', htr⟩ : ∃ tr', s1.tr ++ [kind] = tr' := ⟨_, rfl⟩
        have HTR := Lib.hid htr
        obtain ⟨r, hr⟩ : ∃ r, strokeT kind s1.m = r := ⟨_, rfl⟩
        have KT := Lib.hid (fun (A1 A2 A3 : Option Addr) (c1 c2 c3 : Nat) (m' : List Ent) W {cs T} (h : Kn w0 (.blk g cs T :: rowI A3 c3 s1.m.s.digits :: rowI A2 c2 s1.m.b.digits :: rowI A1 c1 s1.m.a.digits :: m') W) => stroke_any s1.m A1 A2 A3 c1 c2 c3 kind W h.drop.drop.drop.riv h.drop.drop.riv h.drop.riv HG.out.m hk)
        have HR := Lib.hid hr
        have HGN := Lib.hid (show (RS.mk r.1 tr' (s1.done + 1) 0).Good by rw [← hr, ← htr]; exact HG.out.stroke HC.out HD.out kind)
        have HEV := Lib.hid (fun s' b' (h : Ev L (.str kind (N - (j + 1))) ⟨r.1, tr', s1.done + 1, 0⟩ s' b') => HE.out s' (r.2 || b') (by rw [show N - j = (N - (j + 1)) + 1 by omega, ← hr]; exact Ev.sStep HD.out (by rw [hr, htr]; exact h)))
        clear htr hr
        cases b1
        · go_wp2_with (first
            | (go_at_call 139; refine (counted_ok s1 _ HM.out HC.out HD.out hdn).mono ?_; rintro e w2 ⟨rfl, hM2⟩; obtain ⟨SA', sc', A1', c1', A2', c2', A3', c3', hK2⟩ := hM2; obtain ⟨a1, a2, a3⟩ := hK2.blkAt)
            | (go_at_call 76; refine (KT.out _ _ _ _ _ _ _ _ hK2).mono ?_; rw [HR.out]; rintro e w3 ⟨B1, d1, B2, d2, B3, d3, rfl, hK3⟩; have hK4 := hK2.join hK3; have hK6a := ((((((((hK4.sw3.st 0 (.int .i64 r.1.a.base)).st 1 (.slice B1 r.1.a.digits.length d1)).st 2 (.int .i64 r.1.b.base)).st 3 (.slice B2 r.1.b.digits.length d2)).st 4 (.int .i64 r.1.s.base)).st 5 (.slice B3 r.1.s.digits.length d3)).st 6 (.int .i64 r.1.carry)).al [.int .i64 r.1.a.base, .slice B1 r.1.a.digits.length d1, .int .i64 r.1.b.base, .slice B2 r.1.b.digits.length d2, .int .i64 r.1.s.base, .slice B3 r.1.s.digits.length d3, .int .i64 r.1.carry] 32); have hK6b := (hK6a.al [.int .i64 kind] 2).sel [0, 9, 2, 3, 4, 5] 10 (by decide) (by decide); simp only [World.size_alloc, World.size_setCell] at hK6b; clear a1 a2 a3; obtain ⟨a1, a2, a3⟩ := hK4.drop.drop.drop.blkAt)
            | (at_builtin; refine kn_pushI (m := .blk g _ _ :: _) rfl _ _ rfl _ s1.tr rfl rfl hK6b (by omega) ?_; intro v3 w5 hK5; rw [HTR.out] at hK5; obtain ⟨SB, sb, rfl⟩ := row_form hK5.at0; clear a1 a2 a3; obtain ⟨a1, a2, a3⟩ := hK5.drop.blkAt))
          go_roundw
          case rel => exact ⟨j + 1, ⟨r.1, tr', s1.done + 1, 0⟩, r.2, by omega, by go_num, rfl, ⟨SB, sb, B1, d1, B2, d2, B3, d3, (hK5.sw1.st 9 (.slice SB tr'.length sb)).sel [0, 2, 3, 4, 1] 5 (by decide) (by decide)⟩, HGN.out, rfl, fun s' b' h => by have := HEV.out s' b' h; rw [Bool.false_or] at this; exact this⟩
          case measure => simp [intOf]; omega
        · go_wp2_with (first
            | (go_at_call 139; refine (counted_ok s1 _ HM.out HC.out HD.out hdn).mono ?_; rintro e w2 ⟨rfl, hM2⟩; obtain ⟨SA', sc', A1', c1', A2', c2', A3', c3', hK2⟩ := hM2; obtain ⟨a1, a2, a3⟩ := hK2.blkAt)
            | (go_at_call 76; refine (KT.out _ _ _ _ _ _ _ _ hK2).mono ?_; rw [HR.out]; rintro e w3 ⟨B1, d1, B2, d2, B3, d3, rfl, hK3⟩; have hK4 := hK2.join hK3; have hK6a := ((((((((hK4.sw3.st 0 (.int .i64 r.1.a.base)).st 1 (.slice B1 r.1.a.digits.length d1)).st 2 (.int .i64 r.1.b.base)).st 3 (.slice B2 r.1.b.digits.length d2)).st 4 (.int .i64 r.1.s.base)).st 5 (.slice B3 r.1.s.digits.length d3)).st 6 (.int .i64 r.1.carry)).al [.int .i64 r.1.a.base, .slice B1 r.1.a.digits.length d1, .int .i64 r.1.b.base, .slice B2 r.1.b.digits.length d2, .int .i64 r.1.s.base, .slice B3 r.1.s.digits.length d3, .int .i64 r.1.carry] 32); have hK6b := (hK6a.al [.int .i64 kind] 2).sel [0, 9, 2, 3, 4, 5] 10 (by decide) (by decide); simp only [World.size_alloc, World.size_setCell] at hK6b; clear a1 a2 a3; obtain ⟨a1, a2, a3⟩ := hK4.drop.drop.drop.blkAt)
            | (at_builtin; refine kn_pushI (m := .blk g _ _ :: _) rfl _ _ rfl _ s1.tr rfl rfl hK6b (by omega) ?_; intro v3 w5 hK5; rw [HTR.out] at hK5; obtain ⟨SB, sb, rfl⟩ := row_form hK5.at0; clear a1 a2 a3; obtain ⟨a1, a2, a3⟩ := hK5.drop.blkAt))
          go_roundw
          case rel => exact ⟨j + 1, ⟨r.1, tr', s1.done + 1, 0⟩, true, by omega, by go_num, rfl, ⟨SB, sb, B1, d1, B2, d2, B3, d3, (hK5.sw1.st 9 (.slice SB tr'.length sb)).sel [0, 2, 3, 4, 1] 5 (by decide) (by decide)⟩, HGN.out, rfl, fun s' b' h => by have := HEV.out s' b' h; rw [Bool.true_or] at this ⊢; exact this⟩
          case measure => simp [intOf]; omega
    · have hi1 : ¬ (j : Int) < (N : Int) := by omega
      obtain rfl : j = N := by omega
      go_wp2_with fail
      go_ret
      have hev := HE.out _ _ (by rw [Nat.sub_self]; exact Ev.s0)
      exact ⟨s1, b1, rfl, by simpa using hev, HM.out, HG.out⟩
end Go.Proofs.YtafnebpbfmbgiaaGreatDoor

namespace Go.Proofs.YtafnebpbfmbgiaaGreatDoor
open Go.RowKit Go.Sort
def RunIRet (L : List Ins) (w0 : World) (g : Nat) (LV : Value) (m : List Ent) (tk : Task) (s : RS) (e : Ending) (w' : World) : Prop := ∃ s' b', e = .returned (.bool b') ∧ Ev L tk s s' b' ∧ RunI w0 g LV s' m w' ∧ s'.Good
def LoopIRet (L : List Ins) (w0 : World) (g : Nat) (LV : Value) (m : List Ent) (tk : Task) (s : RS) (e : Ending) (w' : World) : Prop := ∃ s', e = .returned (.tuple #[]) ∧ Ev L tk s s' false ∧ RunI w0 g LV s' m w' ∧ s'.Good
def RunIOK (L : List Ins) (LA : Option Addr) (n lc : Nat) (w0 : World) (N : Nat) : Prop := ∀ (g : Nat) (m : List Ent) (s : RS) (i tt : Nat) (w : World), 3001 - s.done ≤ N → s.code = 0 → s.Good → Seg L i tt → RunI w0 g (.slice LA n lc) s m w →
  Calls Tryz.prog 104 #[.pointer (some ⟨g, 0, none⟩), .int .i64 i, .int .i64 tt] w (RunIRet L w0 g (.slice LA n lc) m (.run i tt) s)
def LoopIOK (L : List Ins) (LA : Option Addr) (n lc : Nat) (w0 : World) (N : Nat) : Prop := ∀ (g : Nat) (m : List Ent) (s : RS) (x : Ins) (i e : Nat) (w : World), 3001 - s.done ≤ N → s.code = 0 → s.Good → opens x.op = true → instrOk x.op x.arg = true → Seg L i e → e ≤ 120 → RunI w0 g (.slice LA n lc) s m w →
  Calls Tryz.prog 141 #[.pointer (some ⟨g, 0, none⟩), .agg #[.int .i64 x.op, .int .i64 x.arg], .int .i64 i, .int .i64 e] w (LoopIRet L w0 g (.slice LA n lc) m (.loop x.op x.arg i e 0) s)
set_option maxRecDepth 100000 in
set_option maxHeartbeats 3200000 in
theorem loopI_of {L : List Ins} {LA : Option Addr} {n lc : Nat} {w0 : World} {N : Nat} (ih : ∀ N', N' < N → RunIOK L LA n lc w0 N') : LoopIOK L LA n lc w0 N := by
  intro g m s x i e w hN hc hg hop hok hseg hle hM
  obtain ⟨SA, sc, A1, c1, A2, c2, A3, c3, hK⟩ := hM
  have HIH := Lib.hid ih
  have HSEG := Lib.hid hseg
  have hx9 : x.op = 8 ∨ x.op = 9 := by simpa [opens] using hop
  have hax : 0 ≤ x.arg ∧ x.arg ≤ 1000000000000 := by have := instrOk_bd1 hok; omega
  have HC0 := Lib.hid hc
  have HG0 := Lib.hid hg
  have HN0 := Lib.hid hN
  have hie := hseg.le
  clear ih hseg hc hg hop hok hN
  go_enter Tryz.func141, Tryz.ntmps141
  go_wp2_with fail
  have hK1 := hK.al [.int .i64 x.op, .int .i64 x.arg] 93
  generalize w.alloc (.cells #[.int .i64 x.op, .int .i64 x.arg] 93) = w1 at hK1 ⊢
  have hK2 : Kn w0 _ w1 := hK1.sel [1, 2, 3, 4, 5, 0] 6 (by decide) (by decide)
  obtain ⟨g6, hg6⟩ : ∃ g6, w.heap.size = g6 := ⟨_, rfl⟩
  have hM2 : RunI w0 g (.slice LA n lc) s (.blk g6 [.int .i64 x.op, .int .i64 x.arg] 93 :: m) w1 := ⟨SA, sc, A1, c1, A2, c2, A3, c3, by rw [← hg6]; exact hK2⟩
  rw [hg6]
  clear hK1 hK2 hK hg6
  go_loopw [8] (fun kk wr => ∃ (k : Nat) (s1 : RS), kk = .int .i64 k ∧ k ≤ s1.done ∧ RunI w0 g (.slice LA n lc) s1 (.blk g6 [.int .i64 x.op, .int .i64 x.arg] 93 :: m) wr ∧ s1.Good ∧ s1.code = 0 ∧ s.done ≤ s1.done ∧ (x.op = 8 → (k : Int) ≤ x.arg) ∧ ∀ s' b', Ev L (.loop x.op x.arg i e k) s1 s' b' → Ev L (.loop x.op x.arg i e 0) s s' false) (fun kk _ => 4000 - (intOf kk).toNat)
  case atStart => exact ⟨0, s, rfl, Nat.zero_le _, hM2, HG0.out, HC0.out, Nat.le_refl _, fun _ => hax.1, fun s' b' h => by cases h with
    | lEnd a1 a2 => exact .lEnd a1 a2
    | lFull a1 a2 => exact .lFull a1 a2
    | lOut a1 a2 a3 a4 => exact .lOut a1 a2 a3 a4
    | lStep a1 a2 a3 a4 a5 => exact .lStep a1 a2 a3 a4 a5⟩
  case round =>
    clear hM2
    obtain ⟨k, s1, rfl, hkd, hM, hg1, hc1, hmono, hka, hev⟩ := hrel
    have HM := Lib.hid hM
    have HG := Lib.hid hg1
    obtain ⟨SA, sc, A1, c1, A2, c2, A3, c3, hK⟩ := hM
    obtain ⟨a1, a2, a3⟩ := hK.blkAt
    obtain ⟨x1, x2, x3⟩ := hK.drop.drop.drop.drop.drop.blkAt
    have htop := hg1.top
    have HC := Lib.hid hc1
    have HE := Lib.hid hev
    have hdn := hg1.done hc1
    have KR := Lib.hid (fun (m' : List Ent) W (hd : ¬ s1.done = 3000) (h : RunI w0 g (.slice LA n lc) ⟨s1.m, s1.tr, s1.done + 1, 0⟩ m' W) => HIH.out (3001 - (s1.done + 1)) (by have := HN0.out; omega) g m' ⟨s1.m, s1.tr, s1.done + 1, 0⟩ i e W (Nat.le_refl _) rfl (HG.out.more HC.out hd _ HG.out.m 0) HSEG.out h)
    clear hc1 hev hg1 hK
    rcases hx9 with h8 | h9
    · have o8 : (x.op == 8) = true := by simp [h8]
      have o9 : (x.op == 9) = false := by simp [h8]
      have HX8 := Lib.hid h8
      have hka' := hka h8
      clear h8 hka
      by_cases hk : (k : Int) < x.arg
      · have HNE := Lib.hid (show ¬ (x.op = 8 ∧ x.arg ≤ (k : Int)) by rintro ⟨-, h⟩; omega)
        by_cases hd : s1.done = 3000
        · have HD := Lib.hid hd
          clear hd
          go_wp2_with (go_at_call 139; refine (counted_full s1 _ HM.out HC.out HD.out).mono ?_; rintro e w2 ⟨rfl, hM2⟩)
          go_end0
          exact ⟨s1.tick, rfl, HE.out s1.tick false (Ev.lFull HNE.out HD.out), by rw [RS.tick_full HD.out]; exact hM2.drop, HG.out.tick HC.out⟩
        · have HD := Lib.hid hd
          clear hd
          go_wp2_with (go_at_call 139; refine (counted_ok s1 _ HM.out HC.out HD.out hdn).mono ?_; rintro e w2 ⟨rfl, hM2⟩; have HM2 := Lib.hid hM2; obtain ⟨SA', sc', A1', c1', A2', c2', A3', c3', hK2⟩ := hM2; clear a1 a2 a3 x1 x2 x3; obtain ⟨a1, a2, a3⟩ := hK2.blkAt; obtain ⟨x1, x2, x3⟩ := hK2.drop.drop.drop.drop.drop.blkAt)
          refine (KR.out _ _ HD.out HM2.out).mono ?_; rintro e w3 ⟨s3, b3, rfl, he3, hM3, hg3⟩
          have HM3 := Lib.hid hM3
          have HE3 := Lib.hid he3
          have HG3 := Lib.hid hg3
          have hmo3 := he3.mono
          simp only [] at hmo3
          obtain ⟨SA3, sc3, A13, c13, A23, c23, A33, c33, hK3⟩ := hM3
          clear a1 a2 a3 x1 x2 x3 hK2
          obtain ⟨a1, a2, a3⟩ := hK3.blkAt
          obtain ⟨x1, x2, x3⟩ := hK3.drop.drop.drop.drop.drop.blkAt
          clear hK3 he3 hg3
          rcases hc3 : (s3.code == 0) with _ | _
          · have HC3 := Lib.hid (show ¬ s3.code = 0 by simpa using hc3)
            have hc3' : (s3.code != 0) = true := by simpa using hc3
            go_wp2_with fail
            go_end0
            exact ⟨s3, rfl, HE.out s3 false (Ev.lOut HNE.out HD.out HE3.out (by first | exact .inl HC3.out | exact .inr ⟨HX9.out, rfl⟩)), HM3.out.drop, HG3.out⟩
          · have HC3 := Lib.hid (show s3.code = 0 by simpa using hc3)
            have hc3' : (s3.code != 0) = false := by simpa using hc3
            go_wp2_with fail
            go_roundw
            case rel => exact ⟨k + 1, s3, by go_num, by omega, HM3.out, HG3.out, HC3.out, by omega, fun h => by first | (have := HX9.out; omega) | omega, fun s' b' h => HE.out s' false (Ev.lStep HNE.out HD.out HE3.out ⟨HC3.out, by first | (rintro ⟨h, -⟩; have := HX8.out; omega) | (rintro ⟨-, h⟩; cases h)⟩ h)⟩
            case measure => simp [intOf]; omega
      · have HEQ := Lib.hid (show x.arg ≤ (k : Int) by omega)
        go_wp2_with fail
        go_end0
        exact ⟨s1, rfl, HE.out s1 false (Ev.lEnd HX8.out HEQ.out), HM.out.drop, HG.out⟩
    · have o8 : (x.op == 8) = false := by simp [h9]
      have o9 : (x.op == 9) = true := by simp [h9]
      have HX9 := Lib.hid h9
      have HNE := Lib.hid (show ¬ (x.op = 8 ∧ x.arg ≤ (k : Int)) by omega)
      clear h9 hka
      by_cases hd : s1.done = 3000
      · have HD := Lib.hid hd
        clear hd
        go_wp2_with (go_at_call 139; refine (counted_full s1 _ HM.out HC.out HD.out).mono ?_; rintro e w2 ⟨rfl, hM2⟩)
        go_end0
        exact ⟨s1.tick, rfl, HE.out s1.tick false (Ev.lFull HNE.out HD.out), by rw [RS.tick_full HD.out]; exact hM2.drop, HG.out.tick HC.out⟩
      · have HD := Lib.hid hd
        clear hd
        go_wp2_with (go_at_call 139; refine (counted_ok s1 _ HM.out HC.out HD.out hdn).mono ?_; rintro e w2 ⟨rfl, hM2⟩; have HM2 := Lib.hid hM2; obtain ⟨SA', sc', A1', c1', A2', c2', A3', c3', hK2⟩ := hM2; clear a1 a2 a3 x1 x2 x3; obtain ⟨a1, a2, a3⟩ := hK2.blkAt; obtain ⟨x1, x2, x3⟩ := hK2.drop.drop.drop.drop.drop.blkAt)
        refine (KR.out _ _ HD.out HM2.out).mono ?_; rintro e w3 ⟨s3, b3, rfl, he3, hM3, hg3⟩
        have HM3 := Lib.hid hM3
        have HE3 := Lib.hid he3
        have HG3 := Lib.hid hg3
        have hmo3 := he3.mono
        simp only [] at hmo3
        obtain ⟨SA3, sc3, A13, c13, A23, c23, A33, c33, hK3⟩ := hM3
        clear a1 a2 a3 x1 x2 x3 hK2
        obtain ⟨a1, a2, a3⟩ := hK3.blkAt
        obtain ⟨x1, x2, x3⟩ := hK3.drop.drop.drop.drop.drop.blkAt
        clear hK3 he3 hg3
        rcases hc3 : (s3.code == 0) with _ | _
        · have HC3 := Lib.hid (show ¬ s3.code = 0 by simpa using hc3)
          have hc3' : (s3.code != 0) = true := by simpa using hc3
          go_wp2_with fail
          go_end0
          exact ⟨s3, rfl, HE.out s3 false (Ev.lOut HNE.out HD.out HE3.out (by first | exact .inl HC3.out | exact .inr ⟨HX9.out, rfl⟩)), HM3.out.drop, HG3.out⟩
        · have HC3 := Lib.hid (show s3.code = 0 by simpa using hc3)
          have hc3' : (s3.code != 0) = false := by simpa using hc3
          cases b3
          · go_wp2_with fail
            go_roundw
            case rel => exact ⟨k + 1, s3, by go_num, by omega, HM3.out, HG3.out, HC3.out, by omega, fun h => by first | (have := HX9.out; omega) | omega, fun s' b' h => HE.out s' false (Ev.lStep HNE.out HD.out HE3.out ⟨HC3.out, by first | (rintro ⟨h, -⟩; have := HX8.out; omega) | (rintro ⟨-, h⟩; cases h)⟩ h)⟩
            case measure => simp [intOf]; omega
          · go_wp2_with fail
            go_end0
            exact ⟨s3, rfl, HE.out s3 false (Ev.lOut HNE.out HD.out HE3.out (by first | exact .inl HC3.out | exact .inr ⟨HX9.out, rfl⟩)), HM3.out.drop, HG3.out⟩
end Go.Proofs.YtafnebpbfmbgiaaGreatDoor

namespace Go.Proofs.YtafnebpbfmbgiaaGreatDoor
open Go.RowKit Go.Sort
theorem box8 {w0 w : World} {m : List Ent} {g g' : Nat} {v0 v1 v2 v3 v4 v5 v6 y0 y1 : Value} {l : List Value} {r1 r2 r3 r4 : Ent} {T T' : TypeId} (h : Kn w0 (.blk g (v0 :: v1 :: v2 :: v3 :: v4 :: v5 :: v6 :: l) T :: r1 :: r2 :: r3 :: r4 :: .blk g' [y0, y1] T' :: m) w) :
    w.cell? ⟨g, 0, none⟩ = some v0 ∧ w.cell? ⟨g, 1, none⟩ = some v1 ∧ w.cell? ⟨g, 2, none⟩ = some v2 ∧ w.cell? ⟨g, 3, none⟩ = some v3 ∧ w.cell? ⟨g, 4, none⟩ = some v4 ∧ w.cell? ⟨g, 5, none⟩ = some v5 ∧ w.cell? ⟨g, 6, none⟩ = some v6 ∧ w.cell? ⟨g', 1, none⟩ = some y1 :=
  ⟨h.blkAt.1 0, h.blkAt.1 1, h.blkAt.1 2, h.blkAt.1 3, h.blkAt.1 4, h.blkAt.1 5, h.blkAt.1 6, h.drop.drop.drop.drop.drop.blkAt.1 1⟩
set_option maxRecDepth 100000 in
set_option maxHeartbeats 3200000 in
theorem runI_of {L : List Ins} {LA : Option Addr} {n lc : Nat} {w0 : World} {N : Nat} (hv : vprog L = true) (hr : RL InsM 2 w0 LA n L) (ihL : LoopIOK L LA n lc w0 N) : RunIOK L LA n lc w0 N := by
  intro g m s i tt w hN hc hg hseg hM
  have hL := vprog_len hv
  have hn9 : n ≤ 120 := by rw [← hr.1]; exact hL
  have htt : tt ≤ n := by have := hseg.len; have := hr.1; omega
  have HIH := Lib.hid ihL
  have HR := Lib.hid hr
  have HV := Lib.hid hv
  have HN0 := Lib.hid hN
  clear hr ihL hv hN
  go_enter Tryz.func104, Tryz.ntmps104
  go_wp2_with fail
  go_loopw [7, 8] (fun bb ii wr => ∃ (j : Nat) (s1 : RS) (b1 : Bool), ii = .int .i64 j ∧ bb = .bool b1 ∧ RunI w0 g (.slice LA n lc) s1 m wr ∧ s1.Good ∧ s.done ≤ s1.done ∧ Seg L j tt ∧ ∀ s' b', Ev L (.run j tt) s1 s' b' → Ev L (.run i tt) s s' (b1 || b')) (fun _ ii _ => tt - (intOf ii).toNat)
  case atStart => exact ⟨i, s, false, rfl, rfl, hM, hg, Nat.le_refl _, hseg, fun s' b' h => by simpa using h⟩
  case round =>
    clear hM hc hg hseg
    obtain ⟨j, s1, b1, rfl, rfl, hM, hg1, hmono, hseg, hev⟩ := hrel
    have HM := Lib.hid hM
    have HG := Lib.hid hg1
    have HSEG := Lib.hid hseg
    have HE := Lib.hid hev
    obtain ⟨SA, sc, A1, c1, A2, c2, A3, c3, hK⟩ := hM
    obtain ⟨a1, a2, a3⟩ := hK.blkAt
    clear hg1 hev
    by_cases hjt : j < tt
    · have hi1 : (j : Int) < (tt : Int) := by omega
      by_cases hc1 : s1.code = 0
      · have HC := Lib.hid hc1
        have h2 : (s1.code == 0) = true := by simp [hc1]
        have hlt := hseg.lt hjt
        have hjn : j < n := by omega
        have hdn := HG.out.done hc1
        obtain ⟨ad, hA, hlt2, hkl, hx'⟩ := (HR.out.below steady_InsM hK.below).at_ hjn
        obtain ⟨x1, x2⟩ := hx'
        obtain ⟨x, hx⟩ : ∃ x, L[j] = x := ⟨_, rfl⟩
        rw [hx] at x1 x2
        obtain ⟨op, hope⟩ : ∃ o, x.op = o := ⟨_, rfl⟩
        rw [hope] at x1
        have HOE := Lib.hid hope
        subst hA
        have hok := (dep_step HV.out hlt).1
        rw [hx, hope] at hok
        have hbd := instrOk_bd1 hok
        have h10 := hseg.noEnd HV.out hjt
        rw [hx, hope] at h10
        have hj0 : (0 : Int) ≤ (j : Int) := by omega
        have hj1 : (j : Int) < (n : Int) := by omega
        have HX := Lib.hid hx
        have HLT := Lib.hid hlt
        have HOK := Lib.hid hok
        have H10 := Lib.hid h10
        clear hc1 hseg hlt hx hok h10 hope
        rcases hop : opens op with _ | _
        · have o8 : (op == 8) = false := by simp [opens] at hop; simp; omega
          have o9 : (op == 9) = false := by simp [opens] at hop; simp; omega
          have HNX := Lib.hid (HSEG.out.next HV.out hjt (by rw [HX.out, HOE.out]; exact hop))
          have HOP := Lib.hid hop
          clear hop
          rcases h1 : (op == 1) with _ | _
          · have hne1 : ¬ op = 1 := by simpa using h1
            have HN1 := Lib.hid hne1
            have hkd : 1 ≤ op - 1 ∧ op - 1 ≤ 6 := by
              have h3 := HOP.out
              have h4 := H10.out
              simp [opens] at h3; omega
            have hok3 := HOK.out
            clear hne1
            rcases h6 : (op == 6) with _ | _
            · rcases h7 : (op == 7) with _ | _
              · have hT3 : 1 ≤ x.arg ∧ x.arg ≤ 100 := by
                  simp at h6 h7 h1 o8 o9
                  simp only [instrOk] at hok3
                  split at hok3
                  · omega
                  · split at hok3
                    · have := betB_iff.1 hok3; omega
                    · split at hok3
                      · omega
                      · cases hok3
                obtain ⟨T, hT⟩ : ∃ T : Nat, x.arg = (T : Int) := ⟨x.arg.toNat, by omega⟩
                have HT2 := Lib.hid (show (max 1 x.arg).toNat = T by omega)
                rw [hT] at x2
                rw [hT] at hT3
                clear hok3 hT hbd
                have KS := Lib.hid (fun (m' : List Ent) W (h : RunI w0 g (.slice (some ad) n lc) s1 m' W) => strokesI_any (L := L) s1 (op - 1) T W h HG.out HC.out (by omega) (by omega))
                go_wp2_with fail
                have hK1 := hK.al [.int .i64 op, .int .i64 (T : Int)] 93
                have hK2 := hK1.sel [1, 2, 3, 4, 5, 0] 6 (by decide) (by decide)
                have hM2 : RunI w0 g (.slice (some ad) n lc) s1 (.blk wr.heap.size [.int .i64 op, .int .i64 (T : Int)] 93 :: m) _ := ⟨SA, sc, A1, c1, A2, c2, A3, c3, hK2⟩
                try rw [show op - 2 + 1 = op - 1 by omega]
                refine (KS.out _ _ hM2).mono ?_; rintro e w3 ⟨s3, b3, rfl, he3, hM3, hg3⟩
                have HM3 := Lib.hid hM3
                have HE3 := Lib.hid he3
                have HG3 := Lib.hid hg3
                clear he3 hM3 hg3 hK hK1 hK2 hM2 a1 a2 a3 x1 x2
                cases b3
                · go_wp2_with fail
                  go_roundw
                  case rel => exact ⟨j + 1, s3, b1, by go_num, rfl, HM3.out.drop, HG3.out, by have := HE3.out.mono; omega, HNX.out, fun s' b' h => by
                    have := HE.out s' (false || b') (Ev.rStr hjt HLT.out HC.out (by rw [HX.out, HOE.out]; first | exact HOP.out | rfl) (by rw [HX.out, HOE.out]; first | exact HN1.out | decide) (by rw [HX.out, HT2.out, HOE.out]; exact HE3.out) h)
                    simpa using this⟩
                  case measure => simp [intOf]; omega
                · go_wp2_with fail
                  go_roundw
                  case rel => exact ⟨j + 1, s3, true, by go_num, rfl, HM3.out.drop, HG3.out, by have := HE3.out.mono; omega, HNX.out, fun s' b' h => by
                    have := HE.out s' (true || b') (Ev.rStr hjt HLT.out HC.out (by rw [HX.out, HOE.out]; first | exact HOP.out | rfl) (by rw [HX.out, HOE.out]; first | exact HN1.out | decide) (by rw [HX.out, HT2.out, HOE.out]; exact HE3.out) h)
                    simpa using this⟩
                  case measure => simp [intOf]; omega
              · obtain rfl : op = 7 := by simpa using h7
                have HT2 := Lib.hid (show (max 1 x.arg).toNat = 1 by simp [instrOk] at hok3; omega)
                clear hok3 hbd
                have KS := Lib.hid (fun (m' : List Ent) W (h : RunI w0 g (.slice (some ad) n lc) s1 m' W) => strokesI_any (L := L) s1 (6) 1 W h HG.out HC.out (by omega) (by omega))
                go_wp2_with fail
                have hK1 := hK.al [.int .i64 7, .int .i64 x.arg] 93
                have hK2 := hK1.sel [1, 2, 3, 4, 5, 0] 6 (by decide) (by decide)
                have hM2 : RunI w0 g (.slice (some ad) n lc) s1 (.blk wr.heap.size [.int .i64 7, .int .i64 x.arg] 93 :: m) _ := ⟨SA, sc, A1, c1, A2, c2, A3, c3, hK2⟩
                try rw [show 7 - 2 + 1 = 7 - 1 by omega]
                refine (KS.out _ _ hM2).mono ?_; rintro e w3 ⟨s3, b3, rfl, he3, hM3, hg3⟩
                have HM3 := Lib.hid hM3
                have HE3 := Lib.hid he3
                have HG3 := Lib.hid hg3
                clear he3 hM3 hg3 hK hK1 hK2 hM2 a1 a2 a3 x1 x2
                cases b3
                · go_wp2_with fail
                  go_roundw
                  case rel => exact ⟨j + 1, s3, b1, by go_num, rfl, HM3.out.drop, HG3.out, by have := HE3.out.mono; omega, HNX.out, fun s' b' h => by
                    have := HE.out s' (false || b') (Ev.rStr hjt HLT.out HC.out (by rw [HX.out, HOE.out]; first | exact HOP.out | rfl) (by rw [HX.out, HOE.out]; first | exact HN1.out | decide) (by rw [HX.out, HT2.out, HOE.out]; exact HE3.out) h)
                    simpa using this⟩
                  case measure => simp [intOf]; omega
                · go_wp2_with fail
                  go_roundw
                  case rel => exact ⟨j + 1, s3, true, by go_num, rfl, HM3.out.drop, HG3.out, by have := HE3.out.mono; omega, HNX.out, fun s' b' h => by
                    have := HE.out s' (true || b') (Ev.rStr hjt HLT.out HC.out (by rw [HX.out, HOE.out]; first | exact HOP.out | rfl) (by rw [HX.out, HOE.out]; first | exact HN1.out | decide) (by rw [HX.out, HT2.out, HOE.out]; exact HE3.out) h)
                    simpa using this⟩
                  case measure => simp [intOf]; omega
            · obtain rfl : op = 6 := by simpa using h6
              have HT2 := Lib.hid (show (max 1 x.arg).toNat = 1 by simp [instrOk] at hok3; omega)
              clear hok3 hbd
              have KS := Lib.hid (fun (m' : List Ent) W (h : RunI w0 g (.slice (some ad) n lc) s1 m' W) => strokesI_any (L := L) s1 (5) 1 W h HG.out HC.out (by omega) (by omega))
              go_wp2_with fail
              have hK1 := hK.al [.int .i64 6, .int .i64 x.arg] 93
              have hK2 := hK1.sel [1, 2, 3, 4, 5, 0] 6 (by decide) (by decide)
              have hM2 : RunI w0 g (.slice (some ad) n lc) s1 (.blk wr.heap.size [.int .i64 6, .int .i64 x.arg] 93 :: m) _ := ⟨SA, sc, A1, c1, A2, c2, A3, c3, hK2⟩
              try rw [show 6 - 2 + 1 = 6 - 1 by omega]
              refine (KS.out _ _ hM2).mono ?_; rintro e w3 ⟨s3, b3, rfl, he3, hM3, hg3⟩
              have HM3 := Lib.hid hM3
              have HE3 := Lib.hid he3
              have HG3 := Lib.hid hg3
              clear he3 hM3 hg3 hK hK1 hK2 hM2 a1 a2 a3 x1 x2
              cases b3
              · go_wp2_with fail
                go_roundw
                case rel => exact ⟨j + 1, s3, b1, by go_num, rfl, HM3.out.drop, HG3.out, by have := HE3.out.mono; omega, HNX.out, fun s' b' h => by
                  have := HE.out s' (false || b') (Ev.rStr hjt HLT.out HC.out (by rw [HX.out, HOE.out]; first | exact HOP.out | rfl) (by rw [HX.out, HOE.out]; first | exact HN1.out | decide) (by rw [HX.out, HT2.out, HOE.out]; exact HE3.out) h)
                  simpa using this⟩
                case measure => simp [intOf]; omega
              · go_wp2_with fail
                go_roundw
                case rel => exact ⟨j + 1, s3, true, by go_num, rfl, HM3.out.drop, HG3.out, by have := HE3.out.mono; omega, HNX.out, fun s' b' h => by
                  have := HE.out s' (true || b') (Ev.rStr hjt HLT.out HC.out (by rw [HX.out, HOE.out]; first | exact HOP.out | rfl) (by rw [HX.out, HOE.out]; first | exact HN1.out | decide) (by rw [HX.out, HT2.out, HOE.out]; exact HE3.out) h)
                  simpa using this⟩
                case measure => simp [intOf]; omega
          · obtain rfl : op = 1 := by simpa using h1
            by_cases hd : s1.done = 3000
            · have HD := Lib.hid hd
              have HE1 := Lib.hid (show Ev L (.run i tt) s s1.tick b1 by have := HE.out s1.tick false (Ev.rSetFull hjt HLT.out HC.out (by rw [HX.out]; exact HOE.out) hd); simpa using this)
              clear hd
              go_wp2_with fail
              have hK1 := hK.al [.int .i64 1, .int .i64 x.arg] 93
              have hK2 := hK1.sel [1, 2, 3, 4, 5, 0] 6 (by decide) (by decide)
              have hM2 : RunI w0 g (.slice (some ad) n lc) s1 (.blk wr.heap.size [.int .i64 1, .int .i64 x.arg] 93 :: m) _ := ⟨SA, sc, A1, c1, A2, c2, A3, c3, hK2⟩
              refine (counted_full s1 _ hM2 HC.out HD.out).mono ?_; rintro e w2 ⟨rfl, hM3⟩
              have HM3 := Lib.hid hM3
              clear hM2 hM3 hK1 hK2 hK a1 a2 a3 x1 x2
              go_wp2_with fail
              go_ret
              exact ⟨s1.tick, b1, rfl, HE1.out, by rw [RS.tick_full HD.out]; exact HM3.out.drop, HG.out.tick HC.out⟩
            · have HD := Lib.hid hd
              obtain ⟨k1, -⟩ := vmach_all HG.out.m
              obtain ⟨⟨b1', b2'⟩, -⟩ := vreg_iff.1 k1
              have hz : Sized s1.m := by
                obtain ⟨q1, q2, q3, -⟩ := vmach_all HG.out.m
                obtain ⟨-, ⟨n1, n2⟩, -⟩ := vreg_iff.1 q1
                obtain ⟨-, ⟨n3, n4⟩, -⟩ := vreg_iff.1 q2
                obtain ⟨-, ⟨n5, n6⟩, -⟩ := vreg_iff.1 q3
                exact ⟨n1, n3, n5, n2, n4, n6⟩
              have KW := (fun (A1 A2 A3 : Option Addr) (c1 c2 c3 : Nat) (m' : List Ent) W cs T (h : Kn w0 (.blk g cs T :: rowI A3 c3 s1.m.s.digits :: rowI A2 c2 s1.m.b.digits :: rowI A1 c1 s1.m.a.digits :: m') W) => withSetting_any s1.m A1 A2 A3 c1 c2 c3 x.arg W h.drop.drop.drop.riv h.drop.drop.riv h.drop.riv hz b1' b2' hbd.2.2.1 (by omega))
              have hng : setFits s1.m x.arg = true → vmach (setT s1.m x.arg) = true := fun h => by
                have h6 : setFits s1.m x.arg = _ := restD_zero s1.m.a.base b1' s1.m.a.digits.length x.arg hbd.2.2.1
                rw [h6, decide_eq_true_iff] at h
                exact setT_ok x.arg HG.out.m hbd.2.2.1 h
              have HNG := Lib.hid hng
              obtain ⟨ds, hds⟩ : ∃ ds, digD s1.m.a.base s1.m.a.digits.length x.arg = ds := ⟨_, rfl⟩
              obtain ⟨ok, hokk⟩ : ∃ ok, (restD s1.m.a.base s1.m.a.digits.length x.arg == 0) = ok := ⟨_, rfl⟩
              rw [hds, hokk] at KW
              have KW := Lib.hid KW
              have HDS := Lib.hid hds
              have HOKK := Lib.hid (show setFits s1.m x.arg = ok from hokk)
              have HNX := Lib.hid (HSEG.out.next HV.out hjt (by rw [HX.out, HOE.out]; rfl))
              clear hd hz k1 b1' b2' hng hds hokk hbd
              go_wp2_with fail
              have hK1 := hK.al [.int .i64 1, .int .i64 x.arg] 93
              have hK2 := hK1.sel [1, 2, 3, 4, 5, 0] 6 (by decide) (by decide)
              have hM2 : RunI w0 g (.slice (some ad) n lc) s1 (.blk wr.heap.size [.int .i64 1, .int .i64 x.arg] 93 :: m) _ := ⟨SA, sc, A1, c1, A2, c2, A3, c3, hK2⟩
              refine (counted_ok s1 _ hM2 HC.out HD.out hdn).mono ?_; rintro e w2 ⟨rfl, hM3⟩
              clear hM2 hK1 hK2 hK a1 a2 a3 x1 x2
              obtain ⟨SA, sc, A1, c1, A2, c2, A3, c3, hK3⟩ := hM3
              have HT := Lib.hid (box8 hK3.drew)
              have HA := Lib.hid (box8 (hK3.al [.int .i64 0, .slice none 0 0, .int .i64 0, .slice none 0 0, .int .i64 0, .slice none 0 0, .int .i64 0] 32).drew.drop)
              have HS := HT
              go_wp2_with fail
              go_cut [10, 11] (fun pp oo wx => ∃ (g10 : Nat) (E1 : Option Addr) (g1 : Nat) (E2 : Option Addr) (g2 : Nat) (E3 : Option Addr) (g3 : Nat), pp = .pointer (some ⟨g10, 0, none⟩) ∧ oo = .bool ok ∧ Kn w0 (.blk g10 [.int .i64 s1.m.a.base, .slice E1 ds.length g1, .int .i64 s1.m.b.base, .slice E2 s1.m.b.digits.length g2, .int .i64 s1.m.s.base, .slice E3 s1.m.s.digits.length g3, .int .i64 s1.m.carry] 32 :: rowI E3 g3 s1.m.s.digits :: rowI E2 g2 s1.m.b.digits :: rowI E1 g1 ds :: .blk g [.int .i64 s1.m.a.base, .slice A1 s1.m.a.digits.length c1, .int .i64 s1.m.b.base, .slice A2 s1.m.b.digits.length c2, .int .i64 s1.m.s.base, .slice A3 s1.m.s.digits.length c3, .int .i64 s1.m.carry, .slice (some ad) n lc, .int .i64 ((s1.done + 1 : Nat) : Int), .slice SA s1.tr.length sc, .int .i64 0] 100 :: rowI A3 c3 s1.m.s.digits :: rowI A2 c2 s1.m.b.digits :: rowI A1 c1 s1.m.a.digits :: rowI SA sc s1.tr :: .blk wr.heap.size [.int .i64 1, .int .i64 x.arg] 93 :: m) wx)
              case first =>
                go_region_held3 (fun W => W.cell? ⟨g, 0, none⟩ = some (.int .i64 s1.m.a.base) ∧ W.cell? ⟨g, 1, none⟩ = some (.slice A1 s1.m.a.digits.length c1) ∧ W.cell? ⟨g, 2, none⟩ = some (.int .i64 s1.m.b.base) ∧ W.cell? ⟨g, 3, none⟩ = some (.slice A2 s1.m.b.digits.length c2) ∧ W.cell? ⟨g, 4, none⟩ = some (.int .i64 s1.m.s.base) ∧ W.cell? ⟨g, 5, none⟩ = some (.slice A3 s1.m.s.digits.length c3) ∧ W.cell? ⟨g, 6, none⟩ = some (.int .i64 s1.m.carry) ∧ W.cell? ⟨wr.heap.size, 1, none⟩ = some (.int .i64 x.arg))
                  (first | with_reducible exact HT.out | with_reducible exact HA.out | with_reducible exact HS.out | exact HT.out | exact HA.out | exact HS.out) (first
                  | (go_at_call 124; first
                    | ((with_reducible refine (KW.out _ _ _ _ _ _ _ _ _ _ hK3.drew).mono ?_); rintro e w4 ⟨E1, g1, E2, g2, E3, g3, rfl, hK⟩; clear HT HA; have hK4 := hK3.drew.join hK; have HT := Lib.hid (box8 hK4.drop.drop.drop); have HA := Lib.hid (box8 (hK4.al [.int .i64 0, .slice none 0 0, .int .i64 0, .slice none 0 0, .int .i64 0, .slice none 0 0, .int .i64 0] 32).drop.drop.drop.drop); have hK5 := hK4.al [.int .i64 s1.m.a.base, .slice E1 ds.length g1, .int .i64 s1.m.b.base, .slice E2 s1.m.b.digits.length g2, .int .i64 s1.m.s.base, .slice E3 s1.m.s.digits.length g3, .int .i64 s1.m.carry] 32; have HS := Lib.hid (box8 hK5.drop.drop.drop.drop))
                    | ((refine (KW.out _ _ _ _ _ _ _ _ _ _ (hK3.al [.int .i64 0, .slice none 0 0, .int .i64 0, .slice none 0 0, .int .i64 0, .slice none 0 0, .int .i64 0] 32).drew.drop).mono ?_); rintro e w4 ⟨E1, g1, E2, g2, E3, g3, rfl, hK⟩; clear HT HA; have hK4 := (hK3.al [.int .i64 0, .slice none 0 0, .int .i64 0, .slice none 0 0, .int .i64 0, .slice none 0 0, .int .i64 0] 32).drew.join hK; have HT := Lib.hid (box8 hK4.drop.drop.drop.drop); obtain ⟨q1, q2, q3⟩ := hK4.drop.drop.drop.blkAt; have HA := HT; have hK5 := ((((((hK4.sw3.st 0 (.int .i64 s1.m.a.base)).st 1 (.slice E1 ds.length g1)).st 2 (.int .i64 s1.m.b.base)).st 3 (.slice E2 s1.m.b.digits.length g2)).st 4 (.int .i64 s1.m.s.base)).st 5 (.slice E3 s1.m.s.digits.length g3)).st 6 (.int .i64 s1.m.carry); have HS := Lib.hid (box8 hK5.drop.drop.drop.drop))))
                all_goals
                  go_wp2_with fail
                  go_meet
                  exact ⟨_, _, _, _, _, _, _, rfl, rfl, hK5⟩
              case rest =>
                obtain ⟨g10, E1, g1, E2, g2, E3, g3, rfl, rfl, hK5⟩ := hcut
                clear HT HA HS KW hK3
                obtain ⟨y1, y2, y3, a1, a2, a3, x1, x2, x3, -⟩ := hK5.cells
                have ne1 := hK5.ne 0 4 rfl rfl (by decide)
                have ne2 := ne1.symm
                cases ok
                · go_wp2_with fail
                  go_ret
                  have hK6 := (hK5.front 4 rfl).st 10 (.int .i64 10)
                  exact ⟨⟨s1.m, s1.tr, s1.done + 1, 10⟩, b1, rfl, by have := HE.out _ false (Ev.rSetBad hjt HLT.out HC.out (by rw [HX.out]; exact HOE.out) HD.out (by rw [HX.out]; exact HOKK.out)); simpa using this, ⟨SA, sc, A1, c1, A2, c2, A3, c3, hK6.sel [0, 5, 6, 7, 8] 10 (by decide) (by decide)⟩, HG.out.more HC.out HD.out _ HG.out.m 10⟩
                · go_wp2_with fail
                  go_roundw
                  case rel =>
                    have hK6 := (((((((hK5.front 4 rfl).st 0 (.int .i64 s1.m.a.base)).st 1 (.slice E1 ds.length g1)).st 2 (.int .i64 s1.m.b.base)).st 3 (.slice E2 s1.m.b.digits.length g2)).st 4 (.int .i64 s1.m.s.base)).st 5 (.slice E3 s1.m.s.digits.length g3)).st 6 (.int .i64 s1.m.carry)
                    have hda : (setT s1.m x.arg).a.digits = ds := HDS.out
                    exact ⟨j + 1, ⟨setT s1.m x.arg, s1.tr, s1.done + 1, 0⟩, b1, by go_num, rfl, ⟨SA, sc, E1, g1, E2, g2, E3, g3, by rw [hda]; exact hK6.sel [0, 2, 3, 4, 8] 10 (by decide) (by decide)⟩, HG.out.more HC.out HD.out _ (HNG.out HOKK.out) 0, by simp only []; omega, HNX.out, fun s' b' h => HE.out s' b' (Ev.rSet hjt HLT.out HC.out (by rw [HX.out]; exact HOE.out) HD.out (by rw [HX.out]; exact HOKK.out) (by rw [HX.out]; exact h))⟩
                  case measure => simp [intOf]; omega
        · have HOP := Lib.hid hop
          have KM := Lib.hid (fun W (h : RL InsM 2 W (some ad) n L) => matchOf_any (some ad) n lc L j W h HV.out HLT.out (by rw [HX.out, HOE.out]; exact HOP.out))
          have KL := (fun (m' : List Ent) W e h (hseg' : Seg L (j + 1) e) (he : e ≤ 120) => HIH.out g m' s1 x (j + 1) e W (by have := HN0.out; omega) HC.out HG.out (by rw [HOE.out]; exact HOP.out) (by rw [HOE.out]; exact HOK.out) hseg' he h)
          rw [HOE.out] at KL
          have KL := Lib.hid KL
          have h1 : (op == 1) = false := by simp [opens] at hop; simp; omega
          rcases o8 : (op == 8) with _ | _
          · have o9 : (op == 9) = true := by simp [opens] at hop; simp at o8 ⊢; omega
            clear hop hbd
            go_wp2_with fail
            have hK1 := hK.al [.int .i64 op, .int .i64 x.arg] 93
            have hK2 := hK1.sel [1, 2, 3, 4, 5, 0] 6 (by decide) (by decide)
            have hM2 : RunI w0 g (.slice (some ad) n lc) s1 (.blk wr.heap.size [.int .i64 op, .int .i64 x.arg] 93 :: m) _ := ⟨SA, sc, A1, c1, A2, c2, A3, c3, hK2⟩
            refine (KM.out _ (HR.out.below steady_InsM hK1.below)).mono ?_; rintro e w2 ⟨f, rfl, hmt, hw⟩
            have hsl := HSEG.out.loop HV.out hjt (by rw [HX.out, HOE.out]; exact HOP.out) hmt
            have HMT := Lib.hid hmt
            have HSL := Lib.hid hsl
            have hfb : f < tt ∧ j < f := ⟨hsl.2.1, hsl.1⟩
            have hK3 := hK2.keep hw
            clear hmt hsl hw a1 a2 a3 x1 x2 hK hK1 hK2 hM2
            obtain ⟨a1, a2, a3⟩ := hK3.blkAt
            obtain ⟨x1, x2, x3⟩ := hK3.drop.drop.drop.drop.drop.blkAt
            go_wp2_with fail
            refine (KL.out (.blk wr.heap.size [.int .i64 op, .int .i64 x.arg] 93 :: m) _ f ⟨SA, sc, A1, c1, A2, c2, A3, c3, hK3⟩ HSL.out.2.2.1 (by omega)).mono ?_; rintro e w3 ⟨s3, rfl, he3, hM3, hg3⟩
            have HE3 := Lib.hid he3
            have HG3 := Lib.hid hg3
            have HM3 := Lib.hid hM3
            clear a1 a2 a3 x1 x2 x3 hK3 he3 hg3 hM3
            go_wp2_with fail
            go_roundw
            case rel => exact ⟨f + 1, s3, b1, by go_num, rfl, HM3.out.drop, HG3.out, by have := HE3.out.mono; omega, HSL.out.2.2.2, fun s' b' h => HE.out s' b' (Ev.rLoop hjt HLT.out HC.out (by rw [HX.out, HOE.out]; exact HOP.out) HMT.out (by rw [HX.out, HOE.out]; exact HE3.out) h)⟩
            case measure => simp [intOf]; omega
          · clear hop hbd
            go_wp2_with fail
            have hK1 := hK.al [.int .i64 op, .int .i64 x.arg] 93
            have hK2 := hK1.sel [1, 2, 3, 4, 5, 0] 6 (by decide) (by decide)
            have hM2 : RunI w0 g (.slice (some ad) n lc) s1 (.blk wr.heap.size [.int .i64 op, .int .i64 x.arg] 93 :: m) _ := ⟨SA, sc, A1, c1, A2, c2, A3, c3, hK2⟩
            refine (KM.out _ (HR.out.below steady_InsM hK1.below)).mono ?_; rintro e w2 ⟨f, rfl, hmt, hw⟩
            have hsl := HSEG.out.loop HV.out hjt (by rw [HX.out, HOE.out]; exact HOP.out) hmt
            have HMT := Lib.hid hmt
            have HSL := Lib.hid hsl
            have hfb : f < tt ∧ j < f := ⟨hsl.2.1, hsl.1⟩
            have hK3 := hK2.keep hw
            clear hmt hsl hw a1 a2 a3 x1 x2 hK hK1 hK2 hM2
            obtain ⟨a1, a2, a3⟩ := hK3.blkAt
            obtain ⟨x1, x2, x3⟩ := hK3.drop.drop.drop.drop.drop.blkAt
            go_wp2_with fail
            refine (KL.out (.blk wr.heap.size [.int .i64 op, .int .i64 x.arg] 93 :: m) _ f ⟨SA, sc, A1, c1, A2, c2, A3, c3, hK3⟩ HSL.out.2.2.1 (by omega)).mono ?_; rintro e w3 ⟨s3, rfl, he3, hM3, hg3⟩
            have HE3 := Lib.hid he3
            have HG3 := Lib.hid hg3
            have HM3 := Lib.hid hM3
            clear a1 a2 a3 x1 x2 x3 hK3 he3 hg3 hM3
            go_wp2_with fail
            go_roundw
            case rel => exact ⟨f + 1, s3, b1, by go_num, rfl, HM3.out.drop, HG3.out, by have := HE3.out.mono; omega, HSL.out.2.2.2, fun s' b' h => HE.out s' b' (Ev.rLoop hjt HLT.out HC.out (by rw [HX.out, HOE.out]; exact HOP.out) HMT.out (by rw [HX.out, HOE.out]; exact HE3.out) h)⟩
            case measure => simp [intOf]; omega
      · have h2 : (s1.code == 0) = false := by simp [hc1]
        have HE1 := Lib.hid (show Ev L (.run i tt) s s1 b1 by have := HE.out s1 false (Ev.rCode hjt hc1); simpa using this)
        clear hc1
        go_wp2_with fail
        go_ret
        exact ⟨s1, b1, rfl, HE1.out, HM.out, HG.out⟩
    · have hi1 : ¬ (j : Int) < (tt : Int) := by omega
      have HE1 := Lib.hid (show Ev L (.run i tt) s s1 b1 by have := HE.out s1 false (Ev.rEnd (by omega)); simpa using this)
      go_wp2_with fail
      go_ret
      exact ⟨s1, b1, rfl, HE1.out, HM.out, HG.out⟩
theorem runI_all {L : List Ins} {LA : Option Addr} {n lc : Nat} {w0 : World} (hv : vprog L = true) (hr : RL InsM 2 w0 LA n L) : ∀ N, RunIOK L LA n lc w0 N := by
  intro N
  induction N using Nat.strongRecOn with
  | ind N ih => exact runI_of hv hr (loopI_of ih)
end Go.Proofs.YtafnebpbfmbgiaaGreatDoor

namespace Go.Proofs.YtafnebpbfmbgiaaGreatDoor
open Go.RowKit Go.Sort
/-- how a run begins -/
def startR (t : Tri) : RS := ⟨t, [], 0, 0⟩
theorem startR_good {t : Tri} (h : vmach t = true) : (startR t).Good := ⟨h, Nat.le_refl _, fun _ => by simp [startR], by simp [startR]⟩
theorem sized_of {t : Tri} (h : vmach t = true) : Sized t := by
  obtain ⟨q1, q2, q3, -⟩ := vmach_all h
  obtain ⟨-, ⟨n1, n2⟩, -⟩ := vreg_iff.1 q1
  obtain ⟨-, ⟨n3, n4⟩, -⟩ := vreg_iff.1 q2
  obtain ⟨-, ⟨n5, n6⟩, -⟩ := vreg_iff.1 q3
  exact ⟨n1, n3, n5, n2, n4, n6⟩
def RunPI (L : List Ins) (t : Tri) (LV : Value) (w : World) (e : Ending) (w' : World) : Prop := ∃ g s' b', e = .returned (.pointer (some ⟨g, 0, none⟩)) ∧ Ev L (.run 0 L.length) (startR t) s' b' ∧ RunI w g LV s' [] w' ∧ s'.Good
def RunPS (L : List Ins) (t : Tri) (LV : Value) (w : World) (e : Ending) (w' : World) : Prop := ∃ g s' b' b, e = .returned (.pointer (some ⟨g, 0, none⟩)) ∧ Ev L (.run 0 L.length) (startR t) s' b' ∧ RunS w g LV s' b [] w' ∧ s'.Good
set_option maxRecDepth 100000 in
set_option maxHeartbeats 1600000 in
theorem runProgram_any {L : List Ins} {n lc : Nat} {LA : Option Addr} (t : Tri) (A1 A2 A3 : Option Addr) (c1 c2 c3 : Nat) (w : World) (r1 : RI w A1 t.a.digits.length t.a.digits) (r2 : RI w A2 t.b.digits.length t.b.digits) (r3 : RI w A3 t.s.digits.length t.s.digits) (hv : vmach t = true) (hp : vprog L = true) (hr : RL InsM 2 w LA n L) :
    Calls Tryz.prog 60 #[.agg #[.int .i64 t.a.base, .slice A1 t.a.digits.length c1, .int .i64 t.b.base, .slice A2 t.b.digits.length c2, .int .i64 t.s.base, .slice A3 t.s.digits.length c3, .int .i64 t.carry], .slice LA n lc] w (RunPI L t (.slice LA n lc) w) := by
  have KC := Lib.hid (fun W (hW : Below w.heap.size w W) => copiedM_any t A1 A2 A3 c1 c2 c3 W (r1.below hW) (r2.below hW) (r3.below hW) (sized_of hv))
  have hlen := hr.1
  have KR := (fun g W h => runI_all (lc := lc) hp hr 3001 g [] (startR t) 0 L.length W (by simp) rfl (startR_good hv) (Seg.all hp) h)
  rw [hlen] at KR
  have KR := Lib.hid KR
  have HL := Lib.hid hlen
  clear r1 r2 r3 hv hp hr hlen
  go_enter Tryz.func60, Tryz.ntmps60
  go_wp2_with fail
  refine Calls.kn ((Kn.nil w).al [.int .i64 t.a.base, .slice A1 t.a.digits.length c1, .int .i64 t.b.base, .slice A2 t.b.digits.length c2, .int .i64 t.s.base, .slice A3 t.s.digits.length c3, .int .i64 t.carry] 32) ?_; intro w1 hK1
  (with_reducible refine (KC.out _ hK1.below).mono ?_); rintro e w2 ⟨B1, h1, B2, h2, B3, h3, rfl, hKC⟩
  have hK2 := hK1.join hKC
  go_wp2_with fail
  have hK3 := (hK2.al [] 2).litRow (size := 1) (n := 0) rfl (by decide)
  have hK4 := hK3.al [.int .i64 t.a.base, .slice B1 t.a.digits.length h1, .int .i64 t.b.base, .slice B2 t.b.digits.length h2, .int .i64 t.s.base, .slice B3 t.s.digits.length h3, .int .i64 t.carry, .slice LA n lc, .int .i64 0, .slice (some ⟨w2.heap.size, 0, none⟩) 0 0, .int .i64 0] 100
  simp only [World.size_alloc] at hK4
  refine Calls.kn hK4 ?_; intro w3 hK5
  refine (KR.out _ w3 ⟨some ⟨w2.heap.size, 0, none⟩, 0, B1, h1, B2, h2, B3, h3, hK5.sel [0, 2, 3, 4, 1] 99 (by decide) (by decide)⟩).mono ?_
  rintro e w4 ⟨s', b', rfl, he, hM, hg⟩
  have HE := Lib.hid he
  have HM := Lib.hid hM
  have HG := Lib.hid hg
  clear he hM hg
  go_wp2_with fail
  go_ret
  exact ⟨_, s', b', rfl, by rw [HL.out]; exact HE.out, HM.out, HG.out⟩
set_option maxRecDepth 100000 in
set_option maxHeartbeats 1600000 in
theorem l11Run_any {L : List Ins} {n lc : Nat} {LA : Option Addr} (g0 : Nat) (t : Tri) (A1 A2 A3 : Option Addr) (c1 c2 c3 : Nat) (w : World) (hT : TriC w ⟨g0, 0, none⟩ t A1 c1 A2 c2 A3 c3) (hv : vmach t = true) (hp : vprog L = true) (hr : RL InsM 2 w LA n L) :
    Calls Tryz.prog 64 #[.pointer (some ⟨g0, 0, none⟩), .slice LA n lc] w (RunPS L t (.slice LA n lc) w) := by
  have KC := Lib.hid (l10Own_any g0 t A1 A2 A3 c1 c2 c3 w hT (sized_of hv))
  have hlen := hr.1
  have KR := (fun g W h => runS_all (lc := lc) hp hr 3001 g [] (startR t) false 0 L.length W (by simp) rfl (startR_good hv) (Seg.all hp) h)
  rw [hlen] at KR
  have KR := Lib.hid KR
  have HL := Lib.hid hlen
  clear hT hv hp hr hlen
  go_enter Tryz.func64, Tryz.ntmps64
  go_wp2_with fail
  refine KC.out.mono ?_; rintro e w2 ⟨B1, h1, B2, h2, B3, h3, rfl, hK2⟩
  go_wp2_with fail
  have hK3 := (hK2.al [] 2).litRow (size := 1) (n := 0) rfl (by decide)
  have hK4 := hK3.al [.int .i64 t.a.base, .slice B1 t.a.digits.length h1, .int .i64 t.b.base, .slice B2 t.b.digits.length h2, .int .i64 t.s.base, .slice B3 t.s.digits.length h3, .int .i64 t.carry, .slice LA n lc, .slice (some ⟨w2.heap.size, 0, none⟩) 0 0, .int .i64 0, .bool false, .int .i64 0] 105
  simp only [World.size_alloc] at hK4
  refine Calls.kn hK4 ?_; intro w3 hK5
  refine (KR.out _ w3 ⟨some ⟨w2.heap.size, 0, none⟩, 0, B1, h1, B2, h2, B3, h3, hK5.sel [0, 2, 3, 4, 1] 99 (by decide) (by decide)⟩).mono ?_
  rintro e w4 ⟨s', b', rfl, he, hM, hg⟩
  have HE := Lib.hid he
  have HM := Lib.hid hM
  have HG := Lib.hid hg
  clear he hM hg
  go_wp2_with fail
  go_ret
  exact ⟨_, s', b', _, rfl, by rw [HL.out]; exact HE.out, HM.out, HG.out⟩
end Go.Proofs.YtafnebpbfmbgiaaGreatDoor

namespace Go.Proofs.YtafnebpbfmbgiaaGreatDoor
open Go.RowKit Go.Sort
instance : Inhabited RS := ⟨⟨default, [], 0, 0⟩⟩
/-- where a run ends -/
noncomputable def endR (L : List Ins) (t : Tri) : RS := Classical.epsilon (fun s' => ∃ b', Ev L (.run 0 L.length) (startR t) s' b')
theorem endR_eq {L : List Ins} {t : Tri} {s' : RS} {b' : Bool} (h : Ev L (.run 0 L.length) (startR t) s' b') : endR L t = s' := by
  obtain ⟨b2, h2⟩ := Classical.epsilon_spec (p := fun s' => ∃ b', Ev L (.run 0 L.length) (startR t) s' b') ⟨s', b', h⟩
  exact (h2.one h).1
noncomputable def rpC (L : List Ins) (t : Tri) : Int := if vmach t && vprog L then (endR L t).code else 1
noncomputable def rpM (L : List Ins) (t : Tri) : Tri := if rpC L t = 0 ∧ vmach (endR L t).m = true then (endR L t).m else zTri
noncomputable def rpT (L : List Ins) (t : Tri) : List Int := if rpC L t = 0 ∧ (endR L t).tr.length ≤ 3001 then (endR L t).tr else []
theorem rp_bad {L : List Ins} {t : Tri} (h : (vmach t && vprog L) = false) : rpC L t = 1 ∧ rpM L t = zTri ∧ rpT L t = [] := by
  have h1 : rpC L t = 1 := by unfold rpC; rw [h]; rfl
  refine ⟨h1, ?_, ?_⟩
  · unfold rpM; rw [h1, if_neg (fun h => absurd h.1 (by decide))]
  · unfold rpT; rw [h1, if_neg (fun h => absurd h.1 (by decide))]
theorem rp_code {L : List Ins} {t : Tri} (h1 : vmach t = true) (h2 : vprog L = true) {s' : RS} {b' : Bool} (h : Ev L (.run 0 L.length) (startR t) s' b') (hc : ¬ s'.code = 0) : rpC L t = s'.code ∧ rpM L t = zTri ∧ rpT L t = [] := by
  have h3 : rpC L t = s'.code := by unfold rpC; rw [h1, h2, endR_eq h]; rfl
  refine ⟨h3, ?_, ?_⟩
  · unfold rpM; rw [h3, if_neg (fun h => hc h.1)]
  · unfold rpT; rw [h3, if_neg (fun h => hc h.1)]
theorem rp_fine {L : List Ins} {t : Tri} (h1 : vmach t = true) (h2 : vprog L = true) {s' : RS} {b' : Bool} (h : Ev L (.run 0 L.length) (startR t) s' b') (hg : s'.Good) (hc : s'.code = 0) : rpC L t = 0 ∧ rpM L t = s'.m ∧ rpT L t = s'.tr := by
  have h3 : rpC L t = 0 := by unfold rpC; rw [h1, h2, endR_eq h]; exact hc
  refine ⟨h3, ?_, ?_⟩
  · unfold rpM; rw [h3, endR_eq h, if_pos ⟨rfl, hg.m⟩]
  · unfold rpT; rw [h3, endR_eq h, if_pos ⟨rfl, by have := hg.tr; have := hg.top; omega⟩]
theorem rpM_len (L : List Ins) (t : Tri) : (rpM L t).a.digits.length ≤ 16 ∧ (rpM L t).b.digits.length ≤ 16 ∧ (rpM L t).s.digits.length ≤ 16 := by
  unfold rpM
  split
  · rename_i h
    have := sized_of h.2
    exact ⟨this.a, this.b, this.s⟩
  · simp [zTri]
theorem rpT_len (L : List Ins) (t : Tri) : (rpT L t).length ≤ 3001 := by
  unfold rpT
  split
  · rename_i h; exact h.2
  · simp
/-- what RunProgram returns -/
def RPRet (L : List Ins) (t : Tri) (w : World) (e : Ending) (w' : World) : Prop := ∃ A1 c1 A2 c2 A3 c3, e = .returned (.tuple #[.agg #[.int .i64 (rpM L t).a.base, .slice A1 (rpM L t).a.digits.length c1, .int .i64 (rpM L t).b.base, .slice A2 (rpM L t).b.digits.length c2, .int .i64 (rpM L t).s.base, .slice A3 (rpM L t).s.digits.length c3, .int .i64 (rpM L t).carry], .int .i64 ((rpT L t).length : Int), .int .i64 (rpC L t)]) ∧
  Kn w [rowI A3 c3 (rpM L t).s.digits, rowI A2 c2 (rpM L t).b.digits, rowI A1 c1 (rpM L t).a.digits] w'
/-- what TraceProgram returns -/
def TPRet (L : List Ins) (t : Tri) (w : World) (e : Ending) (w' : World) : Prop := ∃ A c, e = .returned (.tuple #[.slice A (rpT L t).length c, .int .i64 (rpC L t)]) ∧ Kn w [rowI A c (rpT L t)] w'
set_option maxRecDepth 100000 in
set_option maxHeartbeats 3200000 in
theorem RunProgram_any {L : List Ins} {n lc : Nat} {LA : Option Addr} (t : Tri) (A1 A2 A3 : Option Addr) (c1 c2 c3 : Nat) (w : World) (r1 : RI w A1 t.a.digits.length t.a.digits) (r2 : RI w A2 t.b.digits.length t.b.digits) (r3 : RI w A3 t.s.digits.length t.s.digits) (hs : SmallTri t) (hr : RL InsM 2 w LA n L) (hn : n ≤ 9223372036854775807) :
    Calls Tryz.prog 31 #[.agg #[.int .i64 t.a.base, .slice A1 t.a.digits.length c1, .int .i64 t.b.base, .slice A2 t.b.digits.length c2, .int .i64 t.s.base, .slice A3 t.s.digits.length c3, .int .i64 t.carry], .slice LA n lc] w (RPRet L t w) := by
  have KV := (fun W (hW : Below w.heap.size w W) => ValidMachine_any t A1 A2 A3 c1 c2 c3 W (r1.below hW) (r2.below hW) (r3.below hW) hs)
  have KP := (fun W (hW : Below w.heap.size w W) => ValidProgram_any LA n lc L W (hr.below steady_InsM hW) hn)
  rcases hv : vmach t with _ | _
  · rw [hv] at KV
    have HB := Lib.hid (rp_bad (L := L) (t := t) (by rw [hv]; rfl))
    have KV := Lib.hid KV
    clear hv KP r1 r2 r3 hr hs hn
    go_enter Tryz.func31, Tryz.ntmps31
    go_wp2_with fail
    refine Calls.kn (((Kn.nil w).al [.int .i64 t.a.base, .slice A1 t.a.digits.length c1, .int .i64 t.b.base, .slice A2 t.b.digits.length c2, .int .i64 t.s.base, .slice A3 t.s.digits.length c3, .int .i64 t.carry] 32).al [.int .i64 0, .slice none 0 0, .int .i64 0, .slice none 0 0, .int .i64 0, .slice none 0 0, .int .i64 0] 32) ?_; intro w1 hK0
    simp only [World.size_alloc] at hK0
    refine (KV.out _ hK0.below).mono ?_; rintro e w2 ⟨rfl, hw⟩
    have hK1 := hK0.keep hw
    obtain ⟨x1, x2, x3, -⟩ := hK1.cells
    go_wp2_with fail
    refine bodyPost.kn (((((((hK1.st 0 (.int .i64 0)).st 1 (.slice none 0 0)).st 2 (.int .i64 0)).st 3 (.slice none 0 0)).st 4 (.int .i64 0)).st 5 (.slice none 0 0)).st 6 (.int .i64 0)) ?_; intro w6 hK6
    clear x1 x2 x3
    obtain ⟨a1, a2, a3, -⟩ := hK6.cells
    refine bodyPost_ret (v := .tuple #[.agg #[.int .i64 0, .slice none 0 0, .int .i64 0, .slice none 0 0, .int .i64 0, .slice none 0 0, .int .i64 0], .int .i64 0, .int .i64 1]) (by simp [results, Tryz.results31, go_sem, a1]) rfl ?_
    refine ⟨none, 0, none, 0, none, 0, by rw [HB.out.1, HB.out.2.1, HB.out.2.2]; rfl, ?_⟩
    rw [HB.out.2.1]
    exact ((hK6.bare.nilRow _ _).nilRow _ _).nilRow _ _
  rcases hp : vprog L with _ | _
  · rw [hv] at KV
    rw [hp] at KP
    have HB := Lib.hid (rp_bad (L := L) (t := t) (by rw [hv, hp]; rfl))
    have KV := Lib.hid KV
    have KP := Lib.hid KP
    clear hv hp r1 r2 r3 hr hs hn
    go_enter Tryz.func31, Tryz.ntmps31
    go_wp2_with fail
    refine Calls.kn (((Kn.nil w).al [.int .i64 t.a.base, .slice A1 t.a.digits.length c1, .int .i64 t.b.base, .slice A2 t.b.digits.length c2, .int .i64 t.s.base, .slice A3 t.s.digits.length c3, .int .i64 t.carry] 32).al [.int .i64 0, .slice none 0 0, .int .i64 0, .slice none 0 0, .int .i64 0, .slice none 0 0, .int .i64 0] 32) ?_; intro w1 hK0
    simp only [World.size_alloc] at hK0
    refine (KV.out _ hK0.below).mono ?_; rintro e w2 ⟨rfl, hw⟩
    have hK0 := hK0.keep hw
    go_wp2_with fail
    refine (KP.out _ hK0.below).mono ?_; rintro e w3 ⟨rfl, hw⟩
    have hK1 := hK0.keep hw
    obtain ⟨x1, x2, x3, -⟩ := hK1.cells
    go_wp2_with fail
    refine bodyPost.kn (((((((hK1.st 0 (.int .i64 0)).st 1 (.slice none 0 0)).st 2 (.int .i64 0)).st 3 (.slice none 0 0)).st 4 (.int .i64 0)).st 5 (.slice none 0 0)).st 6 (.int .i64 0)) ?_; intro w6 hK6
    clear x1 x2 x3
    obtain ⟨a1, a2, a3, -⟩ := hK6.cells
    refine bodyPost_ret (v := .tuple #[.agg #[.int .i64 0, .slice none 0 0, .int .i64 0, .slice none 0 0, .int .i64 0, .slice none 0 0, .int .i64 0], .int .i64 0, .int .i64 1]) (by simp [results, Tryz.results31, go_sem, a1]) rfl ?_
    refine ⟨none, 0, none, 0, none, 0, by rw [HB.out.1, HB.out.2.1, HB.out.2.2]; rfl, ?_⟩
    rw [HB.out.2.1]
    exact ((hK6.bare.nilRow _ _).nilRow _ _).nilRow _ _
  rw [hv] at KV
  rw [hp] at KP
  have KR := Lib.hid (fun W (hW : Below w.heap.size w W) => runProgram_any (lc := lc) t A1 A2 A3 c1 c2 c3 W (r1.below hW) (r2.below hW) (r3.below hW) hv hp (hr.below steady_InsM hW))
  have HV := Lib.hid hv
  have HP := Lib.hid hp
  have KV := Lib.hid KV
  have KP := Lib.hid KP
  clear hv hp r1 r2 r3 hr hs hn
  go_enter Tryz.func31, Tryz.ntmps31
  go_wp2_with fail
  refine Calls.kn (((Kn.nil w).al [.int .i64 t.a.base, .slice A1 t.a.digits.length c1, .int .i64 t.b.base, .slice A2 t.b.digits.length c2, .int .i64 t.s.base, .slice A3 t.s.digits.length c3, .int .i64 t.carry] 32).al [.int .i64 0, .slice none 0 0, .int .i64 0, .slice none 0 0, .int .i64 0, .slice none 0 0, .int .i64 0] 32) ?_; intro w1 hK0
  simp only [World.size_alloc] at hK0
  refine (KV.out _ hK0.below).mono ?_; rintro e w2 ⟨rfl, hw⟩
  have hK0 := hK0.keep hw
  go_wp2_with fail
  refine (KP.out _ hK0.below).mono ?_; rintro e w3 ⟨rfl, hw⟩
  have hK2 := hK0.keep hw
  obtain ⟨x1, x2, x3, y1, y2, y3, -⟩ := hK2.cells
  go_wp2_with fail
  refine (KR.out _ hK2.below).mono ?_; rintro e w4 ⟨g, s, b', rfl, he, ⟨SA, sc, B1, d1, B2, d2, B3, d3, hKr⟩, hg⟩
  have HE := Lib.hid he
  have HGD := Lib.hid hg
  clear he hg x1 x2 x3 y1 y2 y3
  have hK3 := hK2.join hKr
  clear hK2 hKr
  obtain ⟨a1, a2, a3⟩ := hK3.blkAt
  rcases hc0 : (s.code == 0) with _ | _
  · have hcn : ¬ s.code = 0 := by simpa using hc0
    have hcb : (s.code != 0) = true := by simpa using hc0
    have HB := Lib.hid (rp_code HV.out HP.out HE.out hcn)
    clear hc0 hcn
    obtain ⟨q1, q2, q3⟩ := (hK3.front 5 rfl).blkAt
    go_wp2_with fail
    have HG := Lib.hid (hK3.drew.cellIs 10 (.int .i64 s.code) rfl)
    have hK4 := (((((((hK3.front 5 rfl).st 0 (.int .i64 0)).st 1 (.slice none 0 0)).st 2 (.int .i64 0)).st 3 (.slice none 0 0)).st 4 (.int .i64 0)).st 5 (.slice none 0 0)).st 6 (.int .i64 0)
    have HS := Lib.hid (hK4.drew.drop.cellIs 10 (.int .i64 s.code) rfl)
    go_region_held3 (fun W => W.cell? ⟨g, 10, none⟩ = some (.int .i64 s.code)) (first | with_reducible exact HG.out | with_reducible exact HS.out) (fail)
    all_goals
      go_wp2_with fail
      refine bodyPost.kn hK4.drew ?_; intro w6 hK6
      clear a1 a2 a3 q1 q2 q3
      obtain ⟨a1, a2, a3, -⟩ := hK6.cells
      refine bodyPost_ret (v := .tuple #[.agg #[.int .i64 0, .slice none 0 0, .int .i64 0, .slice none 0 0, .int .i64 0, .slice none 0 0, .int .i64 0], .int .i64 0, .int .i64 s.code]) (by simp [results, Tryz.results31, go_sem, a1]) rfl ?_
      refine ⟨none, 0, none, 0, none, 0, by rw [HB.out.1, HB.out.2.1, HB.out.2.2]; rfl, ?_⟩
      rw [HB.out.2.1]
      exact ((hK6.bare.nilRow _ _).nilRow _ _).nilRow _ _
  · have hcn : s.code = 0 := by simpa using hc0
    have hcb : (s.code != 0) = false := by simpa using hc0
    have HB := Lib.hid (rp_fine HV.out HP.out HE.out HGD.out hcn)
    clear hc0 hcn
    obtain ⟨q1, q2, q3⟩ := (hK3.front 5 rfl).blkAt
    go_wp2_with fail
    have HG := Lib.hid (And.intro (hK3.drew.cellIs 9 (.slice SA s.tr.length sc) rfl) (box7' hK3.drew))
    have hK4 := (((((((hK3.front 5 rfl).st 0 (.int .i64 s.m.a.base)).st 1 (.slice B1 s.m.a.digits.length d1)).st 2 (.int .i64 s.m.b.base)).st 3 (.slice B2 s.m.b.digits.length d2)).st 4 (.int .i64 s.m.s.base)).st 5 (.slice B3 s.m.s.digits.length d3)).st 6 (.int .i64 s.m.carry)
    have HS := Lib.hid (And.intro (hK4.drew.drop.cellIs 9 (.slice SA s.tr.length sc) rfl) (box7' hK4.drew.drop))
    go_region_held3 (fun W => W.cell? ⟨g, 9, none⟩ = some (.slice SA s.tr.length sc) ∧ W.cell? ⟨g, 0, none⟩ = some (.int .i64 s.m.a.base) ∧ W.cell? ⟨g, 1, none⟩ = some (.slice B1 s.m.a.digits.length d1) ∧ W.cell? ⟨g, 2, none⟩ = some (.int .i64 s.m.b.base) ∧ W.cell? ⟨g, 3, none⟩ = some (.slice B2 s.m.b.digits.length d2) ∧ W.cell? ⟨g, 4, none⟩ = some (.int .i64 s.m.s.base) ∧ W.cell? ⟨g, 5, none⟩ = some (.slice B3 s.m.s.digits.length d3) ∧ W.cell? ⟨g, 6, none⟩ = some (.int .i64 s.m.carry)) (first | with_reducible exact HG.out | with_reducible exact HS.out) (fail)
    all_goals
      go_wp2_with fail
      refine bodyPost.kn hK4.drew ?_; intro w6 hK6
      clear a1 a2 a3 q1 q2 q3
      obtain ⟨a1, a2, a3, -⟩ := hK6.cells
      refine bodyPost_ret (v := .tuple #[.agg #[.int .i64 s.m.a.base, .slice B1 s.m.a.digits.length d1, .int .i64 s.m.b.base, .slice B2 s.m.b.digits.length d2, .int .i64 s.m.s.base, .slice B3 s.m.s.digits.length d3, .int .i64 s.m.carry], .int .i64 s.tr.length, .int .i64 0]) (by simp [results, Tryz.results31, go_sem, a1]) rfl ?_
      refine ⟨B1, d1, B2, d2, B3, d3, by rw [HB.out.1, HB.out.2.1, HB.out.2.2], ?_⟩
      rw [HB.out.2.1]
      exact hK6.sel [2, 3, 4] 99 (by decide) (by decide)
end Go.Proofs.YtafnebpbfmbgiaaGreatDoor

namespace Go.Proofs.YtafnebpbfmbgiaaGreatDoor
open Go.RowKit Go.Sort
set_option maxRecDepth 100000 in
set_option maxHeartbeats 3200000 in
theorem TraceProgram_any {L : List Ins} {n lc : Nat} {LA : Option Addr} (t : Tri) (A1 A2 A3 : Option Addr) (c1 c2 c3 : Nat) (w : World) (r1 : RI w A1 t.a.digits.length t.a.digits) (r2 : RI w A2 t.b.digits.length t.b.digits) (r3 : RI w A3 t.s.digits.length t.s.digits) (hs : SmallTri t) (hr : RL InsM 2 w LA n L) (hn : n ≤ 9223372036854775807) :
    Calls Tryz.prog 32 #[.agg #[.int .i64 t.a.base, .slice A1 t.a.digits.length c1, .int .i64 t.b.base, .slice A2 t.b.digits.length c2, .int .i64 t.s.base, .slice A3 t.s.digits.length c3, .int .i64 t.carry], .slice LA n lc] w (TPRet L t w) := by
  have KV := (fun W (hW : Below w.heap.size w W) => ValidMachine_any t A1 A2 A3 c1 c2 c3 W (r1.below hW) (r2.below hW) (r3.below hW) hs)
  have KP := (fun W (hW : Below w.heap.size w W) => ValidProgram_any LA n lc L W (hr.below steady_InsM hW) hn)
  rcases hv : vmach t with _ | _
  · rw [hv] at KV
    have HB := Lib.hid (rp_bad (L := L) (t := t) (by rw [hv]; rfl))
    have KV := Lib.hid KV
    clear hv KP r1 r2 r3 hr hs hn
    go_enter Tryz.func32, Tryz.ntmps32
    go_wp2_with fail
    refine Calls.kn ((Kn.nil w).al [.int .i64 t.a.base, .slice A1 t.a.digits.length c1, .int .i64 t.b.base, .slice A2 t.b.digits.length c2, .int .i64 t.s.base, .slice A3 t.s.digits.length c3, .int .i64 t.carry] 32) ?_; intro w1 hK0
    refine (KV.out _ hK0.below).mono ?_; rintro e w2 ⟨rfl, hw⟩
    have hK1 := hK0.keep hw
    go_wp2_with fail
    go_ret2
    refine ⟨none, 0, by rw [HB.out.1, HB.out.2.2]; rfl, ?_⟩
    rw [HB.out.2.2]
    exact hK1.bare.nilRow _ _
  rcases hp : vprog L with _ | _
  · rw [hv] at KV
    rw [hp] at KP
    have HB := Lib.hid (rp_bad (L := L) (t := t) (by rw [hv, hp]; rfl))
    have KV := Lib.hid KV
    have KP := Lib.hid KP
    clear hv hp r1 r2 r3 hr hs hn
    go_enter Tryz.func32, Tryz.ntmps32
    go_wp2_with fail
    refine Calls.kn ((Kn.nil w).al [.int .i64 t.a.base, .slice A1 t.a.digits.length c1, .int .i64 t.b.base, .slice A2 t.b.digits.length c2, .int .i64 t.s.base, .slice A3 t.s.digits.length c3, .int .i64 t.carry] 32) ?_; intro w1 hK0
    refine (KV.out _ hK0.below).mono ?_; rintro e w2 ⟨rfl, hw⟩
    have hK0 := hK0.keep hw
    go_wp2_with fail
    refine (KP.out _ hK0.below).mono ?_; rintro e w3 ⟨rfl, hw⟩
    have hK1 := hK0.keep hw
    go_wp2_with fail
    go_ret2
    refine ⟨none, 0, by rw [HB.out.1, HB.out.2.2]; rfl, ?_⟩
    rw [HB.out.2.2]
    exact hK1.bare.nilRow _ _
  rw [hv] at KV
  rw [hp] at KP
  have KR := Lib.hid (fun W (hW : Below w.heap.size w W) => runProgram_any (lc := lc) t A1 A2 A3 c1 c2 c3 W (r1.below hW) (r2.below hW) (r3.below hW) hv hp (hr.below steady_InsM hW))
  have HV := Lib.hid hv
  have HP := Lib.hid hp
  have KV := Lib.hid KV
  have KP := Lib.hid KP
  clear hv hp r1 r2 r3 hr hs hn
  go_enter Tryz.func32, Tryz.ntmps32
  go_wp2_with fail
  refine Calls.kn ((Kn.nil w).al [.int .i64 t.a.base, .slice A1 t.a.digits.length c1, .int .i64 t.b.base, .slice A2 t.b.digits.length c2, .int .i64 t.s.base, .slice A3 t.s.digits.length c3, .int .i64 t.carry] 32) ?_; intro w1 hK0
  refine (KV.out _ hK0.below).mono ?_; rintro e w2 ⟨rfl, hw⟩
  have hK0 := hK0.keep hw
  go_wp2_with fail
  refine (KP.out _ hK0.below).mono ?_; rintro e w3 ⟨rfl, hw⟩
  have hK2 := hK0.keep hw
  obtain ⟨x1, x2, x3, -⟩ := hK2.cells
  go_wp2_with fail
  refine (KR.out _ hK2.below).mono ?_; rintro e w4 ⟨g, s, b', rfl, he, ⟨SA, sc, B1, d1, B2, d2, B3, d3, hKr⟩, hg⟩
  have HE := Lib.hid he
  have HGD := Lib.hid hg
  clear he hg x1 x2 x3
  have hK3 := hK2.join hKr
  clear hK2 hKr
  obtain ⟨a1, a2, a3⟩ := hK3.blkAt
  rcases hc0 : (s.code == 0) with _ | _
  · have hcn : ¬ s.code = 0 := by simpa using hc0
    have hcb : (s.code != 0) = true := by simpa using hc0
    have HB := Lib.hid (rp_code HV.out HP.out HE.out hcn)
    clear hc0 hcn
    go_wp2_with fail
    have HG := Lib.hid (hK3.drew.cellIs 10 (.int .i64 s.code) rfl)
    go_region_held3 (fun W => W.cell? ⟨g, 10, none⟩ = some (.int .i64 s.code)) (first | with_reducible exact HG.out) (fail)
    all_goals
      go_wp2_with fail
      go_ret2
      refine ⟨none, 0, by rw [HB.out.1, HB.out.2.2]; rfl, ?_⟩
      rw [HB.out.2.2]
      exact hK3.drew.bare.nilRow _ _
  · have hcn : s.code = 0 := by simpa using hc0
    have hcb : (s.code != 0) = false := by simpa using hc0
    have HB := Lib.hid (rp_fine HV.out HP.out HE.out HGD.out hcn)
    clear hc0 hcn
    go_wp2_with fail
    go_ret2
    refine ⟨SA, sc, by rw [HB.out.1, HB.out.2.2]; rfl, ?_⟩
    rw [HB.out.2.2]
    exact hK3.sel [4] 99 (by decide) (by decide)
end Go.Proofs.YtafnebpbfmbgiaaGreatDoor

namespace Go.Proofs.YtafnebpbfmbgiaaGreatDoor
open Go.RowKit
/-- the decimal form -/
def dec (n : Int) : List UInt8 := Lib.itoa n
def digs (u : Nat) : List UInt8 := if u = 0 then [] else Lib.decDigits u
theorem digs_step (u : Nat) (h : u ≠ 0) : digs u = digs (u / 10) ++ [UInt8.ofNat (48 + u % 10)] := by
  unfold digs
  rw [if_neg h]
  by_cases h1 : u < 10
  · rw [if_pos (by omega), Lib.decDigits_one h1, Nat.mod_eq_of_lt h1]; rfl
  · rw [if_neg (by omega)]
    conv => lhs; rw [Lib.decDigits, dif_neg h1]
theorem digs_len (n : Int) (h0 : -9223372036854775808 ≤ n) (h1 : n ≤ 9223372036854775807) : (digs n.natAbs).length ≤ 21 := by
  have h := Lib.itoa_length_le n h0 h1
  unfold digs
  split
  · simp
  · by_cases hn : n < 0
    · unfold Lib.itoa at h; rw [if_pos hn] at h; simp at h; omega
    · unfold Lib.itoa at h; rw [if_neg hn] at h
      have : n.natAbs = n.toNat := by omega
      rw [this]; omega
theorem dec_of (n : Int) : dec n = if n = 0 then [48] else if n < 0 then 45 :: digs n.natAbs else digs n.natAbs := by
  unfold dec Lib.itoa digs
  by_cases h0 : n = 0
  · subst h0; rw [if_pos rfl]; simp [Lib.decDigits_one]
  · rw [if_neg h0, if_neg (by omega : ¬ n.natAbs = 0)]
    by_cases hn : n < 0
    · rw [if_pos hn, if_pos hn]
    · rw [if_neg hn, if_neg hn, show n.natAbs = n.toNat by omega]
theorem ofNat_toNat48 (d : Nat) (h : d < 10) : ((UInt8.ofNat (48 + d)).toNat : Int) = 48 + (d : Int) := by
  simp [UInt8.toNat_ofNat]; omega
theorem tmod_neg10 (u : Nat) : (-(u : Int)).tmod 10 = -((u % 10 : Nat) : Int) := by
  rw [Int.neg_tmod]; rfl
theorem tdiv_neg10 (u : Nat) : (-(u : Int)).tdiv 10 = -((u / 10 : Nat) : Int) := by
  rw [Int.neg_tdiv]; rfl
theorem OwnB.lit1 (w : World) (b : UInt8) (base : Nat) (hb : base ≤ w.heap.size) : OwnB (w.alloc (.cells #[byteV b] 5)) base (.slice (some ⟨w.heap.size, 0, none⟩) 1 1) [b] := World.ownsRow_lit w #[byteV b] 1 hb (by decide) rfl
theorem OwnB.cells_at {w : World} {base g c n : Nat} {ds : List UInt8} (h : OwnB w base (.slice (some ⟨g, 0, none⟩) n c) ds) : RB w (some ⟨g, 0, none⟩) ds.length ds ∧ g < w.heap.size := by
  rcases h.2 with ⟨h1, _⟩ | ⟨g', cap, cur, h1, hb, hg, hnc, _, hcs, htake⟩
  · cases h1
  · injection h1 with h1 h2 h3; injection h1 with h1; injection h1 with h1; subst h1
    exact ⟨⟨rfl, fun _ => ⟨_, rfl, (Array.getElem?_eq_some_iff.1 hg).1, fun j u hu => h.cells (g := g) rfl j (byteV u) (by simp [hu])⟩⟩, (Array.getElem?_eq_some_iff.1 hg).1⟩
theorem byteV_one (bs : List UInt8) : ∀ u ∈ bs.map byteV, u.oneCell' = true := by
  intro u hu; obtain ⟨b, -, rfl⟩ := List.mem_map.1 hu; rfl
theorem byte48 (u : Nat) : byteV (UInt8.ofNat (48 + u % 10)) = .int .u8 (48 + (u : Int) % 10) := by
  unfold byteV; rw [ofNat_toNat48 (u % 10) (by omega)]; rfl
theorem ret_str {a b : ByteArray} (h : a = b) : Ending.returned (.string a) = .returned (.string b) := by rw [h]
set_option maxRecDepth 100000 in
set_option maxHeartbeats 800000 in
theorem l01Dec_any (n : Int) (w : World) (h0 : -9223372036854775808 ≤ n) (h1 : n ≤ 9223372036854775807) :
    Calls Tryz.prog 83 #[.int .i64 n] w fun e w' => e = .returned (.string ⟨(dec n).toArray⟩) ∧ Below w.heap.size w w' := by
  have hlen := digs_len n h0 h1
  rcases Int.lt_or_le n 0 with hn | hn
  · obtain ⟨u0, rfl⟩ : ∃ u : Nat, n = -(u : Int) := ⟨n.natAbs, by omega⟩
    have HD := Lib.hid (dec_of (-(u0 : Int)))
    have hu0 : (-(u0 : Int)).natAbs = u0 := by omega
    rw [hu0] at hlen
    have HU := Lib.hid hu0; clear hu0
    go_enter Tryz.func83, Tryz.ntmps83
    go_wp2
    go_loopw [3, 4, 5] (fun v k _ wr => ∃ (u : Nat) (bs : List UInt8) (g c : Nat), u ≤ u0 ∧ k = .int .i64 (-(u : Int)) ∧ v = .slice (some ⟨g, 0, none⟩) bs.length c ∧ OwnB wr w.heap.size (.slice (some ⟨g, 0, none⟩) bs.length c) bs ∧ digs u0 = digs u ++ bs ∧ Below w.heap.size w wr) (fun _ k _ _ => (intOf k).natAbs)
    case atStart => exact ⟨u0, [], w.heap.size, 0, Nat.le_refl _, rfl, rfl, World.ownsRow_lit w #[] 0 (Nat.le_refl _) (by decide) rfl, by simp, (Below.refl _ _).alloc (Nat.le_refl _) _⟩
    case round =>
      obtain ⟨u, bs, g, c, hu, rfl, rfl, hown, hdg, hbr⟩ := hrel
      have hbl : bs.length ≤ 21 := by rw [hdg] at hlen; simp at hlen; omega
      obtain ⟨hrb, hgl⟩ := hown.cells_at
      have HG := Lib.hid hdg; clear hdg
      rcases Nat.eq_zero_or_pos u with hu1 | hu1
      · subst hu1
        have HE : Hid (digs u0 = bs) := HG.out
        have hcv := conv_bytes wr (some ⟨g, 0, none⟩) bs.length c bs hrb
        by_cases hz : bs.length = 0
        · have hzz : ((bs.length : Int) == 0) = true := by simp [hz]
          have HF : Hid (dec (-(u0 : Int)) = [48]) := by
            have h1 := HE.out
            have : u0 = 0 := by
              rcases Nat.eq_zero_or_pos u0 with h | h
              · exact h
              · rw [digs_step u0 (by omega)] at h1; rw [← h1] at hz; simp at hz
            rw [Hid, HD.out, if_pos (by omega)]
          have Hz := Lib.hid hz; clear hz
          go_wp2
          go_ret
          exact ⟨ret_str (by rw [HF.out]), hbr⟩
        · have hzz : ((bs.length : Int) == 0) = false := by rw [beq_eq_false_iff_ne]; omega
          have h0 : u0 ≠ 0 := by rintro rfl; have h1 := HE.out; simp [digs] at h1; exact hz (by rw [h1]; rfl)
          have HF : Hid (dec (-(u0 : Int)) = if (-(u0 : Int)) < 0 then 45 :: bs else bs) := by rw [Hid, HD.out, if_neg (by omega), HU.out, HE.out]
          clear hz
          first
            | (have hnn : (-(u0 : Int)) < 0 := by omega
               go_wp2
               go_ret
               exact ⟨ret_str (by rw [HF.out, if_pos hnn]; rfl), hbr⟩)
            | (have hnn : ¬ (-(u0 : Int)) < 0 := by omega
               go_wp2
               go_ret
               exact ⟨ret_str (by rw [HF.out, if_neg (by omega)]), hbr⟩)
      · have t3 : ((-(u : Int)) != 0) = true := by rw [bne_iff_ne]; omega
        have HN : Hid (digs u0 = digs (u / 10) ++ (UInt8.ofNat (48 + u % 10) :: bs)) := by rw [Hid, HG.out, digs_step u (by omega)]; simp
        clear hrb
        obtain ⟨dd, hdd⟩ : ∃ dd : Int, dd = (u : Int) % 10 := ⟨_, rfl⟩
        have hd0 : 0 ≤ dd := by omega
        have hd1 : dd < 10 := by omega
        have hbv : byteV (UInt8.ofNat (48 + u % 10)) = .int .u8 (48 + dd) := by rw [byte48 u, hdd]
        have hl1 := OwnB.lit1 wr (UInt8.ofNat (48 + u % 10)) w.heap.size hbr.size
        have t1 := tmod_neg10 u
        have t2 := tdiv_neg10 u
        have t4 : ((u : Int)) % 10 = dd := hdd.symm
        have t5 : (((u % 10 : Nat)) : Int) = dd := by omega
        rw [t5] at t1
        clear t5
        have HDD := Lib.hid hdd; clear hdd
        rcases Int.lt_or_eq_of_le hd0 with hpos | hzero
        rotate_right 1
        · subst hzero
          rw [Int.neg_zero] at t1
          have hbv : byteV (UInt8.ofNat (48 + u % 10)) = .int .u8 48 := hbv
          rw [hbv] at hl1
          have hcs := (World.ownsRow.alloc hown (.cells #[.int .u8 48] 5)).cells (g := g) rfl
          clear hbv
          go_wp2_with (at_builtin; refine appG tpB rfl _ _ rfl w.heap.size (.slice (some ⟨wr.heap.size, 0, none⟩) 1 1) 1 ([UInt8.ofNat (48 + u % 10)].map byteV) rfl hl1 ⟨g, 0, none⟩ bs.length c (bs.map byteV) rfl (by simp) hcs (byteV_one bs) (by omega) (by omega) (by have := hbr.size; simp; omega) ?_; intro v1 w1 hown1 hg1 hat1)
          obtain ⟨g', c', hv', hbg', hlt'⟩ := hown1.form (by omega)
          subst hv'
          have hbz : Below w.heap.size w w1 := (hbr.alloc hbr.size _).grown hg1 (Nat.le_trans hbr.size (by simp)) (fun k hk => Nat.le_trans hbr.size (Nat.le_of_eq (by simpa [Value.ownBlock] using hk)))
          have hown2 : OwnB w1 w.heap.size (.slice (some ⟨g', 0, none⟩) (UInt8.ofNat (48 + u % 10) :: bs).length c') (UInt8.ofNat (48 + u % 10) :: bs) := by unfold OwnB; rw [List.length_cons, Nat.add_comm]; exact hown1
          clear hown1 hl1 hcs
          go_roundw
          case rel => exact ⟨u / 10, UInt8.ofNat (48 + u % 10) :: bs, g', c', by omega, by congr 1, by rw [List.length_cons, Nat.add_comm], hown2, HN.out, hbz⟩
          case measure => simp [intOf]; omega
        · skip
          rw [hbv] at hl1
          have hcs := (World.ownsRow.alloc hown (.cells #[.int .u8 (48 + dd)] 5)).cells (g := g) rfl
          clear hbv
          go_wp2_with (at_builtin; refine appG tpB rfl _ _ rfl w.heap.size (.slice (some ⟨wr.heap.size, 0, none⟩) 1 1) 1 ([UInt8.ofNat (48 + u % 10)].map byteV) rfl hl1 ⟨g, 0, none⟩ bs.length c (bs.map byteV) rfl (by simp) hcs (byteV_one bs) (by omega) (by omega) (by have := hbr.size; simp; omega) ?_; intro v1 w1 hown1 hg1 hat1)
          obtain ⟨g', c', hv', hbg', hlt'⟩ := hown1.form (by omega)
          subst hv'
          have hbz : Below w.heap.size w w1 := (hbr.alloc hbr.size _).grown hg1 (Nat.le_trans hbr.size (by simp)) (fun k hk => Nat.le_trans hbr.size (Nat.le_of_eq (by simpa [Value.ownBlock] using hk)))
          have hown2 : OwnB w1 w.heap.size (.slice (some ⟨g', 0, none⟩) (UInt8.ofNat (48 + u % 10) :: bs).length c') (UInt8.ofNat (48 + u % 10) :: bs) := by unfold OwnB; rw [List.length_cons, Nat.add_comm]; exact hown1
          clear hown1 hl1 hcs
          go_roundw
          case rel => exact ⟨u / 10, UInt8.ofNat (48 + u % 10) :: bs, g', c', by omega, by congr 1, by rw [List.length_cons, Nat.add_comm], hown2, HN.out, hbz⟩
          case measure => simp [intOf]; omega
  · obtain ⟨u0, rfl⟩ : ∃ u : Nat, n = (u : Int) := ⟨n.natAbs, by omega⟩
    have HD := Lib.hid (dec_of (u0 : Int))
    have hu0 : ((u0 : Int)).natAbs = u0 := by omega
    rw [hu0] at hlen
    have HU := Lib.hid hu0; clear hu0
    go_enter Tryz.func83, Tryz.ntmps83
    go_wp2
    go_loopw [3, 4, 5] (fun v k _ wr => ∃ (u : Nat) (bs : List UInt8) (g c : Nat), u ≤ u0 ∧ k = .int .i64 ((u : Int)) ∧ v = .slice (some ⟨g, 0, none⟩) bs.length c ∧ OwnB wr w.heap.size (.slice (some ⟨g, 0, none⟩) bs.length c) bs ∧ digs u0 = digs u ++ bs ∧ Below w.heap.size w wr) (fun _ k _ _ => (intOf k).natAbs)
    case atStart => exact ⟨u0, [], w.heap.size, 0, Nat.le_refl _, rfl, rfl, World.ownsRow_lit w #[] 0 (Nat.le_refl _) (by decide) rfl, by simp, (Below.refl _ _).alloc (Nat.le_refl _) _⟩
    case round =>
      obtain ⟨u, bs, g, c, hu, rfl, rfl, hown, hdg, hbr⟩ := hrel
      have hbl : bs.length ≤ 21 := by rw [hdg] at hlen; simp at hlen; omega
      obtain ⟨hrb, hgl⟩ := hown.cells_at
      have HG := Lib.hid hdg; clear hdg
      rcases Nat.eq_zero_or_pos u with hu1 | hu1
      · subst hu1
        have HE : Hid (digs u0 = bs) := HG.out
        have hcv := conv_bytes wr (some ⟨g, 0, none⟩) bs.length c bs hrb
        by_cases hz : bs.length = 0
        · have hzz : ((bs.length : Int) == 0) = true := by simp [hz]
          have HF : Hid (dec ((u0 : Int)) = [48]) := by
            have h1 := HE.out
            have : u0 = 0 := by
              rcases Nat.eq_zero_or_pos u0 with h | h
              · exact h
              · rw [digs_step u0 (by omega)] at h1; rw [← h1] at hz; simp at hz
            rw [Hid, HD.out, if_pos (by omega)]
          have Hz := Lib.hid hz; clear hz
          go_wp2
          go_ret
          exact ⟨ret_str (by rw [HF.out]), hbr⟩
        · have hzz : ((bs.length : Int) == 0) = false := by rw [beq_eq_false_iff_ne]; omega
          have h0 : u0 ≠ 0 := by rintro rfl; have h1 := HE.out; simp [digs] at h1; exact hz (by rw [h1]; rfl)
          have HF : Hid (dec ((u0 : Int)) = if ((u0 : Int)) < 0 then 45 :: bs else bs) := by rw [Hid, HD.out, if_neg (by omega), HU.out, HE.out]
          clear hz
          first
            | (have hnn : ((u0 : Int)) < 0 := by omega
               go_wp2
               go_ret
               exact ⟨ret_str (by rw [HF.out, if_pos hnn]; rfl), hbr⟩)
            | (have hnn : ¬ ((u0 : Int)) < 0 := by omega
               go_wp2
               go_ret
               exact ⟨ret_str (by rw [HF.out, if_neg (by omega)]), hbr⟩)
      · have t3 : (((u : Int)) != 0) = true := by rw [bne_iff_ne]; omega
        have HN : Hid (digs u0 = digs (u / 10) ++ (UInt8.ofNat (48 + u % 10) :: bs)) := by rw [Hid, HG.out, digs_step u (by omega)]; simp
        clear hrb
        obtain ⟨dd, hdd⟩ : ∃ dd : Int, dd = (u : Int) % 10 := ⟨_, rfl⟩
        have hd0 : 0 ≤ dd := by omega
        have hd1 : dd < 10 := by omega
        have hbv : byteV (UInt8.ofNat (48 + u % 10)) = .int .u8 (48 + dd) := by rw [byte48 u, hdd]
        have hl1 := OwnB.lit1 wr (UInt8.ofNat (48 + u % 10)) w.heap.size hbr.size
        have t1 := tmod_neg10 u
        have t2 := tdiv_neg10 u
        have t4 : ((u : Int)) % 10 = dd := hdd.symm
        have t5 : (((u % 10 : Nat)) : Int) = dd := by omega
        rw [t5] at t1
        clear t5
        have HDD := Lib.hid hdd; clear hdd
        rcases Int.lt_or_eq_of_le hd0 with hpos | hzero
        rotate_right 1
        · subst hzero
          skip
          have hbv : byteV (UInt8.ofNat (48 + u % 10)) = .int .u8 48 := hbv
          rw [hbv] at hl1
          have hcs := (World.ownsRow.alloc hown (.cells #[.int .u8 48] 5)).cells (g := g) rfl
          clear hbv
          go_wp2_with (at_builtin; refine appG tpB rfl _ _ rfl w.heap.size (.slice (some ⟨wr.heap.size, 0, none⟩) 1 1) 1 ([UInt8.ofNat (48 + u % 10)].map byteV) rfl hl1 ⟨g, 0, none⟩ bs.length c (bs.map byteV) rfl (by simp) hcs (byteV_one bs) (by omega) (by omega) (by have := hbr.size; simp; omega) ?_; intro v1 w1 hown1 hg1 hat1)
          obtain ⟨g', c', hv', hbg', hlt'⟩ := hown1.form (by omega)
          subst hv'
          have hbz : Below w.heap.size w w1 := (hbr.alloc hbr.size _).grown hg1 (Nat.le_trans hbr.size (by simp)) (fun k hk => Nat.le_trans hbr.size (Nat.le_of_eq (by simpa [Value.ownBlock] using hk)))
          have hown2 : OwnB w1 w.heap.size (.slice (some ⟨g', 0, none⟩) (UInt8.ofNat (48 + u % 10) :: bs).length c') (UInt8.ofNat (48 + u % 10) :: bs) := by unfold OwnB; rw [List.length_cons, Nat.add_comm]; exact hown1
          clear hown1 hl1 hcs
          go_roundw
          case rel => exact ⟨u / 10, UInt8.ofNat (48 + u % 10) :: bs, g', c', by omega, by congr 1, by rw [List.length_cons, Nat.add_comm], hown2, HN.out, hbz⟩
          case measure => simp [intOf]; omega
        · skip
          rw [hbv] at hl1
          have hcs := (World.ownsRow.alloc hown (.cells #[.int .u8 (48 + dd)] 5)).cells (g := g) rfl
          clear hbv
          go_wp2_with (at_builtin; refine appG tpB rfl _ _ rfl w.heap.size (.slice (some ⟨wr.heap.size, 0, none⟩) 1 1) 1 ([UInt8.ofNat (48 + u % 10)].map byteV) rfl hl1 ⟨g, 0, none⟩ bs.length c (bs.map byteV) rfl (by simp) hcs (byteV_one bs) (by omega) (by omega) (by have := hbr.size; simp; omega) ?_; intro v1 w1 hown1 hg1 hat1)
          obtain ⟨g', c', hv', hbg', hlt'⟩ := hown1.form (by omega)
          subst hv'
          have hbz : Below w.heap.size w w1 := (hbr.alloc hbr.size _).grown hg1 (Nat.le_trans hbr.size (by simp)) (fun k hk => Nat.le_trans hbr.size (Nat.le_of_eq (by simpa [Value.ownBlock] using hk)))
          have hown2 : OwnB w1 w.heap.size (.slice (some ⟨g', 0, none⟩) (UInt8.ofNat (48 + u % 10) :: bs).length c') (UInt8.ofNat (48 + u % 10) :: bs) := by unfold OwnB; rw [List.length_cons, Nat.add_comm]; exact hown1
          clear hown1 hl1 hcs
          go_roundw
          case rel => exact ⟨u / 10, UInt8.ofNat (48 + u % 10) :: bs, g', c', by omega, by congr 1, by rw [List.length_cons, Nat.add_comm], hown2, HN.out, hbz⟩
          case measure => simp [intOf]; omega
end Go.Proofs.YtafnebpbfmbgiaaGreatDoor

namespace Go.Proofs.YtafnebpbfmbgiaaGreatDoor
open Go.RowKit Go.Sort
/-- strconv's table stands in memory -/
def TB (w : World) : Prop := Lib.TabIs Tryz.prog w "internal/strconv.uint64pow10" .u64 Lib.pow10Tab
theorem TB.below {w w' : World} (h : TB w) (hb : Below w.heap.size w w') : TB w' := by
  unfold TB Lib.TabIs World.var? at *
  cases hg : Tryz.prog.globalNamed "internal/strconv.uint64pow10" with
  | none => rw [hg] at h; cases h
  | some g =>
    rw [hg] at h
    simp only [Option.bind_some] at h ⊢
    have hl : g < w.heap.size := by
      rcases Nat.lt_or_ge g w.heap.size with h1 | h1
      · exact h1
      · rw [Array.getElem?_eq_none h1] at h; cases h
    rw [hb.block g hl]; exact h
theorem cat_bytes (a b : List UInt8) : (⟨a.toArray⟩ : ByteArray) ++ (⟨b.toArray⟩ : ByteArray) = ⟨(a ++ b).toArray⟩ := by
  apply ByteArray.ext; simp
theorem dec_len (n : Int) (h0 : -9223372036854775808 ≤ n) (h1 : n ≤ 9223372036854775807) : (dec n).length ≤ 21 := Lib.itoa_length_le n h0 h1
theorem Decimal_any (n : Int) (w : World) (h0 : -9223372036854775808 ≤ n) (h1 : n ≤ 9223372036854775807) (ht : TB w) :
    Calls Tryz.prog 80 #[.int .i64 n] w fun e w' => e = .returned (.string ⟨(dec n).toArray⟩) ∧ Below w.heap.size w w' := by
  go_enter Tryz.func80, Tryz.ntmps80
  go_wp2_with (go_at_call 125; refine (Tryz.strconv_FormatInt_10 n h0 h1 _ ht).mono ?_; rintro e w' ⟨rfl, k, os, rfl⟩)
  go_ret
  exact ⟨rfl, by rw [show grow (w.drewN k) os = grow (redrawn w (w.drawn + k)) os from rfl]; exact below_regrown w _ _⟩
/-- the character of a digit -/
def dch (d : Int) : UInt8 := if d < 10 then UInt8.ofNat (48 + d.toNat) else UInt8.ofNat (87 + d.toNat)
def rtextL (b : Int) (ds : List Int) : List UInt8 := dec b ++ [58] ++ (ds.reverse.map dch)
def rtS (b : Int) (ds : List Int) : ByteArray := ⟨(rtextL b ds).toArray⟩
theorem rtS_nil (b : Int) : rtS b [] = (⟨(dec b).toArray⟩ : ByteArray) ++ (⟨#[58]⟩ : ByteArray) := by
  rw [show (#[58] : Array UInt8) = [58].toArray from rfl, cat_bytes]; simp [rtS, rtextL]
theorem rtS_step (b : Int) (ds : List Int) (k : Nat) (h : k < ds.length) : rtS b (ds.drop k) = rtS b (ds.drop (k + 1)) ++ (⟨[dch ds[k]].toArray⟩ : ByteArray) := by
  unfold rtS; rw [cat_bytes, List.drop_eq_getElem_cons h]; unfold rtextL; rw [List.reverse_cons, List.map_append, List.append_assoc (dec b ++ [58])]; rfl
theorem rtS_len (b : Int) (ds : List Int) : (rtS b ds).size = (dec b).length + 1 + ds.length := by
  unfold rtS rtextL; simp [ByteArray.size]; omega
theorem piece (d : Int) (h0 : 0 ≤ d) (h1 : d < 16) : (⟨#[48, 49, 50, 51, 52, 53, 54, 55, 56, 57, 97, 98, 99, 100, 101, 102]⟩ : ByteArray).extract d.toNat (d + 1).toNat = ⟨[dch d].toArray⟩ := by
  obtain ⟨m, rfl⟩ : ∃ m : Nat, d = (m : Int) := ⟨d.toNat, by omega⟩
  have hm : m < 16 := by omega
  have : ∀ m : Fin 16, (⟨#[48, 49, 50, 51, 52, 53, 54, 55, 56, 57, 97, 98, 99, 100, 101, 102]⟩ : ByteArray).extract ((m.val : Int)).toNat ((m.val : Int) + 1).toNat = ⟨[dch m.val].toArray⟩ := by decide
  exact this ⟨m, hm⟩
def rtext (r : Reg) : List UInt8 := if r.ok then rtextL r.base r.digits else []
set_option maxHeartbeats 800000 in
theorem RegisterText_any (b : Int) (A : Option Addr) (n c : Nat) (ds : List Int) (w : World) (hr : RI w A n ds) (hm : n ≤ 9223372036854775807) (ht : TB w) :
    Calls Tryz.prog 79 #[.agg #[.int .i64 b, .slice A n c]] w fun e w' => e = .returned (.string ⟨(rtext ⟨b, ds⟩).toArray⟩) ∧ Below w.heap.size w w' := by
  have HL := Lib.hid hr.1
  have hb0 : Below w.heap.size w (w.alloc (.cells #[.int .i64 b, .slice A n c] 30)) := (Below.refl _ _).alloc (Nat.le_refl _) _
  rcases hv : vreg b ds with _ | _
  · have HF : Hid (rtext ⟨b, ds⟩ = []) := by simp [Hid, rtext, Reg.ok, hv]
    go_enter Tryz.func79, Tryz.ntmps79
    go_wp2_with (go_at_call 98; refine (ValidRegister_any b A n c ds _ (hr.below hb0) (by omega)).mono ?_; rintro e w1 ⟨rfl, hw1⟩; rw [hv])
    go_ret
    exact ⟨ret_str (by rw [HF.out]), hb0.trans (hw1.mono (by simp))⟩
  · have HF : Hid (rtext ⟨b, ds⟩ = rtextL b ds) := by simp [Hid, rtext, Reg.ok, hv]
    obtain ⟨⟨hb1, hb2⟩, ⟨hl1, hl2⟩, hd, -⟩ := vreg_iff.1 hv
    go_enter Tryz.func79, Tryz.ntmps79
    go_wp2_with fail
    refine (ValidRegister_any b A n c ds _ (hr.below hb0) (by omega)).mono ?_; rintro e w1 ⟨rfl, hw1⟩; rw [hv]
    obtain ⟨hc1, -⟩ := bcellB (B := w.heap.size + 1) (hw1.mono (by simp))
    go_wp2_with fail
    refine (Decimal_any b _ (by omega) (by omega) ((ht.below hb0).below hw1)).mono ?_
    rintro e w2 ⟨rfl, hw2⟩
    have hW2 : Below (w.heap.size + 1) (w.alloc (.cells #[.int .i64 b, .slice A n c] 30)) w2 := (hw1.mono (by simp)).trans (hw2.mono (by have := hw1.size; simpa using this))
    obtain ⟨hc2, -⟩ := bcellB hW2
    clear hc1
    have hdl := dec_len b (by omega) (by omega)
    go_wp2_with fail
    go_loopw [3, 4] (fun v i wr => ∃ k : Nat, k ≤ n ∧ i = .int .i64 ((k : Int) - 1) ∧ v = .string (rtS b (ds.drop k)) ∧ Below (w.heap.size + 1) (w.alloc (.cells #[.int .i64 b, .slice A n c] 30)) wr) (fun _ i _ => (intOf i + 1).toNat)
    case atStart => exact ⟨n, Nat.le_refl _, rfl, by rw [List.drop_of_length_le (by have := HL.out; omega), rtS_nil], hW2⟩
    case round =>
      obtain ⟨k, hk, rfl, rfl, hbl⟩ := hrel
      clear hc2
      rcases Nat.eq_zero_or_pos k with hk0 | hk0
      · subst hk0
        go_wp2
        go_ret
        exact ⟨ret_str (by rw [HF.out]; rfl), hb0.trans (hbl.mono (by omega))⟩
      · obtain ⟨ad, hA, hlt, hkl, hc⟩ := hr.at_ (show k - 1 < n by omega)
        rw [← World.cell?_alloc_lt w (.cells #[.int .i64 b, .slice A n c] 30) (ad.add (k - 1)) (by rw [block_of_add]; omega), ← hbl.cell (by rw [block_of_add]; omega)] at hc
        have hb0' : wr.cell? ⟨w.heap.size, 0, none⟩ = some (.int .i64 b) := by rw [hbl.cell (by simp)]; go_simp
        have hb1' : wr.cell? ⟨w.heap.size, 1, none⟩ = some (.slice A n c) := by rw [hbl.cell (by simp)]; go_simp
        obtain ⟨hd0, hd1⟩ := hd ds[k-1] (List.getElem_mem _)
        have hll : (rtS b (ds.drop k)).size ≤ 40 := by rw [rtS_len]; simp; omega
        have HS : Hid (rtS b (ds.drop (k - 1)) = rtS b (ds.drop k) ++ (⟨[dch ds[k-1]].toArray⟩ : ByteArray)) := by
          have := rtS_step b ds (k - 1) hkl; rwa [show k - 1 + 1 = k by omega] at this
        subst hA
        go_wp2
        go_quiet (fail)
        go_wp2
        go_roundw
        case rel => exact ⟨k - 1, by omega, by congr 1; omega, by rw [HS.out, piece _ hd0 (by omega)], hbl.trans (below_drewN (Below.refl _ _) _)⟩
        case measure => simp [intOf]; omega
set_option maxHeartbeats 800000 in
theorem l02Text_any (p : Addr) (r : Reg) (w : World) (hp : RegM w p r) (hv : r.ok = true) (hpb : p.block < w.heap.size) :
    Calls Tryz.prog 82 #[.pointer (some p)] w fun e w' => e = .returned (.string ⟨(rtext r).toArray⟩) ∧ Below w.heap.size w w' := by
  obtain ⟨b, ds⟩ := r
  obtain ⟨A, c, ⟨hc0, hc1⟩, hr⟩ := hp
  simp only at hc0 hc1 hr
  have HF : Hid (rtext ⟨b, ds⟩ = rtextL b ds) := by simp [Hid, rtext, hv]
  obtain ⟨⟨hb1, hb2⟩, ⟨hl1, hl2⟩, hd, -⟩ := vreg_iff.1 hv
  obtain ⟨n, hn⟩ : ∃ n, n = ds.length := ⟨_, rfl⟩
  rw [← hn] at hc1 hr
  have HL := Lib.hid hn
  rw [← hn] at hl1 hl2
  clear hn
  go_enter Tryz.func82, Tryz.ntmps82
  go_wp2_with fail
  refine (l01Dec_any b _ (by omega) (by omega)).mono ?_
  rintro e w2 ⟨rfl, hw2⟩
  have hdl := dec_len b (by omega) (by omega)
  have hc0' : w2.cell? p = some (.int .i64 b) := by rw [hw2.cell hpb]; exact hc0
  have hc1' : w2.cell? ⟨p.block, p.off + 1, none⟩ = some (.slice A n c) := by rw [hw2.cell (by exact hpb)]; exact hc1
  go_wp2_with fail
  go_loopw [4, 5] (fun v i wr => ∃ k : Nat, k ≤ n ∧ i = .int .i64 ((k : Int) - 1) ∧ v = .string (rtS b (ds.drop k)) ∧ Below w.heap.size w wr) (fun _ i _ => (intOf i + 1).toNat)
  case atStart => exact ⟨n, Nat.le_refl _, rfl, by rw [List.drop_of_length_le (by have := HL.out; omega), rtS_nil], hw2⟩
  case round =>
    obtain ⟨k, hk, rfl, rfl, hbl⟩ := hrel
    clear hc0' hc1'
    rcases Nat.eq_zero_or_pos k with hk0 | hk0
    · subst hk0
      go_wp2
      go_ret
      exact ⟨ret_str (by rw [HF.out]; rfl), hbl⟩
    · obtain ⟨ad, hA, hlt, hkl, hc⟩ := hr.at_ (show k - 1 < n by omega)
      rw [← hbl.cell (by rw [block_of_add]; omega)] at hc
      have hc0' : wr.cell? p = some (.int .i64 b) := by rw [hbl.cell hpb]; exact hc0
      have hc1' : wr.cell? ⟨p.block, p.off + 1, none⟩ = some (.slice A n c) := by rw [hbl.cell (by exact hpb)]; exact hc1
      obtain ⟨hd0, hd1⟩ := hd ds[k-1] (List.getElem_mem _)
      have hll : (rtS b (ds.drop k)).size ≤ 40 := by rw [rtS_len]; have := HL.out; simp; omega
      have HS : Hid (rtS b (ds.drop (k - 1)) = rtS b (ds.drop k) ++ (⟨[dch ds[k-1]].toArray⟩ : ByteArray)) := by
        have := rtS_step b ds (k - 1) hkl; rwa [show k - 1 + 1 = k by omega] at this
      subst hA
      go_wp2
      go_quiet (fail)
      go_wp2
      go_roundw
      case rel => exact ⟨k - 1, by omega, by congr 1; omega, by rw [HS.out, piece _ hd0 (by omega)], hbl.trans (below_drewN (Below.refl _ _) _)⟩
      case measure => simp [intOf]; omega
end Go.Proofs.YtafnebpbfmbgiaaGreatDoor

namespace Go.Proofs.YtafnebpbfmbgiaaGreatDoor
open Go.RowKit Go.Sort
/-- the bytes of a string -/
def strB (s : ByteArray) : List UInt8 := s.data.toList
theorem strB_len (s : ByteArray) : (strB s).length = s.size := by simp [strB]
theorem strB_get (s : ByteArray) {k : Nat} (h : k < s.size) : s[k] = (strB s)[k]'(by rw [strB_len]; exact h) := by
  simp [strB]
  rfl
theorem strB_mk (bs : List UInt8) : strB ⟨bs.toArray⟩ = bs := by simp [strB]
theorem size_mk (bs : List UInt8) : (⟨bs.toArray⟩ : ByteArray).size = bs.length := by simp [ByteArray.size]
theorem strB_drop (s : ByteArray) (k : Nat) : strB (s.extract k s.size) = (strB s).drop k := by
  have h : (s.extract k s.size).data = s.data.extract k s.size := by simp
  unfold strB
  rw [h, Array.toList_extract, List.extract_eq_take_drop]
  rw [List.take_of_length_le]
  rw [List.length_drop, Array.length_toList]
  exact Nat.le_refl _
theorem size_zero {s : ByteArray} (h : s.size = 0) : s = ⟨#[]⟩ := by
  cases s with
  | mk a =>
    congr 1
    exact Array.eq_empty_of_size_eq_zero h
theorem str_nonempty {s : ByteArray} (h : 0 < s.size) : s.toList.isEmpty = false := by
  rw [ByteArray.toList_eq]
  cases he : s.data.toList with
  | nil =>
    have : s.data.toList.length = 0 := by rw [he]; rfl
    have h2 : s.data.toList.length = s.size := by rw [Array.length_toList]; rfl
    omega
  | cons a l => rfl
theorem strB_cons {s : ByteArray} (h : 0 < s.size) : strB s = s[0] :: (strB s).drop 1 := by
  have h1 : 0 < (strB s).length := by rw [strB_len]; exact h
  have h2 := strB_get s h
  rw [h2]
  have h3 := List.drop_eq_getElem_cons (l := strB s) (i := 0) h1
  simpa using h3
theorem strB_nil {s : ByteArray} (h : s.size = 0) : strB s = [] := by
  apply List.eq_nil_of_length_eq_zero; rw [strB_len]; exact h
theorem str_eq {s : ByteArray} {bs : List UInt8} : (⟨bs.toArray⟩ : ByteArray) = s ↔ bs = strB s := by
  constructor
  · intro h; rw [← h]; simp [strB]
  · intro h; rw [h]; cases s; simp [strB]
theorem strB_toList (s : ByteArray) : s.toList = strB s := by rw [ByteArray.toList_eq]; rfl
theorem strB_tail {s : ByteArray} : strB (s.extract 1 s.size) = (strB s).drop 1 := strB_drop s 1
theorem extract_size (s : ByteArray) (k : Nat) : (s.extract k s.size).size = s.size - k := by simp [ByteArray.size_extract]
theorem strB_extract (s : ByteArray) (i j : Nat) : strB (s.extract i j) = ((strB s).drop i).take (j - i) := by
  have h : (s.extract i j).data = s.data.extract i j := by simp
  unfold strB
  rw [h, Array.toList_extract, List.extract_eq_take_drop]
theorem strB_getD (s : ByteArray) {k : Nat} (h : k < s.size) : (strB s).getD k 0 = s[k] := by
  rw [strB_get s h]; simp [List.getD, List.getElem?_eq_getElem (show k < (strB s).length by rw [strB_len]; exact h)]
theorem wrapI {n : Int} (h : -9223372036854775808 ≤ n ∧ n ≤ 9223372036854775807) : IntKind.i64.wrap n = n := by
  rw [IntKind.wrap_i64]; omega
theorem wrapB {n : Int} (h : 0 ≤ n ∧ n < 256) : IntKind.u8.wrap n = n := by
  simp [IntKind.wrap, IntKind.bits, IntKind.signed]; omega
theorem wrap64_of {n : Int} (h : -9223372036854775808 ≤ n ∧ n ≤ 9223372036854775807) : wrap64 n = n := by unfold wrap64; omega
end Go.Proofs.YtafnebpbfmbgiaaGreatDoor
