/- Part 4: lemmas and contracts of the claim's functions. -/
import Derived.Test.YtkfbfainhmkkdaaZC1
import Derived.Test.YtkfbfainhmkkdaaZC2
import Derived.Test.YtkfbfainhmkkdaaZC3
namespace Go.Proofs.Ytkfbfainhmkkdaa
open Go.RowKit Go.Sort
theorem instrOk_bd1 {op arg : Int} (h : instrOk op arg = true) : 1 ≤ op ∧ op ≤ 10 ∧ 0 ≤ arg ∧ arg ≤ 1000000000000 := by
  rcases op_cases op with rfl | rfl | rfl | rfl | rfl | rfl | rfl | rfl | rfl | rfl | h1
  rotate_right 1
  · rw [instrOk_else h1] at h; cases h
  all_goals
    simp [instrOk, betB] at h
    omega
theorem Ev.mono {L : List Ins} {t : Task} {s s' : RS} {b : Bool} (h : Ev L t s s' b) : s.done ≤ s'.done := by
  induction h with
  | s0 => exact Nat.le_refl _
  | sFull h => simp [RS.tick]
  | sStep h he ih => simp only [] at ih; omega
  | rEnd h => exact Nat.le_refl _
  | rCode hi h => exact Nat.le_refl _
  | rSetFull hi hl hc ho h => simp [RS.tick]
  | rSetBad hi hl hc ho h hf => simp
  | rSet hi hl hc ho h hf he ih => simp only [] at ih; omega
  | rLoop hi hl hc ho hm h1 he ih1 ih2 => omega
  | rStr hi hl hc ho h1' h1 he ih1 ih2 => omega
  | lEnd h8 hk => exact Nat.le_refl _
  | lFull h8 h => simp [RS.tick]
  | lOut h8 h h1 ho ih => simp only [] at ih; omega
  | lStep h8 h h1 ho he ih1 ih2 => simp only [] at ih1; omega
theorem RunS.drop {w0 w : World} {g : Nat} {LV : Value} {s : RS} {b : Bool} {m : List Ent} {e : Ent} (h : RunS w0 g LV s b (e :: m) w) : RunS w0 g LV s b m w := by
  obtain ⟨SA, sc, A1, c1, A2, c2, A3, c3, hK⟩ := h
  exact ⟨SA, sc, A1, c1, A2, c2, A3, c3, hK.sel [0, 1, 2, 3, 4] 6 (by decide) (by decide)⟩
theorem RunI.drop {w0 w : World} {g : Nat} {LV : Value} {s : RS} {m : List Ent} {e : Ent} (h : RunI w0 g LV s (e :: m) w) : RunI w0 g LV s m w := by
  obtain ⟨SA, sc, A1, c1, A2, c2, A3, c3, hK⟩ := h
  exact ⟨SA, sc, A1, c1, A2, c2, A3, c3, hK.sel [0, 1, 2, 3, 4] 6 (by decide) (by decide)⟩
def RunSRet (L : List Ins) (w0 : World) (g : Nat) (LV : Value) (m : List Ent) (tk : Task) (s : RS) (b : Bool) (e : Ending) (w' : World) : Prop := ∃ s' b', e = .returned (.tuple #[]) ∧ Ev L tk s s' b' ∧ RunS w0 g LV s' (b || b') m w' ∧ s'.Good
def LoopSRet (L : List Ins) (w0 : World) (g : Nat) (LV : Value) (m : List Ent) (tk : Task) (s : RS) (e : Ending) (w' : World) : Prop := ∃ s' b', e = .returned (.tuple #[]) ∧ Ev L tk s s' false ∧ RunS w0 g LV s' b' m w' ∧ s'.Good
def RunSOK (L : List Ins) (LA : Option Addr) (n lc : Nat) (w0 : World) (N : Nat) : Prop := ∀ (g : Nat) (m : List Ent) (s : RS) (b : Bool) (i tt : Nat) (w : World), 3001 - s.done ≤ N → s.code = 0 → s.Good → Seg L i tt → RunS w0 g (.slice LA n lc) s b m w →
  Calls Try.prog 137 #[.pointer (some ⟨g, 0, none⟩), .int .i64 i, .int .i64 tt] w (RunSRet L w0 g (.slice LA n lc) m (.run i tt) s b)
def LoopSOK (L : List Ins) (LA : Option Addr) (n lc : Nat) (w0 : World) (N : Nat) : Prop := ∀ (g : Nat) (m : List Ent) (s : RS) (b : Bool) (i e : Nat) (w : World) (hi : i < L.length), 3001 - s.done ≤ N → s.code = 0 → s.Good → opens L[i].op = true → instrOk L[i].op L[i].arg = true → Seg L (i + 1) e → RunS w0 g (.slice LA n lc) s b m w →
  Calls Try.prog 160 #[.pointer (some ⟨g, 0, none⟩), .int .i64 i, .int .i64 e] w (LoopSRet L w0 g (.slice LA n lc) m (.loop L[i].op L[i].arg (i + 1) e 0) s)
/-- what holds at the head of a round of a loop -/
def AtRound (L : List Ins) (x : Ins) (i e : Nat) (s : RS) (k : Nat) (s1 : RS) : Prop :=
  (s1.code = 0 ∧ (x.op = 8 → (k : Int) ≤ x.arg) ∧ ∀ s' b', Ev L (.loop x.op x.arg i e k) s1 s' b' → Ev L (.loop x.op x.arg i e 0) s s' false) ∨ (¬ s1.code = 0 ∧ Ev L (.loop x.op x.arg i e 0) s s1 false)
theorem AtRound.next {L : List Ins} {x : Ins} {i e : Nat} {s s1 s3 : RS} {k : Nat} {b3 : Bool} (HE : ∀ s' b', Ev L (.loop x.op x.arg i e k) s1 s' b' → Ev L (.loop x.op x.arg i e 0) s s' false) (hne : ¬ (x.op = 8 ∧ x.arg ≤ (k : Int))) (hd : ¬ s1.done = 3000)
    (he : Ev L (.run i e) ⟨s1.m, s1.tr, s1.done + 1, 0⟩ s3 b3) (h9 : ¬ (x.op = 9 ∧ b3 = true)) (h8 : x.op = 8 → (k : Int) + 1 ≤ x.arg) : AtRound L x i e s (k + 1) s3 := by
  by_cases hc : s3.code = 0
  · exact .inl ⟨hc, fun h => by have := h8 h; omega, fun s' b' h => HE s' false (Ev.lStep hne hd he ⟨hc, h9⟩ h)⟩
  · exact .inr ⟨hc, HE s3 false (Ev.lOut hne hd he (.inl hc))⟩
set_option maxRecDepth 100000 in
set_option maxHeartbeats 3200000 in
theorem loopS_of {L : List Ins} {LA : Option Addr} {n lc : Nat} {w0 : World} {N : Nat} (hr : RL InsM 2 w0 LA n L) (hL : L.length ≤ 120) (ih : ∀ N', N' < N → RunSOK L LA n lc w0 N') : LoopSOK L LA n lc w0 N := by
  intro g m s b i e w hi hN hc hg hop hok hseg hM
  have HLn := Lib.hid hr.1
  obtain ⟨x, hx⟩ : ∃ x, L[i] = x := ⟨_, rfl⟩
  obtain ⟨SA, sc, A1, c1, A2, c2, A3, c3, hK⟩ := hM
  have hin : i < n := by rw [← hr.1]; exact hi
  have hn9 : n ≤ 120 := by rw [← hr.1]; exact hL
  obtain ⟨ad, hA, hlt2, hkl, hx'⟩ := (hr.below steady_InsM hK.below).at_ hin
  obtain ⟨x1, x2⟩ := hx'
  rw [hx] at x1 x2 hop hok ⊢
  subst hA
  obtain ⟨a1, a2, a3⟩ := hK.blkAt
  have hi0 : (0 : Int) ≤ (i : Int) := by omega
  have hi1 : (i : Int) < (n : Int) := by omega
  have HIH := Lib.hid ih
  have HSEG := Lib.hid hseg
  have hx9 : x.op = 8 ∨ x.op = 9 := by simpa [opens] using hop
  have hax : 0 ≤ x.arg ∧ x.arg ≤ 1000000000000 := by have := instrOk_bd1 hok; omega
  have ha1 : x.op = 8 → x.arg ≤ 100 := fun h => by rw [h] at hok; simp [instrOk, betB] at hok; omega
  have HC0 := Lib.hid hc
  have HG0 := Lib.hid hg
  have HX := Lib.hid hx
  have HN0 := Lib.hid hN
  have hle : e ≤ 120 := by have := hseg.len; omega
  clear hr hx ih hseg hc hg hop hok hN
  go_enter Try.func160, Try.ntmps160
  go_wp2_with fail
  have hK1 := hK.al [.int .i64 x.op, .int .i64 x.arg] 46
  generalize w.alloc (.cells #[.int .i64 x.op, .int .i64 x.arg] 46) = w1 at hK1 ⊢
  have hK2 : Kn w0 _ w1 := hK1.sel [1, 2, 3, 4, 5, 0] 6 (by decide) (by decide)
  obtain ⟨g6, hg6⟩ : ∃ g6, w.heap.size = g6 := ⟨_, rfl⟩
  have hM2 : RunS w0 g (.slice (some ad) n lc) s b (.blk g6 [.int .i64 x.op, .int .i64 x.arg] 46 :: m) w1 := ⟨SA, sc, A1, c1, A2, c2, A3, c3, by rw [← hg6]; exact hK2⟩
  rw [hg6]
  clear hK1 hK2 hK a1 a2 a3 hg6 x1 x2
  go_loopw [7] (fun kk wr => ∃ (k : Nat) (s1 : RS) (b1 : Bool), kk = .int .i64 k ∧ k ≤ s1.done ∧ RunS w0 g (.slice (some ad) n lc) s1 b1 (.blk g6 [.int .i64 x.op, .int .i64 x.arg] 46 :: m) wr ∧ s1.Good ∧ s.done ≤ s1.done ∧ AtRound L x (i + 1) e s k s1) (fun kk _ => 4000 - (intOf kk).toNat)
  case atStart => exact ⟨0, s, b, rfl, Nat.zero_le _, hM2, HG0.out, Nat.le_refl _, .inl ⟨HC0.out, fun _ => hax.1, fun s' b' h => by cases h with
    | lEnd a1 a2 => exact .lEnd a1 a2
    | lFull a1 a2 => exact .lFull a1 a2
    | lOut a1 a2 a3 a4 => exact .lOut a1 a2 a3 a4
    | lStep a1 a2 a3 a4 a5 => exact .lStep a1 a2 a3 a4 a5⟩⟩
  case round =>
    clear hM2
    obtain ⟨k, s1, b1, rfl, hkd, hM, hg1, hmono, hat⟩ := hrel
    have HM := Lib.hid hM
    have HG := Lib.hid hg1
    obtain ⟨SA, sc, A1, c1, A2, c2, A3, c3, hK⟩ := hM
    obtain ⟨a1, a2, a3⟩ := hK.blkAt
    obtain ⟨x1, x2, x3⟩ := hK.drop.drop.drop.drop.drop.blkAt
    have htop := hg1.top
    rcases hat with ⟨hc1, hka, hev⟩ | ⟨hc1, hev⟩
    · have HC := Lib.hid hc1
      have HE := Lib.hid hev
      have h2 : (s1.code == 0) = true := by simp [hc1]
      have hdn := hg1.done hc1
      have KR := Lib.hid (fun (m' : List Ent) (b' : Bool) W (hd : ¬ s1.done = 3000) (h : RunS w0 g (.slice (some ad) n lc) ⟨s1.m, s1.tr, s1.done + 1, 0⟩ b' m' W) => HIH.out (3001 - (s1.done + 1)) (by have := HN0.out; omega) g m' ⟨s1.m, s1.tr, s1.done + 1, 0⟩ b' (i + 1) e W (Nat.le_refl _) rfl (HG.out.more HC.out hd _ HG.out.m 0) HSEG.out h)
      clear hc1 hev hg1 hK
      rcases hx9 with h8 | h9
      · have o8 : (x.op == 8) = true := by simp [h8]
        have o9 : (x.op == 9) = false := by simp [h8]
        have HX8 := Lib.hid h8
        have hka' := hka h8
        have ha1' := ha1 h8
        clear h8 hka ha1
        rcases hk : ((k : Int) == x.arg) with _ | _
        · have HNE := Lib.hid (show ¬ (x.op = 8 ∧ x.arg ≤ (k : Int)) by rintro ⟨-, h⟩; simp at hk; omega)
          have hk2 : (k : Int) + 1 ≤ x.arg := by simp at hk; omega
          by_cases hd : s1.done = 3000
          · have HD := Lib.hid hd
            clear hd
            go_wp2_with (go_at_call 171; refine (tick_full s1 _ HM.out HC.out HD.out).mono ?_; rintro e w2 ⟨rfl, hM2⟩)
            go_end0
            exact ⟨s1.tick, b1, rfl, HE.out s1.tick false (Ev.lFull HNE.out HD.out), by rw [RS.tick_full HD.out]; exact hM2.drop, HG.out.tick HC.out⟩
          · have HD := Lib.hid hd
            clear hd
            go_wp2_with (go_at_call 171; refine (tick_ok s1 _ HM.out HC.out HD.out hdn).mono ?_; rintro e w2 ⟨rfl, hM2⟩; obtain ⟨SA', sc', A1', c1', A2', c2', A3', c3', hK2⟩ := hM2; clear a1 a2 a3 x1 x2 x3; obtain ⟨a1, a2, a3⟩ := hK2.blkAt; obtain ⟨x1, x2, x3⟩ := hK2.drop.drop.drop.drop.drop.blkAt)
            refine (KR.out _ false _ HD.out ⟨SA', sc', A1', c1', A2', c2', A3', c3', hK2.st 10 (.bool false)⟩).mono ?_; rintro e w3 ⟨s3, b3, rfl, he3, hM3, hg3⟩
            rw [Bool.false_or] at hM3
            have HM3 := Lib.hid hM3
            have HE3 := Lib.hid he3
            have HG3 := Lib.hid hg3
            have hmo3 := he3.mono
            simp only [] at hmo3
            obtain ⟨SA3, sc3, A13, c13, A23, c23, A33, c33, hK3⟩ := hM3
            clear a1 a2 a3 x1 x2 x3 hK2
            obtain ⟨a1, a2, a3⟩ := hK3.blkAt
            obtain ⟨x1, x2, x3⟩ := hK3.drop.drop.drop.drop.drop.blkAt
            clear hK3 he3 hg3
            go_wp2_with fail
            go_roundw
            case rel => exact ⟨k + 1, s3, _, by go_num, by omega, HM3.out, HG3.out, by omega, AtRound.next HE.out HNE.out HD.out HE3.out (by first | (rintro ⟨h, -⟩; have := HX8.out; omega) | (rintro ⟨-, h⟩; cases h)) (fun h => by first | (have := HX9.out; omega) | omega)⟩
            case measure => simp [intOf]; omega
        · have HEQ := Lib.hid (show x.arg ≤ (k : Int) by simp at hk; omega)
          go_wp2_with fail
          go_end0
          exact ⟨s1, b1, rfl, HE.out s1 false (Ev.lEnd HX8.out HEQ.out), HM.out.drop, HG.out⟩
      · have o8 : (x.op == 8) = false := by simp [h9]
        have o9 : (x.op == 9) = true := by simp [h9]
        have HX9 := Lib.hid h9
        have HNE := Lib.hid (show ¬ (x.op = 8 ∧ x.arg ≤ (k : Int)) by omega)
        clear h9 hka ha1
        by_cases hd : s1.done = 3000
        · have HD := Lib.hid hd
          clear hd
          go_wp2_with (go_at_call 171; refine (tick_full s1 _ HM.out HC.out HD.out).mono ?_; rintro e w2 ⟨rfl, hM2⟩)
          go_end0
          exact ⟨s1.tick, b1, rfl, HE.out s1.tick false (Ev.lFull HNE.out HD.out), by rw [RS.tick_full HD.out]; exact hM2.drop, HG.out.tick HC.out⟩
        · have HD := Lib.hid hd
          clear hd
          go_wp2_with (go_at_call 171; refine (tick_ok s1 _ HM.out HC.out HD.out hdn).mono ?_; rintro e w2 ⟨rfl, hM2⟩; obtain ⟨SA', sc', A1', c1', A2', c2', A3', c3', hK2⟩ := hM2; clear a1 a2 a3 x1 x2 x3; obtain ⟨a1, a2, a3⟩ := hK2.blkAt; obtain ⟨x1, x2, x3⟩ := hK2.drop.drop.drop.drop.drop.blkAt)
          refine (KR.out _ false _ HD.out ⟨SA', sc', A1', c1', A2', c2', A3', c3', hK2.st 10 (.bool false)⟩).mono ?_; rintro e w3 ⟨s3, b3, rfl, he3, hM3, hg3⟩
          rw [Bool.false_or] at hM3
          have HM3 := Lib.hid hM3
          have HE3 := Lib.hid he3
          have HG3 := Lib.hid hg3
          have hmo3 := he3.mono
          simp only [] at hmo3
          obtain ⟨SA3, sc3, A13, c13, A23, c23, A33, c33, hK3⟩ := hM3
          clear a1 a2 a3 x1 x2 x3 hK2
          obtain ⟨a1, a2, a3⟩ := hK3.blkAt
          obtain ⟨x1, x2, x3⟩ := hK3.drop.drop.drop.drop.drop.blkAt
          clear hK3 he3 hg3
          cases b3
          · go_wp2_with fail
            go_roundw
            case rel => exact ⟨k + 1, s3, _, by go_num, by omega, HM3.out, HG3.out, by omega, AtRound.next HE.out HNE.out HD.out HE3.out (by first | (rintro ⟨h, -⟩; have := HX8.out; omega) | (rintro ⟨-, h⟩; cases h)) (fun h => by first | (have := HX9.out; omega) | omega)⟩
            case measure => simp [intOf]; omega
          · go_wp2_with fail
            go_end0
            exact ⟨s3, true, rfl, HE.out s3 false (Ev.lOut HNE.out HD.out HE3.out (.inr ⟨HX9.out, rfl⟩)), HM3.out.drop, HG3.out⟩
    · have HC := Lib.hid hc1
      have HE := Lib.hid hev
      have h2 : (s1.code == 0) = false := by simp [hc1]
      clear hc1 hev hg1 hK
      go_wp2_with fail
      go_end0
      exact ⟨s1, b1, rfl, HE.out, HM.out.drop, HG.out⟩
end Go.Proofs.Ytkfbfainhmkkdaa

namespace Go.Proofs.Ytkfbfainhmkkdaa
open Go.RowKit Go.Sort
theorem l00Max_any (a b : Int) (w : World) : Calls Try.prog 81 #[.int .i64 a, .int .i64 b] w fun e w' => e = .returned (.int .i64 (max a b)) ∧ w = w' := by
  by_cases h : b < a
  · go_enter Try.func81, Try.ntmps81
    go_wp2
    go_ret
    exact ⟨ret_int (by omega), rfl⟩
  · go_enter Try.func81, Try.ntmps81
    go_wp2
    go_ret
    exact ⟨ret_int (by omega), rfl⟩
theorem Ev.stop {L : List Ins} {j tt : Nat} {s s' : RS} {b : Bool} (h : Ev L (.run j tt) s s' b) (hc : ¬ s.code = 0) : s' = s ∧ b = false := by
  cases h <;> first | exact ⟨rfl, rfl⟩ | contradiction
set_option maxRecDepth 100000 in
set_option maxHeartbeats 3200000 in
theorem runS_of {L : List Ins} {LA : Option Addr} {n lc : Nat} {w0 : World} {N : Nat} (hv : vprog L = true) (hr : RL InsM 2 w0 LA n L) (ihL : LoopSOK L LA n lc w0 N) : RunSOK L LA n lc w0 N := by
  intro g m s b i tt w hN hc hg hseg hM
  have hL := vprog_len hv
  have hn9 : n ≤ 120 := by rw [← hr.1]; exact hL
  have htt : tt ≤ n := by have := hseg.len; have := hr.1; omega
  have HIH := Lib.hid ihL
  have HR := Lib.hid hr
  have HV := Lib.hid hv
  have HN0 := Lib.hid hN
  clear hr ihL hv hN
  go_enter Try.func137, Try.ntmps137
  go_wp2_with fail
  go_loopw [6] (fun ii wr => ∃ (j : Nat) (s1 : RS) (b1 : Bool), ii = .int .i64 j ∧ RunS w0 g (.slice LA n lc) s1 (b || b1) m wr ∧ s1.Good ∧ s.done ≤ s1.done ∧ Seg L j tt ∧ ∀ s' b', Ev L (.run j tt) s1 s' b' → Ev L (.run i tt) s s' (b1 || b')) (fun ii _ => tt - (intOf ii).toNat)
  case atStart => exact ⟨i, s, false, rfl, by simpa using hM, hg, Nat.le_refl _, hseg, fun s' b' h => by simpa using h⟩
  case round =>
    clear hM hc hg hseg
    obtain ⟨j, s1, b1, rfl, hM, hg1, hmono, hseg, hev⟩ := hrel
    have HM := Lib.hid hM
    have HG := Lib.hid hg1
    have HSEG := Lib.hid hseg
    have HE := Lib.hid hev
    obtain ⟨SA, sc, A1, c1, A2, c2, A3, c3, hK⟩ := hM
    obtain ⟨a1, a2, a3⟩ := hK.blkAt
    clear hg1 hev
    by_cases hjt : j < tt
    · have hi1 : (j : Int) < (tt : Int) := by omega
      by_cases hc1 : s1.code = 0
      · have HC := Lib.hid hc1
        have h2 : (s1.code == 0) = true := by simp [hc1]
        have hlt := hseg.lt hjt
        have hjn : j < n := by omega
        obtain ⟨ad, hA, hlt2, hkl, hx'⟩ := (HR.out.below steady_InsM hK.below).at_ hjn
        obtain ⟨x1, x2⟩ := hx'
        obtain ⟨x, hx⟩ : ∃ x, L[j] = x := ⟨_, rfl⟩
        rw [hx] at x1 x2
        subst hA
        have hok := (dep_step HV.out hlt).1
        rw [hx] at hok
        have hbd := instrOk_bd1 hok
        have h10 := hseg.noEnd HV.out hjt
        rw [hx] at h10
        have hj0 : (0 : Int) ≤ (j : Int) := by omega
        have hj1 : (j : Int) < (n : Int) := by omega
        have HX := Lib.hid hx
        have HLT := Lib.hid hlt
        have HOK := Lib.hid hok
        have H10 := Lib.hid h10
        clear hc1 hseg hlt hx hok h10
        rcases hop : opens x.op with _ | _
        · have KO := Lib.hid (fun W => calls_val (l11Opens_any x.op W) (congrArg Value.bool hop))
          have HNX := Lib.hid (HSEG.out.next HV.out hjt (by rw [HX.out]; exact hop))
          have HOP := Lib.hid hop
          clear hop
          rcases h1 : (x.op == 1) with _ | _
          · have hne1 : ¬ x.op = 1 := by simpa using h1
            have hkd : 1 ≤ x.op - 1 ∧ x.op - 1 ≤ 6 := by
              have h3 := HOP.out
              have h4 := H10.out
              simp [opens] at h3; omega
            obtain ⟨T, hT⟩ : ∃ T : Nat, max 1 x.arg = (T : Int) := ⟨(max 1 x.arg).toNat, by omega⟩
            have hT2 : (max 1 x.arg).toNat = T := by omega
            have hT3 : T ≤ 1000000 := by
              have h3 := HOK.out
              have h4 := HOP.out
              simp [opens] at h4
              simp only [instrOk] at h3
              split at h3
              · omega
              · split at h3
                · have := betB_iff.1 h3; omega
                · split at h3
                  · simp at h3; omega
                  · cases h3
            have KM := Lib.hid (fun W => calls_val (l00Max_any 1 x.arg W) (congrArg (Value.int .i64) hT))
            have KS := Lib.hid (fun (m' : List Ent) W (h : RunS w0 g (.slice (some ad) n lc) s1 (b || b1) m' W) => strokesS_any (L := L) s1 (x.op - 1) T W h HG.out HC.out hkd hT3)
            have HT2 := Lib.hid hT2
            have HN1 := Lib.hid hne1
            have hwr : IntKind.i64.wrap (x.op - 1) = x.op - 1 := wrapI64 (by omega)
            clear hT hT2 hkd hne1
            go_wp2_with (go_at_call 80; refine Calls.kn (hK.al [.int .i64 x.op, .int .i64 x.arg] 46) ?_; intro w1 hK1; clear a1 a2 a3 x1 x2; obtain ⟨x1, x2, x3, a1, a2, a3, -⟩ := hK1.cells; refine (KO.out _).mono ?_; rintro e w2 ⟨rfl, rfl⟩)
            have hK2 := hK1.drew.sel [1, 2, 3, 4, 5, 0] 6 (by decide) (by decide)
            have HG2 := Lib.hid (box2 hK1.drew)
            go_region_held3 (fun W => W.cell? ⟨wr.heap.size, 0, none⟩ = some (.int .i64 x.op) ∧ W.cell? ⟨wr.heap.size, 1, none⟩ = some (.int .i64 x.arg))
              (first | with_reducible exact HG2.out | exact HG2.out) (first
              | (go_at_call 81; (with_reducible refine (KM.out _).mono ?_); rintro e w3 ⟨rfl, rfl⟩)
              | (go_at_call 162; refine (KS.out (.blk wr.heap.size [.int .i64 x.op, .int .i64 x.arg] 46 :: m) _ ⟨SA, sc, A1, c1, A2, c2, A3, c3, hK2⟩).mono ?_; rintro e w3 ⟨s3, b3, rfl, he3, hM3, hg3⟩; have HM3 := Lib.hid hM3; obtain ⟨SA3, sc3, A13, c13, A23, c23, A33, c33, hK3⟩ := hM3; clear HG2; have HG2 := Lib.hid (box2 hK3.drop.drop.drop.drop.drop)))
            all_goals
              clear a1 a2 a3 x1 x2 x3 hK3
              have HE3 := Lib.hid he3
              have HG3 := Lib.hid hg3
              clear he3 hg3
              go_wp2_with fail
              go_roundw
              case rel => exact ⟨j + 1, s3, b1 || b3, by go_num, by rw [← Bool.or_assoc]; exact HM3.out.drop, HG3.out, by have := HE3.out.mono; omega, HNX.out, fun s' b' h => by
                rw [Bool.or_assoc]
                exact HE.out s' (b3 || b') (Ev.rStr hjt HLT.out HC.out (by rw [HX.out]; exact HOP.out) (by rw [HX.out]; exact HN1.out) (by rw [HX.out, HT2.out]; exact HE3.out) h)⟩
              case measure => simp [intOf]; omega
          · have ho1 : x.op = 1 := by simpa using h1
            have KS := Lib.hid (fun (m' : List Ent) W (h : RunS w0 g (.slice (some ad) n lc) s1 (b || b1) m' W) => setS_any s1 x.arg W h HG.out HC.out hbd.2.2.1 hbd.2.2.2)
            have hst : ∀ s3 : RS, ¬ s3.code = 0 → (Ev L (.run j tt) s1 s3 false) → ∀ s' b', Ev L (.run (j + 1) tt) s3 s' b' → Ev L (.run i tt) s s' (b1 || b') := fun s3 h3 h4 s' b' h5 => by
              obtain ⟨rfl, rfl⟩ := h5.stop h3
              exact HE.out _ _ h4
            have HST := Lib.hid hst
            have HO1 := Lib.hid ho1
            have hng : setFits s1.m x.arg = true → vmach (setT s1.m x.arg) = true := fun h => by
              obtain ⟨k1, -⟩ := vmach_all HG.out.m
              obtain ⟨⟨b1', b2'⟩, -⟩ := vreg_iff.1 k1
              have h6 : setFits s1.m x.arg = _ := restD_zero s1.m.a.base b1' s1.m.a.digits.length x.arg hbd.2.2.1
              rw [h6, decide_eq_true_iff] at h
              exact setT_ok x.arg HG.out.m hbd.2.2.1 h
            have HNG := Lib.hid hng
            clear ho1 hst hng
            go_wp2_with (first
              | (go_at_call 80; refine Calls.kn (hK.al [.int .i64 x.op, .int .i64 x.arg] 46) ?_; intro w1 hK1; clear a1 a2 a3 x1 x2; obtain ⟨x1, x2, x3, a1, a2, a3, -⟩ := hK1.cells; refine (KO.out _).mono ?_; rintro e w2 ⟨rfl, rfl⟩)
              | (go_at_call 161; refine (KS.out (.blk wr.heap.size [.int .i64 x.op, .int .i64 x.arg] 46 :: m) _ ⟨SA, sc, A1, c1, A2, c2, A3, c3, hK1.sel [1, 2, 3, 4, 5, 0] 6 (by decide) (by decide)⟩).mono ?_; rintro e w3 ⟨rfl, hres⟩; have HRES := Lib.hid hres; clear hres))
            clear a1 a2 a3 x1 x2 x3 hK1
            rcases HRES.out with ⟨hd, hM3⟩ | ⟨hd, hf, hM3⟩ | ⟨hd, hf, hM3⟩
            · have HD := Lib.hid hd
              have HM3 := Lib.hid hM3
              clear hd hM3 HRES
              go_roundw
              case rel => exact ⟨j + 1, s1.tick, b1, by go_num, HM3.out.drop, HG.out.tick HC.out, by simp only [RS.tick]; omega, HNX.out, HST.out _ (by rw [RS.tick_full HD.out]; simp) (Ev.rSetFull hjt HLT.out HC.out (by rw [HX.out]; exact HO1.out) HD.out)⟩
              case measure => simp [intOf]; omega
            · have HD := Lib.hid hd
              have HF := Lib.hid hf
              have HM3 := Lib.hid hM3
              clear hd hM3 HRES hf
              go_roundw
              case rel => exact ⟨j + 1, ⟨s1.m, s1.tr, s1.done + 1, 10⟩, b1, by go_num, HM3.out.drop, HG.out.more HC.out HD.out _ HG.out.m 10, by simp only []; omega, HNX.out, HST.out _ (by simp) (by
                have := Ev.rSetBad hjt HLT.out HC.out (by rw [HX.out]; exact HO1.out) HD.out (by rw [HX.out]; exact HF.out)
                exact this)⟩
              case measure => simp [intOf]; omega
            · have HD := Lib.hid hd
              have HF := Lib.hid hf
              have HM3 := Lib.hid hM3
              clear hd hM3 HRES hf
              go_roundw
              case rel => exact ⟨j + 1, ⟨setT s1.m x.arg, s1.tr, s1.done + 1, 0⟩, b1, by go_num, HM3.out.drop, HG.out.more HC.out HD.out _ (HNG.out HF.out) 0, by simp only []; omega, HNX.out, fun s' b' h => HE.out s' b' (Ev.rSet hjt HLT.out HC.out (by rw [HX.out]; exact HO1.out) HD.out (by rw [HX.out]; exact HF.out) (by rw [HX.out]; exact h))⟩
              case measure => simp [intOf]; omega
        · have KO := Lib.hid (fun W => calls_val (l11Opens_any x.op W) (congrArg Value.bool hop))
          have HOP := Lib.hid hop
          have KM := Lib.hid (fun W (h : RL InsM 2 W (some ad) n L) => l11Match_any (some ad) n lc L j W h HV.out HLT.out (by rw [HX.out]; exact HOP.out))
          have KL := (fun (m' : List Ent) W e h (hseg' : Seg L (j + 1) e) => HIH.out g m' s1 (b || b1) j e W HLT.out (by have := HN0.out; omega) HC.out HG.out (by rw [HX.out]; exact HOP.out) (by rw [HX.out]; exact HOK.out) hseg' h)
          rw [HX.out] at KL
          have KL := Lib.hid KL
          clear hop
          go_wp2_with (first
            | (go_at_call 80; refine Calls.kn (hK.al [.int .i64 x.op, .int .i64 x.arg] 46) ?_; intro w1 hK1; clear a1 a2 a3 x1 x2; obtain ⟨x1, x2, x3, a1, a2, a3, -⟩ := hK1.cells; refine (KO.out _).mono ?_; rintro e w2 ⟨rfl, rfl⟩)
            | (go_at_call 86; refine (KM.out _ (HR.out.below steady_InsM hK1.below)).mono ?_; rintro e w2 ⟨f, rfl, hmt, rfl⟩; have hsl := HSEG.out.loop HV.out hjt (by rw [HX.out]; exact HOP.out) hmt; have HMT := Lib.hid hmt; have HSL := Lib.hid hsl; have hfb : f < tt ∧ j < f := ⟨hsl.2.1, hsl.1⟩; clear hmt hsl)
            | (go_at_call 160; refine (KL.out (.blk wr.heap.size [.int .i64 x.op, .int .i64 x.arg] 46 :: m) _ f ⟨SA, sc, A1, c1, A2, c2, A3, c3, hK1.sel [1, 2, 3, 4, 5, 0] 6 (by decide) (by decide)⟩ HSL.out.2.2.1).mono ?_; rintro e w3 ⟨s3, b3, rfl, he3, hM3, hg3⟩; have HE3 := Lib.hid he3; have HG3 := Lib.hid hg3; obtain ⟨SA3, sc3, A13, c13, A23, c23, A33, c33, hK3⟩ := hM3; clear a1 a2 a3 x1 x2 x3 he3 hg3; obtain ⟨a1, a2, a3⟩ := hK3.blkAt; obtain ⟨x1, x2, x3⟩ := hK3.drop.drop.drop.drop.drop.blkAt))
          go_roundw
          case rel => exact ⟨f + 1, s3, b1, by go_num, RunS.drop ⟨SA3, sc3, A13, c13, A23, c23, A33, c33, hK3.st 10 (.bool (b || b1))⟩, HG3.out, by have := HE3.out.mono; omega, HSL.out.2.2.2, fun s' b' h => HE.out s' b' (Ev.rLoop hjt HLT.out HC.out (by rw [HX.out]; exact HOP.out) HMT.out (by rw [HX.out]; exact HE3.out) h)⟩
          case measure => simp [intOf]; omega
      · have h2 : (s1.code == 0) = false := by simp [hc1]
        have HE1 := Lib.hid (show Ev L (.run i tt) s s1 b1 by have := HE.out s1 false (Ev.rCode hjt hc1); simpa using this)
        clear hc1
        go_wp2_with fail
        go_end0
        exact ⟨s1, b1, rfl, HE1.out, HM.out, HG.out⟩
    · have hi1 : ¬ (j : Int) < (tt : Int) := by omega
      have HE1 := Lib.hid (show Ev L (.run i tt) s s1 b1 by have := HE.out s1 false (Ev.rEnd (by omega)); simpa using this)
      go_wp2_with fail
      go_end0
      exact ⟨s1, b1, rfl, HE1.out, HM.out, HG.out⟩
theorem runS_all {L : List Ins} {LA : Option Addr} {n lc : Nat} {w0 : World} (hv : vprog L = true) (hr : RL InsM 2 w0 LA n L) : ∀ N, RunSOK L LA n lc w0 N := by
  intro N
  induction N using Nat.strongRecOn with
  | ind N ih => exact runS_of hv hr (loopS_of hr (vprog_len hv) ih)
end Go.Proofs.Ytkfbfainhmkkdaa

namespace Go.Proofs.Ytkfbfainhmkkdaa
open Go.RowKit Go.Sort
def StrI (L : List Ins) (w0 : World) (g : Nat) (LV : Value) (m : List Ent) (kind : Int) (N : Nat) (s : RS) (e : Ending) (w' : World) : Prop := ∃ s' b', e = .returned (.bool b') ∧ Ev L (.str kind N) s s' b' ∧ RunI w0 g LV s' m w' ∧ s'.Good
set_option maxRecDepth 100000 in
set_option maxHeartbeats 1600000 in
theorem strokesI_any {L : List Ins} {w0 : World} {g : Nat} {LV : Value} {m : List Ent} (s : RS) (kind : Int) (N : Nat) (w : World) (hM : RunI w0 g LV s m w) (hg : s.Good) (hc : s.code = 0) (hk : 1 ≤ kind ∧ kind ≤ 6) (hN : N ≤ 1000000) :
    Calls Try.prog 157 #[.pointer (some ⟨g, 0, none⟩), .int .i64 kind, .int .i64 N] w (StrI L w0 g LV m kind N s) := by
  go_enter Try.func157, Try.ntmps157
  go_wp2_with fail
  go_loopw [7, 11] (fun bb kk wr => ∃ (j : Nat) (s1 : RS) (b1 : Bool), j ≤ N ∧ kk = .int .i64 j ∧ bb = .bool b1 ∧ RunI w0 g LV s1 m wr ∧ s1.Good ∧ s1.code = 0 ∧ ∀ s' b', Ev L (.str kind (N - j)) s1 s' b' → Ev L (.str kind N) s s' (b1 || b')) (fun _ kk _ => N - (intOf kk).toNat)
  case atStart => exact ⟨0, s, false, Nat.zero_le _, rfl, rfl, hM, hg, hc, fun s' b' h => by simpa using h⟩
  case round =>
    clear hM
    obtain ⟨j, s1, b1, hj, rfl, rfl, hM, hg1, hc1, hev⟩ := hrel
    have HM := Lib.hid hM
    have HG := Lib.hid hg1
    have HC := Lib.hid hc1
    have HE := Lib.hid hev
    have hdn := hg1.done hc1
    have htl := hg1.tr
    clear hg1 hc1 hev hg hc hM
    by_cases hjn : j < N
    · have hi1 : (j : Int) < (N : Int) := by omega
      by_cases hd : s1.done = 3000
      · have HD := Lib.hid hd
        clear hd
        go_wp2_with (go_at_call 154; refine (counted_full s1 _ HM.out HC.out HD.out).mono ?_; rintro e w2 ⟨rfl, hM2⟩)
        go_ret
        have hev := Ev.sFull (L := L) (kind := kind) (n := N - j - 1) HD.out
        rw [show N - j - 1 + 1 = N - j by omega] at hev
        exact ⟨_, b1, rfl, by have := HE.out _ _ hev; simpa using this, by rw [RS.tick_full HD.out]; exact hM2, HG.out.tick HC.out⟩
      · have HD := Lib.hid hd
        clear hd
        obtain ⟨tr', htr⟩ : ∃ tr', s1.tr ++ [kind] = tr' := ⟨_, rfl⟩
        have HTR := Lib.hid htr
        obtain ⟨r, hr⟩ : ∃ r, strokeT kind s1.m = r := ⟨_, rfl⟩
        have KT := Lib.hid (fun (A1 A2 A3 : Option Addr) (c1 c2 c3 : Nat) (m' : List Ent) W {cs T} (h : Kn w0 (.blk g cs T :: rowI A3 c3 s1.m.s.digits :: rowI A2 c2 s1.m.b.digits :: rowI A1 c1 s1.m.a.digits :: m') W) => stroke_any s1.m A1 A2 A3 c1 c2 c3 kind W h.drop.drop.drop.riv h.drop.drop.riv h.drop.riv HG.out.m hk)
        have HR := Lib.hid hr
        have HGN := Lib.hid (show (RS.mk r.1 tr' (s1.done + 1) 0).Good by rw [← hr, ← htr]; exact HG.out.stroke HC.out HD.out kind)
        have HEV := Lib.hid (fun s' b' (h : Ev L (.str kind (N - (j + 1))) ⟨r.1, tr', s1.done + 1, 0⟩ s' b') => HE.out s' (r.2 || b') (by rw [show N - j = (N - (j + 1)) + 1 by omega, ← hr]; exact Ev.sStep HD.out (by rw [hr, htr]; exact h)))
        clear htr hr
        cases b1
        · go_wp2_with (first
            | (go_at_call 154; refine (counted_ok s1 _ HM.out HC.out HD.out hdn).mono ?_; rintro e w2 ⟨rfl, hM2⟩; obtain ⟨SA', sc', A1', c1', A2', c2', A3', c3', hK2⟩ := hM2; obtain ⟨a1, a2, a3⟩ := hK2.blkAt)
            | (go_at_call 169; refine (KT.out _ _ _ _ _ _ _ _ hK2).mono ?_; rw [HR.out]; rintro e w3 ⟨B1, d1, B2, d2, B3, d3, rfl, hK3⟩; have hK4 := hK2.join hK3; have hK6a := ((((((((hK4.sw3.st 0 (.int .i64 r.1.a.base)).st 1 (.slice B1 r.1.a.digits.length d1)).st 2 (.int .i64 r.1.b.base)).st 3 (.slice B2 r.1.b.digits.length d2)).st 4 (.int .i64 r.1.s.base)).st 5 (.slice B3 r.1.s.digits.length d3)).st 6 (.int .i64 r.1.carry)).al [.int .i64 r.1.a.base, .slice B1 r.1.a.digits.length d1, .int .i64 r.1.b.base, .slice B2 r.1.b.digits.length d2, .int .i64 r.1.s.base, .slice B3 r.1.s.digits.length d3, .int .i64 r.1.carry] 28); have hK6b := (hK6a.al [.int .i64 kind] 2).sel [0, 9, 2, 3, 4, 5] 10 (by decide) (by decide); simp only [World.size_alloc, World.size_setCell] at hK6b; clear a1 a2 a3; obtain ⟨a1, a2, a3⟩ := hK4.drop.drop.drop.blkAt)
            | (at_builtin; refine kn_pushI (m := .blk g _ _ :: _) rfl _ _ rfl _ s1.tr rfl rfl hK6b (by omega) ?_; intro v3 w5 hK5; rw [HTR.out] at hK5; obtain ⟨SB, sb, rfl⟩ := row_form hK5.at0; clear a1 a2 a3; obtain ⟨a1, a2, a3⟩ := hK5.drop.blkAt))
          go_roundw
          case rel => exact ⟨j + 1, ⟨r.1, tr', s1.done + 1, 0⟩, r.2, by omega, by go_num, rfl, ⟨SB, sb, B1, d1, B2, d2, B3, d3, (hK5.sw1.st 9 (.slice SB tr'.length sb)).sel [0, 2, 3, 4, 1] 5 (by decide) (by decide)⟩, HGN.out, rfl, fun s' b' h => by have := HEV.out s' b' h; rw [Bool.false_or] at this; exact this⟩
          case measure => simp [intOf]; omega
        · go_wp2_with (first
            | (go_at_call 154; refine (counted_ok s1 _ HM.out HC.out HD.out hdn).mono ?_; rintro e w2 ⟨rfl, hM2⟩; obtain ⟨SA', sc', A1', c1', A2', c2', A3', c3', hK2⟩ := hM2; obtain ⟨a1, a2, a3⟩ := hK2.blkAt)
            | (go_at_call 169; refine (KT.out _ _ _ _ _ _ _ _ hK2).mono ?_; rw [HR.out]; rintro e w3 ⟨B1, d1, B2, d2, B3, d3, rfl, hK3⟩; have hK4 := hK2.join hK3; have hK6a := ((((((((hK4.sw3.st 0 (.int .i64 r.1.a.base)).st 1 (.slice B1 r.1.a.digits.length d1)).st 2 (.int .i64 r.1.b.base)).st 3 (.slice B2 r.1.b.digits.length d2)).st 4 (.int .i64 r.1.s.base)).st 5 (.slice B3 r.1.s.digits.length d3)).st 6 (.int .i64 r.1.carry)).al [.int .i64 r.1.a.base, .slice B1 r.1.a.digits.length d1, .int .i64 r.1.b.base, .slice B2 r.1.b.digits.length d2, .int .i64 r.1.s.base, .slice B3 r.1.s.digits.length d3, .int .i64 r.1.carry] 28); have hK6b := (hK6a.al [.int .i64 kind] 2).sel [0, 9, 2, 3, 4, 5] 10 (by decide) (by decide); simp only [World.size_alloc, World.size_setCell] at hK6b; clear a1 a2 a3; obtain ⟨a1, a2, a3⟩ := hK4.drop.drop.drop.blkAt)
            | (at_builtin; refine kn_pushI (m := .blk g _ _ :: _) rfl _ _ rfl _ s1.tr rfl rfl hK6b (by omega) ?_; intro v3 w5 hK5; rw [HTR.out] at hK5; obtain ⟨SB, sb, rfl⟩ := row_form hK5.at0; clear a1 a2 a3; obtain ⟨a1, a2, a3⟩ := hK5.drop.blkAt))
          go_roundw
          case rel => exact ⟨j + 1, ⟨r.1, tr', s1.done + 1, 0⟩, true, by omega, by go_num, rfl, ⟨SB, sb, B1, d1, B2, d2, B3, d3, (hK5.sw1.st 9 (.slice SB tr'.length sb)).sel [0, 2, 3, 4, 1] 5 (by decide) (by decide)⟩, HGN.out, rfl, fun s' b' h => by have := HEV.out s' b' h; rw [Bool.true_or] at this ⊢; exact this⟩
          case measure => simp [intOf]; omega
    · have hi1 : ¬ (j : Int) < (N : Int) := by omega
      obtain rfl : j = N := by omega
      go_wp2_with fail
      go_ret
      have hev := HE.out _ _ (by rw [Nat.sub_self]; exact Ev.s0)
      exact ⟨s1, b1, rfl, by simpa using hev, HM.out, HG.out⟩
end Go.Proofs.Ytkfbfainhmkkdaa

namespace Go.Proofs.Ytkfbfainhmkkdaa
open Go.RowKit Go.Sort
def RunIRet (L : List Ins) (w0 : World) (g : Nat) (LV : Value) (m : List Ent) (tk : Task) (s : RS) (e : Ending) (w' : World) : Prop := ∃ s' b', e = .returned (.bool b') ∧ Ev L tk s s' b' ∧ RunI w0 g LV s' m w' ∧ s'.Good
def LoopIRet (L : List Ins) (w0 : World) (g : Nat) (LV : Value) (m : List Ent) (tk : Task) (s : RS) (e : Ending) (w' : World) : Prop := ∃ s', e = .returned (.tuple #[]) ∧ Ev L tk s s' false ∧ RunI w0 g LV s' m w' ∧ s'.Good
def RunIOK (L : List Ins) (LA : Option Addr) (n lc : Nat) (w0 : World) (N : Nat) : Prop := ∀ (g : Nat) (m : List Ent) (s : RS) (i tt : Nat) (w : World), 3001 - s.done ≤ N → s.code = 0 → s.Good → Seg L i tt → RunI w0 g (.slice LA n lc) s m w →
  Calls Try.prog 132 #[.pointer (some ⟨g, 0, none⟩), .int .i64 i, .int .i64 tt] w (RunIRet L w0 g (.slice LA n lc) m (.run i tt) s)
def LoopIOK (L : List Ins) (LA : Option Addr) (n lc : Nat) (w0 : World) (N : Nat) : Prop := ∀ (g : Nat) (m : List Ent) (s : RS) (x : Ins) (i e : Nat) (w : World), 3001 - s.done ≤ N → s.code = 0 → s.Good → opens x.op = true → instrOk x.op x.arg = true → Seg L i e → e ≤ 120 → RunI w0 g (.slice LA n lc) s m w →
  Calls Try.prog 156 #[.pointer (some ⟨g, 0, none⟩), .agg #[.int .i64 x.op, .int .i64 x.arg], .int .i64 i, .int .i64 e] w (LoopIRet L w0 g (.slice LA n lc) m (.loop x.op x.arg i e 0) s)
set_option maxRecDepth 100000 in
set_option maxHeartbeats 3200000 in
theorem loopI_of {L : List Ins} {LA : Option Addr} {n lc : Nat} {w0 : World} {N : Nat} (ih : ∀ N', N' < N → RunIOK L LA n lc w0 N') : LoopIOK L LA n lc w0 N := by
  intro g m s x i e w hN hc hg hop hok hseg hle hM
  obtain ⟨SA, sc, A1, c1, A2, c2, A3, c3, hK⟩ := hM
  have HIH := Lib.hid ih
  have HSEG := Lib.hid hseg
  have hx9 : x.op = 8 ∨ x.op = 9 := by simpa [opens] using hop
  have hax : 0 ≤ x.arg ∧ x.arg ≤ 1000000000000 := by have := instrOk_bd1 hok; omega
  have HC0 := Lib.hid hc
  have HG0 := Lib.hid hg
  have HN0 := Lib.hid hN
  have hie := hseg.le
  clear ih hseg hc hg hop hok hN
  go_enter Try.func156, Try.ntmps156
  go_wp2_with fail
  have hK1 := hK.al [.int .i64 x.op, .int .i64 x.arg] 46
  generalize w.alloc (.cells #[.int .i64 x.op, .int .i64 x.arg] 46) = w1 at hK1 ⊢
  have hK2 : Kn w0 _ w1 := hK1.sel [1, 2, 3, 4, 5, 0] 6 (by decide) (by decide)
  obtain ⟨g6, hg6⟩ : ∃ g6, w.heap.size = g6 := ⟨_, rfl⟩
  have hM2 : RunI w0 g (.slice LA n lc) s (.blk g6 [.int .i64 x.op, .int .i64 x.arg] 46 :: m) w1 := ⟨SA, sc, A1, c1, A2, c2, A3, c3, by rw [← hg6]; exact hK2⟩
  rw [hg6]
  clear hK1 hK2 hK hg6
  go_loopw [8] (fun kk wr => ∃ (k : Nat) (s1 : RS), kk = .int .i64 k ∧ k ≤ s1.done ∧ RunI w0 g (.slice LA n lc) s1 (.blk g6 [.int .i64 x.op, .int .i64 x.arg] 46 :: m) wr ∧ s1.Good ∧ s1.code = 0 ∧ s.done ≤ s1.done ∧ (x.op = 8 → (k : Int) ≤ x.arg) ∧ ∀ s' b', Ev L (.loop x.op x.arg i e k) s1 s' b' → Ev L (.loop x.op x.arg i e 0) s s' false) (fun kk _ => 4000 - (intOf kk).toNat)
  case atStart => exact ⟨0, s, rfl, Nat.zero_le _, hM2, HG0.out, HC0.out, Nat.le_refl _, fun _ => hax.1, fun s' b' h => by cases h with
    | lEnd a1 a2 => exact .lEnd a1 a2
    | lFull a1 a2 => exact .lFull a1 a2
    | lOut a1 a2 a3 a4 => exact .lOut a1 a2 a3 a4
    | lStep a1 a2 a3 a4 a5 => exact .lStep a1 a2 a3 a4 a5⟩
  case round =>
    clear hM2
    obtain ⟨k, s1, rfl, hkd, hM, hg1, hc1, hmono, hka, hev⟩ := hrel
    have HM := Lib.hid hM
    have HG := Lib.hid hg1
    obtain ⟨SA, sc, A1, c1, A2, c2, A3, c3, hK⟩ := hM
    obtain ⟨a1, a2, a3⟩ := hK.blkAt
    obtain ⟨x1, x2, x3⟩ := hK.drop.drop.drop.drop.drop.blkAt
    have htop := hg1.top
    have HC := Lib.hid hc1
    have HE := Lib.hid hev
    have hdn := hg1.done hc1
    have KR := Lib.hid (fun (m' : List Ent) W (hd : ¬ s1.done = 3000) (h : RunI w0 g (.slice LA n lc) ⟨s1.m, s1.tr, s1.done + 1, 0⟩ m' W) => HIH.out (3001 - (s1.done + 1)) (by have := HN0.out; omega) g m' ⟨s1.m, s1.tr, s1.done + 1, 0⟩ i e W (Nat.le_refl _) rfl (HG.out.more HC.out hd _ HG.out.m 0) HSEG.out h)
    clear hc1 hev hg1 hK
    rcases hx9 with h8 | h9
    · have o8 : (x.op == 8) = true := by simp [h8]
      have o9 : (x.op == 9) = false := by simp [h8]
      have HX8 := Lib.hid h8
      have hka' := hka h8
      clear h8 hka
      by_cases hk : (k : Int) < x.arg
      · have HNE := Lib.hid (show ¬ (x.op = 8 ∧ x.arg ≤ (k : Int)) by rintro ⟨-, h⟩; omega)
        by_cases hd : s1.done = 3000
        · have HD := Lib.hid hd
          clear hd
          go_wp2_with (go_at_call 154; refine (counted_full s1 _ HM.out HC.out HD.out).mono ?_; rintro e w2 ⟨rfl, hM2⟩)
          go_end0
          exact ⟨s1.tick, rfl, HE.out s1.tick false (Ev.lFull HNE.out HD.out), by rw [RS.tick_full HD.out]; exact hM2.drop, HG.out.tick HC.out⟩
        · have HD := Lib.hid hd
          clear hd
          go_wp2_with (go_at_call 154; refine (counted_ok s1 _ HM.out HC.out HD.out hdn).mono ?_; rintro e w2 ⟨rfl, hM2⟩; have HM2 := Lib.hid hM2; obtain ⟨SA', sc', A1', c1', A2', c2', A3', c3', hK2⟩ := hM2; clear a1 a2 a3 x1 x2 x3; obtain ⟨a1, a2, a3⟩ := hK2.blkAt; obtain ⟨x1, x2, x3⟩ := hK2.drop.drop.drop.drop.drop.blkAt)
          refine (KR.out _ _ HD.out HM2.out).mono ?_; rintro e w3 ⟨s3, b3, rfl, he3, hM3, hg3⟩
          have HM3 := Lib.hid hM3
          have HE3 := Lib.hid he3
          have HG3 := Lib.hid hg3
          have hmo3 := he3.mono
          simp only [] at hmo3
          obtain ⟨SA3, sc3, A13, c13, A23, c23, A33, c33, hK3⟩ := hM3
          clear a1 a2 a3 x1 x2 x3 hK2
          obtain ⟨a1, a2, a3⟩ := hK3.blkAt
          obtain ⟨x1, x2, x3⟩ := hK3.drop.drop.drop.drop.drop.blkAt
          clear hK3 he3 hg3
          rcases hc3 : (s3.code == 0) with _ | _
          · have HC3 := Lib.hid (show ¬ s3.code = 0 by simpa using hc3)
            have hc3' : (s3.code != 0) = true := by simpa using hc3
            go_wp2_with fail
            go_end0
            exact ⟨s3, rfl, HE.out s3 false (Ev.lOut HNE.out HD.out HE3.out (by first | exact .inl HC3.out | exact .inr ⟨HX9.out, rfl⟩)), HM3.out.drop, HG3.out⟩
          · have HC3 := Lib.hid (show s3.code = 0 by simpa using hc3)
            have hc3' : (s3.code != 0) = false := by simpa using hc3
            go_wp2_with fail
            go_roundw
            case rel => exact ⟨k + 1, s3, by go_num, by omega, HM3.out, HG3.out, HC3.out, by omega, fun h => by first | (have := HX9.out; omega) | omega, fun s' b' h => HE.out s' false (Ev.lStep HNE.out HD.out HE3.out ⟨HC3.out, by first | (rintro ⟨h, -⟩; have := HX8.out; omega) | (rintro ⟨-, h⟩; cases h)⟩ h)⟩
            case measure => simp [intOf]; omega
      · have HEQ := Lib.hid (show x.arg ≤ (k : Int) by omega)
        go_wp2_with fail
        go_end0
        exact ⟨s1, rfl, HE.out s1 false (Ev.lEnd HX8.out HEQ.out), HM.out.drop, HG.out⟩
    · have o8 : (x.op == 8) = false := by simp [h9]
      have o9 : (x.op == 9) = true := by simp [h9]
      have HX9 := Lib.hid h9
      have HNE := Lib.hid (show ¬ (x.op = 8 ∧ x.arg ≤ (k : Int)) by omega)
      clear h9 hka
      by_cases hd : s1.done = 3000
      · have HD := Lib.hid hd
        clear hd
        go_wp2_with (go_at_call 154; refine (counted_full s1 _ HM.out HC.out HD.out).mono ?_; rintro e w2 ⟨rfl, hM2⟩)
        go_end0
        exact ⟨s1.tick, rfl, HE.out s1.tick false (Ev.lFull HNE.out HD.out), by rw [RS.tick_full HD.out]; exact hM2.drop, HG.out.tick HC.out⟩
      · have HD := Lib.hid hd
        clear hd
        go_wp2_with (go_at_call 154; refine (counted_ok s1 _ HM.out HC.out HD.out hdn).mono ?_; rintro e w2 ⟨rfl, hM2⟩; have HM2 := Lib.hid hM2; obtain ⟨SA', sc', A1', c1', A2', c2', A3', c3', hK2⟩ := hM2; clear a1 a2 a3 x1 x2 x3; obtain ⟨a1, a2, a3⟩ := hK2.blkAt; obtain ⟨x1, x2, x3⟩ := hK2.drop.drop.drop.drop.drop.blkAt)
        refine (KR.out _ _ HD.out HM2.out).mono ?_; rintro e w3 ⟨s3, b3, rfl, he3, hM3, hg3⟩
        have HM3 := Lib.hid hM3
        have HE3 := Lib.hid he3
        have HG3 := Lib.hid hg3
        have hmo3 := he3.mono
        simp only [] at hmo3
        obtain ⟨SA3, sc3, A13, c13, A23, c23, A33, c33, hK3⟩ := hM3
        clear a1 a2 a3 x1 x2 x3 hK2
        obtain ⟨a1, a2, a3⟩ := hK3.blkAt
        obtain ⟨x1, x2, x3⟩ := hK3.drop.drop.drop.drop.drop.blkAt
        clear hK3 he3 hg3
        rcases hc3 : (s3.code == 0) with _ | _
        · have HC3 := Lib.hid (show ¬ s3.code = 0 by simpa using hc3)
          have hc3' : (s3.code != 0) = true := by simpa using hc3
          go_wp2_with fail
          go_end0
          exact ⟨s3, rfl, HE.out s3 false (Ev.lOut HNE.out HD.out HE3.out (by first | exact .inl HC3.out | exact .inr ⟨HX9.out, rfl⟩)), HM3.out.drop, HG3.out⟩
        · have HC3 := Lib.hid (show s3.code = 0 by simpa using hc3)
          have hc3' : (s3.code != 0) = false := by simpa using hc3
          cases b3
          · go_wp2_with fail
            go_roundw
            case rel => exact ⟨k + 1, s3, by go_num, by omega, HM3.out, HG3.out, HC3.out, by omega, fun h => by first | (have := HX9.out; omega) | omega, fun s' b' h => HE.out s' false (Ev.lStep HNE.out HD.out HE3.out ⟨HC3.out, by first | (rintro ⟨h, -⟩; have := HX8.out; omega) | (rintro ⟨-, h⟩; cases h)⟩ h)⟩
            case measure => simp [intOf]; omega
          · go_wp2_with fail
            go_end0
            exact ⟨s3, rfl, HE.out s3 false (Ev.lOut HNE.out HD.out HE3.out (by first | exact .inl HC3.out | exact .inr ⟨HX9.out, rfl⟩)), HM3.out.drop, HG3.out⟩
end Go.Proofs.Ytkfbfainhmkkdaa

namespace Go.Proofs.Ytkfbfainhmkkdaa
open Go.RowKit Go.Sort
theorem box8 {w0 w : World} {m : List Ent} {g g' : Nat} {v0 v1 v2 v3 v4 v5 v6 y0 y1 : Value} {l : List Value} {r1 r2 r3 r4 : Ent} {T T' : TypeId} (h : Kn w0 (.blk g (v0 :: v1 :: v2 :: v3 :: v4 :: v5 :: v6 :: l) T :: r1 :: r2 :: r3 :: r4 :: .blk g' [y0, y1] T' :: m) w) :
    w.cell? ⟨g, 0, none⟩ = some v0 ∧ w.cell? ⟨g, 1, none⟩ = some v1 ∧ w.cell? ⟨g, 2, none⟩ = some v2 ∧ w.cell? ⟨g, 3, none⟩ = some v3 ∧ w.cell? ⟨g, 4, none⟩ = some v4 ∧ w.cell? ⟨g, 5, none⟩ = some v5 ∧ w.cell? ⟨g, 6, none⟩ = some v6 ∧ w.cell? ⟨g', 1, none⟩ = some y1 :=
  ⟨h.blkAt.1 0, h.blkAt.1 1, h.blkAt.1 2, h.blkAt.1 3, h.blkAt.1 4, h.blkAt.1 5, h.blkAt.1 6, h.drop.drop.drop.drop.drop.blkAt.1 1⟩
set_option maxRecDepth 100000 in
set_option maxHeartbeats 3200000 in
theorem runI_of {L : List Ins} {LA : Option Addr} {n lc : Nat} {w0 : World} {N : Nat} (hv : vprog L = true) (hr : RL InsM 2 w0 LA n L) (ihL : LoopIOK L LA n lc w0 N) : RunIOK L LA n lc w0 N := by
  intro g m s i tt w hN hc hg hseg hM
  have hL := vprog_len hv
  have hn9 : n ≤ 120 := by rw [← hr.1]; exact hL
  have htt : tt ≤ n := by have := hseg.len; have := hr.1; omega
  have HIH := Lib.hid ihL
  have HR := Lib.hid hr
  have HV := Lib.hid hv
  have HN0 := Lib.hid hN
  clear hr ihL hv hN
  go_enter Try.func132, Try.ntmps132
  go_wp2_with fail
  go_loopw [7, 8] (fun bb ii wr => ∃ (j : Nat) (s1 : RS) (b1 : Bool), ii = .int .i64 j ∧ bb = .bool b1 ∧ RunI w0 g (.slice LA n lc) s1 m wr ∧ s1.Good ∧ s.done ≤ s1.done ∧ Seg L j tt ∧ ∀ s' b', Ev L (.run j tt) s1 s' b' → Ev L (.run i tt) s s' (b1 || b')) (fun _ ii _ => tt - (intOf ii).toNat)
  case atStart => exact ⟨i, s, false, rfl, rfl, hM, hg, Nat.le_refl _, hseg, fun s' b' h => by simpa using h⟩
  case round =>
    clear hM hc hg hseg
    obtain ⟨j, s1, b1, rfl, rfl, hM, hg1, hmono, hseg, hev⟩ := hrel
    have HM := Lib.hid hM
    have HG := Lib.hid hg1
    have HSEG := Lib.hid hseg
    have HE := Lib.hid hev
    obtain ⟨SA, sc, A1, c1, A2, c2, A3, c3, hK⟩ := hM
    obtain ⟨a1, a2, a3⟩ := hK.blkAt
    clear hg1 hev
    by_cases hjt : j < tt
    · have hi1 : (j : Int) < (tt : Int) := by omega
      by_cases hc1 : s1.code = 0
      · have HC := Lib.hid hc1
        have h2 : (s1.code == 0) = true := by simp [hc1]
        have hlt := hseg.lt hjt
        have hjn : j < n := by omega
        have hdn := HG.out.done hc1
        obtain ⟨ad, hA, hlt2, hkl, hx'⟩ := (HR.out.below steady_InsM hK.below).at_ hjn
        obtain ⟨x1, x2⟩ := hx'
        obtain ⟨x, hx⟩ : ∃ x, L[j] = x := ⟨_, rfl⟩
        rw [hx] at x1 x2
        obtain ⟨op, hope⟩ : ∃ o, x.op = o := ⟨_, rfl⟩
        rw [hope] at x1
        have HOE := Lib.hid hope
        subst hA
        have hok := (dep_step HV.out hlt).1
        rw [hx, hope] at hok
        have hbd := instrOk_bd1 hok
        have h10 := hseg.noEnd HV.out hjt
        rw [hx, hope] at h10
        have hj0 : (0 : Int) ≤ (j : Int) := by omega
        have hj1 : (j : Int) < (n : Int) := by omega
        have HX := Lib.hid hx
        have HLT := Lib.hid hlt
        have HOK := Lib.hid hok
        have H10 := Lib.hid h10
        clear hc1 hseg hlt hx hok h10 hope
        rcases hop : opens op with _ | _
        · have o8 : (op == 8) = false := by simp [opens] at hop; simp; omega
          have o9 : (op == 9) = false := by simp [opens] at hop; simp; omega
          have HNX := Lib.hid (HSEG.out.next HV.out hjt (by rw [HX.out, HOE.out]; exact hop))
          have HOP := Lib.hid hop
          clear hop
          rcases h1 : (op == 1) with _ | _
          · have hne1 : ¬ op = 1 := by simpa using h1
            have HN1 := Lib.hid hne1
            have hkd : 1 ≤ op - 1 ∧ op - 1 ≤ 6 := by
              have h3 := HOP.out
              have h4 := H10.out
              simp [opens] at h3; omega
            have hok3 := HOK.out
            clear hne1
            rcases h6 : (op == 6) with _ | _
            · rcases h7 : (op == 7) with _ | _
              · have hT3 : 1 ≤ x.arg ∧ x.arg ≤ 100 := by
                  simp at h6 h7 h1 o8 o9
                  simp only [instrOk] at hok3
                  split at hok3
                  · omega
                  · split at hok3
                    · have := betB_iff.1 hok3; omega
                    · split at hok3
                      · omega
                      · cases hok3
                obtain ⟨T, hT⟩ : ∃ T : Nat, x.arg = (T : Int) := ⟨x.arg.toNat, by omega⟩
                have HT2 := Lib.hid (show (max 1 x.arg).toNat = T by omega)
                rw [hT] at x2
                rw [hT] at hT3
                clear hok3 hT hbd
                have KS := Lib.hid (fun (m' : List Ent) W (h : RunI w0 g (.slice (some ad) n lc) s1 m' W) => strokesI_any (L := L) s1 (op - 1) T W h HG.out HC.out (by omega) (by omega))
                go_wp2_with fail
                have hK1 := hK.al [.int .i64 op, .int .i64 (T : Int)] 46
                have hK2 := hK1.sel [1, 2, 3, 4, 5, 0] 6 (by decide) (by decide)
                have hM2 : RunI w0 g (.slice (some ad) n lc) s1 (.blk wr.heap.size [.int .i64 op, .int .i64 (T : Int)] 46 :: m) _ := ⟨SA, sc, A1, c1, A2, c2, A3, c3, hK2⟩
                try rw [show op - 2 + 1 = op - 1 by omega]
                refine (KS.out _ _ hM2).mono ?_; rintro e w3 ⟨s3, b3, rfl, he3, hM3, hg3⟩
                have HM3 := Lib.hid hM3
                have HE3 := Lib.hid he3
                have HG3 := Lib.hid hg3
                clear he3 hM3 hg3 hK hK1 hK2 hM2 a1 a2 a3 x1 x2
                cases b3
                · go_wp2_with fail
                  go_roundw
                  case rel => exact ⟨j + 1, s3, b1, by go_num, rfl, HM3.out.drop, HG3.out, by have := HE3.out.mono; omega, HNX.out, fun s' b' h => by
                    have := HE.out s' (false || b') (Ev.rStr hjt HLT.out HC.out (by rw [HX.out, HOE.out]; first | exact HOP.out | rfl) (by rw [HX.out, HOE.out]; first | exact HN1.out | decide) (by rw [HX.out, HT2.out, HOE.out]; exact HE3.out) h)
                    simpa using this⟩
                  case measure => simp [intOf]; omega
                · go_wp2_with fail
                  go_roundw
                  case rel => exact ⟨j + 1, s3, true, by go_num, rfl, HM3.out.drop, HG3.out, by have := HE3.out.mono; omega, HNX.out, fun s' b' h => by
                    have := HE.out s' (true || b') (Ev.rStr hjt HLT.out HC.out (by rw [HX.out, HOE.out]; first | exact HOP.out | rfl) (by rw [HX.out, HOE.out]; first | exact HN1.out | decide) (by rw [HX.out, HT2.out, HOE.out]; exact HE3.out) h)
                    simpa using this⟩
                  case measure => simp [intOf]; omega
              · obtain rfl : op = 7 := by simpa using h7
                have HT2 := Lib.hid (show (max 1 x.arg).toNat = 1 by simp [instrOk] at hok3; omega)
                clear hok3 hbd
                have KS := Lib.hid (fun (m' : List Ent) W (h : RunI w0 g (.slice (some ad) n lc) s1 m' W) => strokesI_any (L := L) s1 (6) 1 W h HG.out HC.out (by omega) (by omega))
                go_wp2_with fail
                have hK1 := hK.al [.int .i64 7, .int .i64 x.arg] 46
                have hK2 := hK1.sel [1, 2, 3, 4, 5, 0] 6 (by decide) (by decide)
                have hM2 : RunI w0 g (.slice (some ad) n lc) s1 (.blk wr.heap.size [.int .i64 7, .int .i64 x.arg] 46 :: m) _ := ⟨SA, sc, A1, c1, A2, c2, A3, c3, hK2⟩
                try rw [show 7 - 2 + 1 = 7 - 1 by omega]
                refine (KS.out _ _ hM2).mono ?_; rintro e w3 ⟨s3, b3, rfl, he3, hM3, hg3⟩
                have HM3 := Lib.hid hM3
                have HE3 := Lib.hid he3
                have HG3 := Lib.hid hg3
                clear he3 hM3 hg3 hK hK1 hK2 hM2 a1 a2 a3 x1 x2
                cases b3
                · go_wp2_with fail
                  go_roundw
                  case rel => exact ⟨j + 1, s3, b1, by go_num, rfl, HM3.out.drop, HG3.out, by have := HE3.out.mono; omega, HNX.out, fun s' b' h => by
                    have := HE.out s' (false || b') (Ev.rStr hjt HLT.out HC.out (by rw [HX.out, HOE.out]; first | exact HOP.out | rfl) (by rw [HX.out, HOE.out]; first | exact HN1.out | decide) (by rw [HX.out, HT2.out, HOE.out]; exact HE3.out) h)
                    simpa using this⟩
                  case measure => simp [intOf]; omega
                · go_wp2_with fail
                  go_roundw
                  case rel => exact ⟨j + 1, s3, true, by go_num, rfl, HM3.out.drop, HG3.out, by have := HE3.out.mono; omega, HNX.out, fun s' b' h => by
                    have := HE.out s' (true || b') (Ev.rStr hjt HLT.out HC.out (by rw [HX.out, HOE.out]; first | exact HOP.out | rfl) (by rw [HX.out, HOE.out]; first | exact HN1.out | decide) (by rw [HX.out, HT2.out, HOE.out]; exact HE3.out) h)
                    simpa using this⟩
                  case measure => simp [intOf]; omega
            · obtain rfl : op = 6 := by simpa using h6
              have HT2 := Lib.hid (show (max 1 x.arg).toNat = 1 by simp [instrOk] at hok3; omega)
              clear hok3 hbd
              have KS := Lib.hid (fun (m' : List Ent) W (h : RunI w0 g (.slice (some ad) n lc) s1 m' W) => strokesI_any (L := L) s1 (5) 1 W h HG.out HC.out (by omega) (by omega))
              go_wp2_with fail
              have hK1 := hK.al [.int .i64 6, .int .i64 x.arg] 46
              have hK2 := hK1.sel [1, 2, 3, 4, 5, 0] 6 (by decide) (by decide)
              have hM2 : RunI w0 g (.slice (some ad) n lc) s1 (.blk wr.heap.size [.int .i64 6, .int .i64 x.arg] 46 :: m) _ := ⟨SA, sc, A1, c1, A2, c2, A3, c3, hK2⟩
              try rw [show 6 - 2 + 1 = 6 - 1 by omega]
              refine (KS.out _ _ hM2).mono ?_; rintro e w3 ⟨s3, b3, rfl, he3, hM3, hg3⟩
              have HM3 := Lib.hid hM3
              have HE3 := Lib.hid he3
              have HG3 := Lib.hid hg3
              clear he3 hM3 hg3 hK hK1 hK2 hM2 a1 a2 a3 x1 x2
              cases b3
              · go_wp2_with fail
                go_roundw
                case rel => exact ⟨j + 1, s3, b1, by go_num, rfl, HM3.out.drop, HG3.out, by have := HE3.out.mono; omega, HNX.out, fun s' b' h => by
                  have := HE.out s' (false || b') (Ev.rStr hjt HLT.out HC.out (by rw [HX.out, HOE.out]; first | exact HOP.out | rfl) (by rw [HX.out, HOE.out]; first | exact HN1.out | decide) (by rw [HX.out, HT2.out, HOE.out]; exact HE3.out) h)
                  simpa using this⟩
                case measure => simp [intOf]; omega
              · go_wp2_with fail
                go_roundw
                case rel => exact ⟨j + 1, s3, true, by go_num, rfl, HM3.out.drop, HG3.out, by have := HE3.out.mono; omega, HNX.out, fun s' b' h => by
                  have := HE.out s' (true || b') (Ev.rStr hjt HLT.out HC.out (by rw [HX.out, HOE.out]; first | exact HOP.out | rfl) (by rw [HX.out, HOE.out]; first | exact HN1.out | decide) (by rw [HX.out, HT2.out, HOE.out]; exact HE3.out) h)
                  simpa using this⟩
                case measure => simp [intOf]; omega
          · obtain rfl : op = 1 := by simpa using h1
            by_cases hd : s1.done = 3000
            · have HD := Lib.hid hd
              have HE1 := Lib.hid (show Ev L (.run i tt) s s1.tick b1 by have := HE.out s1.tick false (Ev.rSetFull hjt HLT.out HC.out (by rw [HX.out]; exact HOE.out) hd); simpa using this)
              clear hd
              go_wp2_with fail
              have hK1 := hK.al [.int .i64 1, .int .i64 x.arg] 46
              have hK2 := hK1.sel [1, 2, 3, 4, 5, 0] 6 (by decide) (by decide)
              have hM2 : RunI w0 g (.slice (some ad) n lc) s1 (.blk wr.heap.size [.int .i64 1, .int .i64 x.arg] 46 :: m) _ := ⟨SA, sc, A1, c1, A2, c2, A3, c3, hK2⟩
              refine (counted_full s1 _ hM2 HC.out HD.out).mono ?_; rintro e w2 ⟨rfl, hM3⟩
              have HM3 := Lib.hid hM3
              clear hM2 hM3 hK1 hK2 hK a1 a2 a3 x1 x2
              go_wp2_with fail
              go_ret
              exact ⟨s1.tick, b1, rfl, HE1.out, by rw [RS.tick_full HD.out]; exact HM3.out.drop, HG.out.tick HC.out⟩
            · have HD := Lib.hid hd
              obtain ⟨k1, -⟩ := vmach_all HG.out.m
              obtain ⟨⟨b1', b2'⟩, -⟩ := vreg_iff.1 k1
              have hz : Sized s1.m := by
                obtain ⟨q1, q2, q3, -⟩ := vmach_all HG.out.m
                obtain ⟨-, ⟨n1, n2⟩, -⟩ := vreg_iff.1 q1
                obtain ⟨-, ⟨n3, n4⟩, -⟩ := vreg_iff.1 q2
                obtain ⟨-, ⟨n5, n6⟩, -⟩ := vreg_iff.1 q3
                exact ⟨n1, n3, n5, n2, n4, n6⟩
              have KW := (fun (A1 A2 A3 : Option Addr) (c1 c2 c3 : Nat) (m' : List Ent) W cs T (h : Kn w0 (.blk g cs T :: rowI A3 c3 s1.m.s.digits :: rowI A2 c2 s1.m.b.digits :: rowI A1 c1 s1.m.a.digits :: m') W) => withSetting_any s1.m A1 A2 A3 c1 c2 c3 x.arg W h.drop.drop.drop.riv h.drop.drop.riv h.drop.riv hz b1' b2' hbd.2.2.1 (by omega))
              have hng : setFits s1.m x.arg = true → vmach (setT s1.m x.arg) = true := fun h => by
                have h6 : setFits s1.m x.arg = _ := restD_zero s1.m.a.base b1' s1.m.a.digits.length x.arg hbd.2.2.1
                rw [h6, decide_eq_true_iff] at h
                exact setT_ok x.arg HG.out.m hbd.2.2.1 h
              have HNG := Lib.hid hng
              obtain ⟨ds, hds⟩ : ∃ ds, digD s1.m.a.base s1.m.a.digits.length x.arg = ds := ⟨_, rfl⟩
              obtain ⟨ok, hokk⟩ : ∃ ok, (restD s1.m.a.base s1.m.a.digits.length x.arg == 0) = ok := ⟨_, rfl⟩
              rw [hds, hokk] at KW
              have KW := Lib.hid KW
              have HDS := Lib.hid hds
              have HOKK := Lib.hid (show setFits s1.m x.arg = ok from hokk)
              have HNX := Lib.hid (HSEG.out.next HV.out hjt (by rw [HX.out, HOE.out]; rfl))
              clear hd hz k1 b1' b2' hng hds hokk hbd
              go_wp2_with fail
              have hK1 := hK.al [.int .i64 1, .int .i64 x.arg] 46
              have hK2 := hK1.sel [1, 2, 3, 4, 5, 0] 6 (by decide) (by decide)
              have hM2 : RunI w0 g (.slice (some ad) n lc) s1 (.blk wr.heap.size [.int .i64 1, .int .i64 x.arg] 46 :: m) _ := ⟨SA, sc, A1, c1, A2, c2, A3, c3, hK2⟩
              refine (counted_ok s1 _ hM2 HC.out HD.out hdn).mono ?_; rintro e w2 ⟨rfl, hM3⟩
              clear hM2 hK1 hK2 hK a1 a2 a3 x1 x2
              obtain ⟨SA, sc, A1, c1, A2, c2, A3, c3, hK3⟩ := hM3
              have HT := Lib.hid (box8 hK3.drew)
              have HA := Lib.hid (box8 (hK3.al [.int .i64 0, .slice none 0 0, .int .i64 0, .slice none 0 0, .int .i64 0, .slice none 0 0, .int .i64 0] 28).drew.drop)
              have HS := HT
              go_wp2_with fail
              go_cut [10, 11] (fun pp oo wx => ∃ (g10 : Nat) (E1 : Option Addr) (g1 : Nat) (E2 : Option Addr) (g2 : Nat) (E3 : Option Addr) (g3 : Nat), pp = .pointer (some ⟨g10, 0, none⟩) ∧ oo = .bool ok ∧ Kn w0 (.blk g10 [.int .i64 s1.m.a.base, .slice E1 ds.length g1, .int .i64 s1.m.b.base, .slice E2 s1.m.b.digits.length g2, .int .i64 s1.m.s.base, .slice E3 s1.m.s.digits.length g3, .int .i64 s1.m.carry] 28 :: rowI E3 g3 s1.m.s.digits :: rowI E2 g2 s1.m.b.digits :: rowI E1 g1 ds :: .blk g [.int .i64 s1.m.a.base, .slice A1 s1.m.a.digits.length c1, .int .i64 s1.m.b.base, .slice A2 s1.m.b.digits.length c2, .int .i64 s1.m.s.base, .slice A3 s1.m.s.digits.length c3, .int .i64 s1.m.carry, .slice (some ad) n lc, .int .i64 ((s1.done + 1 : Nat) : Int), .slice SA s1.tr.length sc, .int .i64 0] 82 :: rowI A3 c3 s1.m.s.digits :: rowI A2 c2 s1.m.b.digits :: rowI A1 c1 s1.m.a.digits :: rowI SA sc s1.tr :: .blk wr.heap.size [.int .i64 1, .int .i64 x.arg] 46 :: m) wx)
              case first =>
                go_region_held3 (fun W => W.cell? ⟨g, 0, none⟩ = some (.int .i64 s1.m.a.base) ∧ W.cell? ⟨g, 1, none⟩ = some (.slice A1 s1.m.a.digits.length c1) ∧ W.cell? ⟨g, 2, none⟩ = some (.int .i64 s1.m.b.base) ∧ W.cell? ⟨g, 3, none⟩ = some (.slice A2 s1.m.b.digits.length c2) ∧ W.cell? ⟨g, 4, none⟩ = some (.int .i64 s1.m.s.base) ∧ W.cell? ⟨g, 5, none⟩ = some (.slice A3 s1.m.s.digits.length c3) ∧ W.cell? ⟨g, 6, none⟩ = some (.int .i64 s1.m.carry) ∧ W.cell? ⟨wr.heap.size, 1, none⟩ = some (.int .i64 x.arg))
                  (first | with_reducible exact HT.out | with_reducible exact HA.out | with_reducible exact HS.out | exact HT.out | exact HA.out | exact HS.out) (first
                  | (go_at_call 155; first
                    | ((with_reducible refine (KW.out _ _ _ _ _ _ _ _ _ _ hK3.drew).mono ?_); rintro e w4 ⟨E1, g1, E2, g2, E3, g3, rfl, hK⟩; clear HT HA; have hK4 := hK3.drew.join hK; have HT := Lib.hid (box8 hK4.drop.drop.drop); have HA := Lib.hid (box8 (hK4.al [.int .i64 0, .slice none 0 0, .int .i64 0, .slice none 0 0, .int .i64 0, .slice none 0 0, .int .i64 0] 28).drop.drop.drop.drop); have hK5 := hK4.al [.int .i64 s1.m.a.base, .slice E1 ds.length g1, .int .i64 s1.m.b.base, .slice E2 s1.m.b.digits.length g2, .int .i64 s1.m.s.base, .slice E3 s1.m.s.digits.length g3, .int .i64 s1.m.carry] 28; have HS := Lib.hid (box8 hK5.drop.drop.drop.drop))
                    | ((refine (KW.out _ _ _ _ _ _ _ _ _ _ (hK3.al [.int .i64 0, .slice none 0 0, .int .i64 0, .slice none 0 0, .int .i64 0, .slice none 0 0, .int .i64 0] 28).drew.drop).mono ?_); rintro e w4 ⟨E1, g1, E2, g2, E3, g3, rfl, hK⟩; clear HT HA; have hK4 := (hK3.al [.int .i64 0, .slice none 0 0, .int .i64 0, .slice none 0 0, .int .i64 0, .slice none 0 0, .int .i64 0] 28).drew.join hK; have HT := Lib.hid (box8 hK4.drop.drop.drop.drop); obtain ⟨q1, q2, q3⟩ := hK4.drop.drop.drop.blkAt; have HA := HT; have hK5 := ((((((hK4.sw3.st 0 (.int .i64 s1.m.a.base)).st 1 (.slice E1 ds.length g1)).st 2 (.int .i64 s1.m.b.base)).st 3 (.slice E2 s1.m.b.digits.length g2)).st 4 (.int .i64 s1.m.s.base)).st 5 (.slice E3 s1.m.s.digits.length g3)).st 6 (.int .i64 s1.m.carry); have HS := Lib.hid (box8 hK5.drop.drop.drop.drop))))
                all_goals
                  go_wp2_with fail
                  go_meet
                  exact ⟨_, _, _, _, _, _, _, rfl, rfl, hK5⟩
              case rest =>
                obtain ⟨g10, E1, g1, E2, g2, E3, g3, rfl, rfl, hK5⟩ := hcut
                clear HT HA HS KW hK3
                obtain ⟨y1, y2, y3, a1, a2, a3, x1, x2, x3, -⟩ := hK5.cells
                have ne1 := hK5.ne 0 4 rfl rfl (by decide)
                have ne2 := ne1.symm
                cases ok
                · go_wp2_with fail
                  go_ret
                  have hK6 := (hK5.front 4 rfl).st 10 (.int .i64 10)
                  exact ⟨⟨s1.m, s1.tr, s1.done + 1, 10⟩, b1, rfl, by have := HE.out _ false (Ev.rSetBad hjt HLT.out HC.out (by rw [HX.out]; exact HOE.out) HD.out (by rw [HX.out]; exact HOKK.out)); simpa using this, ⟨SA, sc, A1, c1, A2, c2, A3, c3, hK6.sel [0, 5, 6, 7, 8] 10 (by decide) (by decide)⟩, HG.out.more HC.out HD.out _ HG.out.m 10⟩
                · go_wp2_with fail
                  go_roundw
                  case rel =>
                    have hK6 := (((((((hK5.front 4 rfl).st 0 (.int .i64 s1.m.a.base)).st 1 (.slice E1 ds.length g1)).st 2 (.int .i64 s1.m.b.base)).st 3 (.slice E2 s1.m.b.digits.length g2)).st 4 (.int .i64 s1.m.s.base)).st 5 (.slice E3 s1.m.s.digits.length g3)).st 6 (.int .i64 s1.m.carry)
                    have hda : (setT s1.m x.arg).a.digits = ds := HDS.out
                    exact ⟨j + 1, ⟨setT s1.m x.arg, s1.tr, s1.done + 1, 0⟩, b1, by go_num, rfl, ⟨SA, sc, E1, g1, E2, g2, E3, g3, by rw [hda]; exact hK6.sel [0, 2, 3, 4, 8] 10 (by decide) (by decide)⟩, HG.out.more HC.out HD.out _ (HNG.out HOKK.out) 0, by simp only []; omega, HNX.out, fun s' b' h => HE.out s' b' (Ev.rSet hjt HLT.out HC.out (by rw [HX.out]; exact HOE.out) HD.out (by rw [HX.out]; exact HOKK.out) (by rw [HX.out]; exact h))⟩
                  case measure => simp [intOf]; omega
        · have HOP := Lib.hid hop
          have KM := Lib.hid (fun W (h : RL InsM 2 W (some ad) n L) => matchOf_any (some ad) n lc L j W h HV.out HLT.out (by rw [HX.out, HOE.out]; exact HOP.out))
          have KL := (fun (m' : List Ent) W e h (hseg' : Seg L (j + 1) e) (he : e ≤ 120) => HIH.out g m' s1 x (j + 1) e W (by have := HN0.out; omega) HC.out HG.out (by rw [HOE.out]; exact HOP.out) (by rw [HOE.out]; exact HOK.out) hseg' he h)
          rw [HOE.out] at KL
          have KL := Lib.hid KL
          have h1 : (op == 1) = false := by simp [opens] at hop; simp; omega
          rcases o8 : (op == 8) with _ | _
          · have o9 : (op == 9) = true := by simp [opens] at hop; simp at o8 ⊢; omega
            clear hop hbd
            go_wp2_with fail
            have hK1 := hK.al [.int .i64 op, .int .i64 x.arg] 46
            have hK2 := hK1.sel [1, 2, 3, 4, 5, 0] 6 (by decide) (by decide)
            have hM2 : RunI w0 g (.slice (some ad) n lc) s1 (.blk wr.heap.size [.int .i64 op, .int .i64 x.arg] 46 :: m) _ := ⟨SA, sc, A1, c1, A2, c2, A3, c3, hK2⟩
            refine (KM.out _ (HR.out.below steady_InsM hK1.below)).mono ?_; rintro e w2 ⟨f, rfl, hmt, hw⟩
            have hsl := HSEG.out.loop HV.out hjt (by rw [HX.out, HOE.out]; exact HOP.out) hmt
            have HMT := Lib.hid hmt
            have HSL := Lib.hid hsl
            have hfb : f < tt ∧ j < f := ⟨hsl.2.1, hsl.1⟩
            have hK3 := hK2.keep hw
            clear hmt hsl hw a1 a2 a3 x1 x2 hK hK1 hK2 hM2
            obtain ⟨a1, a2, a3⟩ := hK3.blkAt
            obtain ⟨x1, x2, x3⟩ := hK3.drop.drop.drop.drop.drop.blkAt
            go_wp2_with fail
            refine (KL.out (.blk wr.heap.size [.int .i64 op, .int .i64 x.arg] 46 :: m) _ f ⟨SA, sc, A1, c1, A2, c2, A3, c3, hK3⟩ HSL.out.2.2.1 (by omega)).mono ?_; rintro e w3 ⟨s3, rfl, he3, hM3, hg3⟩
            have HE3 := Lib.hid he3
            have HG3 := Lib.hid hg3
            have HM3 := Lib.hid hM3
            clear a1 a2 a3 x1 x2 x3 hK3 he3 hg3 hM3
            go_wp2_with fail
            go_roundw
            case rel => exact ⟨f + 1, s3, b1, by go_num, rfl, HM3.out.drop, HG3.out, by have := HE3.out.mono; omega, HSL.out.2.2.2, fun s' b' h => HE.out s' b' (Ev.rLoop hjt HLT.out HC.out (by rw [HX.out, HOE.out]; exact HOP.out) HMT.out (by rw [HX.out, HOE.out]; exact HE3.out) h)⟩
            case measure => simp [intOf]; omega
          · clear hop hbd
            go_wp2_with fail
            have hK1 := hK.al [.int .i64 op, .int .i64 x.arg] 46
            have hK2 := hK1.sel [1, 2, 3, 4, 5, 0] 6 (by decide) (by decide)
            have hM2 : RunI w0 g (.slice (some ad) n lc) s1 (.blk wr.heap.size [.int .i64 op, .int .i64 x.arg] 46 :: m) _ := ⟨SA, sc, A1, c1, A2, c2, A3, c3, hK2⟩
            refine (KM.out _ (HR.out.below steady_InsM hK1.below)).mono ?_; rintro e w2 ⟨f, rfl, hmt, hw⟩
            have hsl := HSEG.out.loop HV.out hjt (by rw [HX.out, HOE.out]; exact HOP.out) hmt
            have HMT := Lib.hid hmt
            have HSL := Lib.hid hsl
            have hfb : f < tt ∧ j < f := ⟨hsl.2.1, hsl.1⟩
            have hK3 := hK2.keep hw
            clear hmt hsl hw a1 a2 a3 x1 x2 hK hK1 hK2 hM2
            obtain ⟨a1, a2, a3⟩ := hK3.blkAt
            obtain ⟨x1, x2, x3⟩ := hK3.drop.drop.drop.drop.drop.blkAt
            go_wp2_with fail
            refine (KL.out (.blk wr.heap.size [.int .i64 op, .int .i64 x.arg] 46 :: m) _ f ⟨SA, sc, A1, c1, A2, c2, A3, c3, hK3⟩ HSL.out.2.2.1 (by omega)).mono ?_; rintro e w3 ⟨s3, rfl, he3, hM3, hg3⟩
            have HE3 := Lib.hid he3
            have HG3 := Lib.hid hg3
            have HM3 := Lib.hid hM3
            clear a1 a2 a3 x1 x2 x3 hK3 he3 hg3 hM3
            go_wp2_with fail
            go_roundw
            case rel => exact ⟨f + 1, s3, b1, by go_num, rfl, HM3.out.drop, HG3.out, by have := HE3.out.mono; omega, HSL.out.2.2.2, fun s' b' h => HE.out s' b' (Ev.rLoop hjt HLT.out HC.out (by rw [HX.out, HOE.out]; exact HOP.out) HMT.out (by rw [HX.out, HOE.out]; exact HE3.out) h)⟩
            case measure => simp [intOf]; omega
      · have h2 : (s1.code == 0) = false := by simp [hc1]
        have HE1 := Lib.hid (show Ev L (.run i tt) s s1 b1 by have := HE.out s1 false (Ev.rCode hjt hc1); simpa using this)
        clear hc1
        go_wp2_with fail
        go_ret
        exact ⟨s1, b1, rfl, HE1.out, HM.out, HG.out⟩
    · have hi1 : ¬ (j : Int) < (tt : Int) := by omega
      have HE1 := Lib.hid (show Ev L (.run i tt) s s1 b1 by have := HE.out s1 false (Ev.rEnd (by omega)); simpa using this)
      go_wp2_with fail
      go_ret
      exact ⟨s1, b1, rfl, HE1.out, HM.out, HG.out⟩
theorem runI_all {L : List Ins} {LA : Option Addr} {n lc : Nat} {w0 : World} (hv : vprog L = true) (hr : RL InsM 2 w0 LA n L) : ∀ N, RunIOK L LA n lc w0 N := by
  intro N
  induction N using Nat.strongRecOn with
  | ind N ih => exact runI_of hv hr (loopI_of ih)
end Go.Proofs.Ytkfbfainhmkkdaa

namespace Go.Proofs.Ytkfbfainhmkkdaa
open Go.RowKit Go.Sort
/-- how a run begins -/
def startR (t : Tri) : RS := ⟨t, [], 0, 0⟩
theorem startR_good {t : Tri} (h : vmach t = true) : (startR t).Good := ⟨h, Nat.le_refl _, fun _ => by simp [startR], by simp [startR]⟩
theorem sized_of {t : Tri} (h : vmach t = true) : Sized t := by
  obtain ⟨q1, q2, q3, -⟩ := vmach_all h
  obtain ⟨-, ⟨n1, n2⟩, -⟩ := vreg_iff.1 q1
  obtain ⟨-, ⟨n3, n4⟩, -⟩ := vreg_iff.1 q2
  obtain ⟨-, ⟨n5, n6⟩, -⟩ := vreg_iff.1 q3
  exact ⟨n1, n3, n5, n2, n4, n6⟩
def RunPI (L : List Ins) (t : Tri) (LV : Value) (w : World) (e : Ending) (w' : World) : Prop := ∃ g s' b', e = .returned (.pointer (some ⟨g, 0, none⟩)) ∧ Ev L (.run 0 L.length) (startR t) s' b' ∧ RunI w g LV s' [] w' ∧ s'.Good
def RunPS (L : List Ins) (t : Tri) (LV : Value) (w : World) (e : Ending) (w' : World) : Prop := ∃ g s' b' b, e = .returned (.pointer (some ⟨g, 0, none⟩)) ∧ Ev L (.run 0 L.length) (startR t) s' b' ∧ RunS w g LV s' b [] w' ∧ s'.Good
set_option maxRecDepth 100000 in
set_option maxHeartbeats 1600000 in
theorem runProgram_any {L : List Ins} {n lc : Nat} {LA : Option Addr} (t : Tri) (A1 A2 A3 : Option Addr) (c1 c2 c3 : Nat) (w : World) (r1 : RI w A1 t.a.digits.length t.a.digits) (r2 : RI w A2 t.b.digits.length t.b.digits) (r3 : RI w A3 t.s.digits.length t.s.digits) (hv : vmach t = true) (hp : vprog L = true) (hr : RL InsM 2 w LA n L) :
    Calls Try.prog 67 #[.agg #[.int .i64 t.a.base, .slice A1 t.a.digits.length c1, .int .i64 t.b.base, .slice A2 t.b.digits.length c2, .int .i64 t.s.base, .slice A3 t.s.digits.length c3, .int .i64 t.carry], .slice LA n lc] w (RunPI L t (.slice LA n lc) w) := by
  have KC := Lib.hid (fun W (hW : Below w.heap.size w W) => copiedM_any t A1 A2 A3 c1 c2 c3 W (r1.below hW) (r2.below hW) (r3.below hW) (sized_of hv))
  have hlen := hr.1
  have KR := (fun g W h => runI_all (lc := lc) hp hr 3001 g [] (startR t) 0 L.length W (by simp) rfl (startR_good hv) (Seg.all hp) h)
  rw [hlen] at KR
  have KR := Lib.hid KR
  have HL := Lib.hid hlen
  clear r1 r2 r3 hv hp hr hlen
  go_enter Try.func67, Try.ntmps67
  go_wp2_with fail
  refine Calls.kn ((Kn.nil w).al [.int .i64 t.a.base, .slice A1 t.a.digits.length c1, .int .i64 t.b.base, .slice A2 t.b.digits.length c2, .int .i64 t.s.base, .slice A3 t.s.digits.length c3, .int .i64 t.carry] 28) ?_; intro w1 hK1
  (with_reducible refine (KC.out _ hK1.below).mono ?_); rintro e w2 ⟨B1, h1, B2, h2, B3, h3, rfl, hKC⟩
  have hK2 := hK1.join hKC
  go_wp2_with fail
  have hK3 := (hK2.al [] 2).litRow (size := 1) (n := 0) rfl (by decide)
  have hK4 := hK3.al [.int .i64 t.a.base, .slice B1 t.a.digits.length h1, .int .i64 t.b.base, .slice B2 t.b.digits.length h2, .int .i64 t.s.base, .slice B3 t.s.digits.length h3, .int .i64 t.carry, .slice LA n lc, .int .i64 0, .slice (some ⟨w2.heap.size, 0, none⟩) 0 0, .int .i64 0] 82
  simp only [World.size_alloc] at hK4
  refine Calls.kn hK4 ?_; intro w3 hK5
  refine (KR.out _ w3 ⟨some ⟨w2.heap.size, 0, none⟩, 0, B1, h1, B2, h2, B3, h3, hK5.sel [0, 2, 3, 4, 1] 99 (by decide) (by decide)⟩).mono ?_
  rintro e w4 ⟨s', b', rfl, he, hM, hg⟩
  have HE := Lib.hid he
  have HM := Lib.hid hM
  have HG := Lib.hid hg
  clear he hM hg
  go_wp2_with fail
  go_ret
  exact ⟨_, s', b', rfl, by rw [HL.out]; exact HE.out, HM.out, HG.out⟩
set_option maxRecDepth 100000 in
set_option maxHeartbeats 1600000 in
theorem l11Run_any {L : List Ins} {n lc : Nat} {LA : Option Addr} (g0 : Nat) (t : Tri) (A1 A2 A3 : Option Addr) (c1 c2 c3 : Nat) (w : World) (hT : TriC w ⟨g0, 0, none⟩ t A1 c1 A2 c2 A3 c3) (hv : vmach t = true) (hp : vprog L = true) (hr : RL InsM 2 w LA n L) :
    Calls Try.prog 70 #[.pointer (some ⟨g0, 0, none⟩), .slice LA n lc] w (RunPS L t (.slice LA n lc) w) := by
  have KC := Lib.hid (l10Own_any g0 t A1 A2 A3 c1 c2 c3 w hT (sized_of hv))
  have hlen := hr.1
  have KR := (fun g W h => runS_all (lc := lc) hp hr 3001 g [] (startR t) false 0 L.length W (by simp) rfl (startR_good hv) (Seg.all hp) h)
  rw [hlen] at KR
  have KR := Lib.hid KR
  have HL := Lib.hid hlen
  clear hT hv hp hr hlen
  go_enter Try.func70, Try.ntmps70
  go_wp2_with fail
  refine KC.out.mono ?_; rintro e w2 ⟨B1, h1, B2, h2, B3, h3, rfl, hK2⟩
  go_wp2_with fail
  have hK3 := (hK2.al [] 2).litRow (size := 1) (n := 0) rfl (by decide)
  have hK4 := hK3.al [.int .i64 t.a.base, .slice B1 t.a.digits.length h1, .int .i64 t.b.base, .slice B2 t.b.digits.length h2, .int .i64 t.s.base, .slice B3 t.s.digits.length h3, .int .i64 t.carry, .slice LA n lc, .slice (some ⟨w2.heap.size, 0, none⟩) 0 0, .int .i64 0, .bool false, .int .i64 0] 88
  simp only [World.size_alloc] at hK4
  refine Calls.kn hK4 ?_; intro w3 hK5
  refine (KR.out _ w3 ⟨some ⟨w2.heap.size, 0, none⟩, 0, B1, h1, B2, h2, B3, h3, hK5.sel [0, 2, 3, 4, 1] 99 (by decide) (by decide)⟩).mono ?_
  rintro e w4 ⟨s', b', rfl, he, hM, hg⟩
  have HE := Lib.hid he
  have HM := Lib.hid hM
  have HG := Lib.hid hg
  clear he hM hg
  go_wp2_with fail
  go_ret
  exact ⟨_, s', b', _, rfl, by rw [HL.out]; exact HE.out, HM.out, HG.out⟩
end Go.Proofs.Ytkfbfainhmkkdaa

namespace Go.Proofs.Ytkfbfainhmkkdaa
open Go.RowKit Go.Sort
instance : Inhabited RS := ⟨⟨default, [], 0, 0⟩⟩
/-- where a run ends -/
noncomputable def endR (L : List Ins) (t : Tri) : RS := Classical.epsilon (fun s' => ∃ b', Ev L (.run 0 L.length) (startR t) s' b')
theorem endR_eq {L : List Ins} {t : Tri} {s' : RS} {b' : Bool} (h : Ev L (.run 0 L.length) (startR t) s' b') : endR L t = s' := by
  obtain ⟨b2, h2⟩ := Classical.epsilon_spec (p := fun s' => ∃ b', Ev L (.run 0 L.length) (startR t) s' b') ⟨s', b', h⟩
  exact (h2.one h).1
noncomputable def rpC (L : List Ins) (t : Tri) : Int := if vmach t && vprog L then (endR L t).code else 1
noncomputable def rpM (L : List Ins) (t : Tri) : Tri := if rpC L t = 0 ∧ vmach (endR L t).m = true then (endR L t).m else zTri
noncomputable def rpT (L : List Ins) (t : Tri) : List Int := if rpC L t = 0 ∧ (endR L t).tr.length ≤ 3001 then (endR L t).tr else []
theorem rp_bad {L : List Ins} {t : Tri} (h : (vmach t && vprog L) = false) : rpC L t = 1 ∧ rpM L t = zTri ∧ rpT L t = [] := by
  have h1 : rpC L t = 1 := by unfold rpC; rw [h]; rfl
  refine ⟨h1, ?_, ?_⟩
  · unfold rpM; rw [h1, if_neg (fun h => absurd h.1 (by decide))]
  · unfold rpT; rw [h1, if_neg (fun h => absurd h.1 (by decide))]
theorem rp_code {L : List Ins} {t : Tri} (h1 : vmach t = true) (h2 : vprog L = true) {s' : RS} {b' : Bool} (h : Ev L (.run 0 L.length) (startR t) s' b') (hc : ¬ s'.code = 0) : rpC L t = s'.code ∧ rpM L t = zTri ∧ rpT L t = [] := by
  have h3 : rpC L t = s'.code := by unfold rpC; rw [h1, h2, endR_eq h]; rfl
  refine ⟨h3, ?_, ?_⟩
  · unfold rpM; rw [h3, if_neg (fun h => hc h.1)]
  · unfold rpT; rw [h3, if_neg (fun h => hc h.1)]
theorem rp_fine {L : List Ins} {t : Tri} (h1 : vmach t = true) (h2 : vprog L = true) {s' : RS} {b' : Bool} (h : Ev L (.run 0 L.length) (startR t) s' b') (hg : s'.Good) (hc : s'.code = 0) : rpC L t = 0 ∧ rpM L t = s'.m ∧ rpT L t = s'.tr := by
  have h3 : rpC L t = 0 := by unfold rpC; rw [h1, h2, endR_eq h]; exact hc
  refine ⟨h3, ?_, ?_⟩
  · unfold rpM; rw [h3, endR_eq h, if_pos ⟨rfl, hg.m⟩]
  · unfold rpT; rw [h3, endR_eq h, if_pos ⟨rfl, by have := hg.tr; have := hg.top; omega⟩]
theorem rpM_len (L : List Ins) (t : Tri) : (rpM L t).a.digits.length ≤ 16 ∧ (rpM L t).b.digits.length ≤ 16 ∧ (rpM L t).s.digits.length ≤ 16 := by
  unfold rpM
  split
  · rename_i h
    have := sized_of h.2
    exact ⟨this.a, this.b, this.s⟩
  · simp [zTri]
theorem rpT_len (L : List Ins) (t : Tri) : (rpT L t).length ≤ 3001 := by
  unfold rpT
  split
  · rename_i h; exact h.2
  · simp
/-- what RunProgram returns -/
def RPRet (L : List Ins) (t : Tri) (w : World) (e : Ending) (w' : World) : Prop := ∃ A1 c1 A2 c2 A3 c3, e = .returned (.tuple #[.agg #[.int .i64 (rpM L t).a.base, .slice A1 (rpM L t).a.digits.length c1, .int .i64 (rpM L t).b.base, .slice A2 (rpM L t).b.digits.length c2, .int .i64 (rpM L t).s.base, .slice A3 (rpM L t).s.digits.length c3, .int .i64 (rpM L t).carry], .int .i64 ((rpT L t).length : Int), .int .i64 (rpC L t)]) ∧
  Kn w [rowI A3 c3 (rpM L t).s.digits, rowI A2 c2 (rpM L t).b.digits, rowI A1 c1 (rpM L t).a.digits] w'
/-- what TraceProgram returns -/
def TPRet (L : List Ins) (t : Tri) (w : World) (e : Ending) (w' : World) : Prop := ∃ A c, e = .returned (.tuple #[.slice A (rpT L t).length c, .int .i64 (rpC L t)]) ∧ Kn w [rowI A c (rpT L t)] w'
set_option maxRecDepth 100000 in
set_option maxHeartbeats 3200000 in
theorem RunProgram_any {L : List Ins} {n lc : Nat} {LA : Option Addr} (t : Tri) (A1 A2 A3 : Option Addr) (c1 c2 c3 : Nat) (w : World) (r1 : RI w A1 t.a.digits.length t.a.digits) (r2 : RI w A2 t.b.digits.length t.b.digits) (r3 : RI w A3 t.s.digits.length t.s.digits) (hs : SmallTri t) (hr : RL InsM 2 w LA n L) (hn : n ≤ 9223372036854775807) :
    Calls Try.prog 9 #[.agg #[.int .i64 t.a.base, .slice A1 t.a.digits.length c1, .int .i64 t.b.base, .slice A2 t.b.digits.length c2, .int .i64 t.s.base, .slice A3 t.s.digits.length c3, .int .i64 t.carry], .slice LA n lc] w (RPRet L t w) := by
  have KV := (fun W (hW : Below w.heap.size w W) => ValidMachine_any t A1 A2 A3 c1 c2 c3 W (r1.below hW) (r2.below hW) (r3.below hW) hs)
  have KP := (fun W (hW : Below w.heap.size w W) => ValidProgram_any LA n lc L W (hr.below steady_InsM hW) hn)
  rcases hv : vmach t with _ | _
  · rw [hv] at KV
    have HB := Lib.hid (rp_bad (L := L) (t := t) (by rw [hv]; rfl))
    have KV := Lib.hid KV
    clear hv KP r1 r2 r3 hr hs hn
    go_enter Try.func9, Try.ntmps9
    go_wp2_with fail
    refine Calls.kn (((Kn.nil w).al [.int .i64 t.a.base, .slice A1 t.a.digits.length c1, .int .i64 t.b.base, .slice A2 t.b.digits.length c2, .int .i64 t.s.base, .slice A3 t.s.digits.length c3, .int .i64 t.carry] 28).al [.int .i64 0, .slice none 0 0, .int .i64 0, .slice none 0 0, .int .i64 0, .slice none 0 0, .int .i64 0] 28) ?_; intro w1 hK0
    simp only [World.size_alloc] at hK0
    refine (KV.out _ hK0.below).mono ?_; rintro e w2 ⟨rfl, hw⟩
    have hK1 := hK0.keep hw
    obtain ⟨x1, x2, x3, -⟩ := hK1.cells
    go_wp2_with fail
    refine bodyPost.kn (((((((hK1.st 0 (.int .i64 0)).st 1 (.slice none 0 0)).st 2 (.int .i64 0)).st 3 (.slice none 0 0)).st 4 (.int .i64 0)).st 5 (.slice none 0 0)).st 6 (.int .i64 0)) ?_; intro w6 hK6
    clear x1 x2 x3
    obtain ⟨a1, a2, a3, -⟩ := hK6.cells
    refine bodyPost_ret (v := .tuple #[.agg #[.int .i64 0, .slice none 0 0, .int .i64 0, .slice none 0 0, .int .i64 0, .slice none 0 0, .int .i64 0], .int .i64 0, .int .i64 1]) (by simp [results, Try.results9, go_sem, a1]) rfl ?_
    refine ⟨none, 0, none, 0, none, 0, by rw [HB.out.1, HB.out.2.1, HB.out.2.2]; rfl, ?_⟩
    rw [HB.out.2.1]
    exact ((hK6.bare.nilRow _ _).nilRow _ _).nilRow _ _
  rcases hp : vprog L with _ | _
  · rw [hv] at KV
    rw [hp] at KP
    have HB := Lib.hid (rp_bad (L := L) (t := t) (by rw [hv, hp]; rfl))
    have KV := Lib.hid KV
    have KP := Lib.hid KP
    clear hv hp r1 r2 r3 hr hs hn
    go_enter Try.func9, Try.ntmps9
    go_wp2_with fail
    refine Calls.kn (((Kn.nil w).al [.int .i64 t.a.base, .slice A1 t.a.digits.length c1, .int .i64 t.b.base, .slice A2 t.b.digits.length c2, .int .i64 t.s.base, .slice A3 t.s.digits.length c3, .int .i64 t.carry] 28).al [.int .i64 0, .slice none 0 0, .int .i64 0, .slice none 0 0, .int .i64 0, .slice none 0 0, .int .i64 0] 28) ?_; intro w1 hK0
    simp only [World.size_alloc] at hK0
    refine (KV.out _ hK0.below).mono ?_; rintro e w2 ⟨rfl, hw⟩
    have hK0 := hK0.keep hw
    go_wp2_with fail
    refine (KP.out _ hK0.below).mono ?_; rintro e w3 ⟨rfl, hw⟩
    have hK1 := hK0.keep hw
    obtain ⟨x1, x2, x3, -⟩ := hK1.cells
    go_wp2_with fail
    refine bodyPost.kn (((((((hK1.st 0 (.int .i64 0)).st 1 (.slice none 0 0)).st 2 (.int .i64 0)).st 3 (.slice none 0 0)).st 4 (.int .i64 0)).st 5 (.slice none 0 0)).st 6 (.int .i64 0)) ?_; intro w6 hK6
    clear x1 x2 x3
    obtain ⟨a1, a2, a3, -⟩ := hK6.cells
    refine bodyPost_ret (v := .tuple #[.agg #[.int .i64 0, .slice none 0 0, .int .i64 0, .slice none 0 0, .int .i64 0, .slice none 0 0, .int .i64 0], .int .i64 0, .int .i64 1]) (by simp [results, Try.results9, go_sem, a1]) rfl ?_
    refine ⟨none, 0, none, 0, none, 0, by rw [HB.out.1, HB.out.2.1, HB.out.2.2]; rfl, ?_⟩
    rw [HB.out.2.1]
    exact ((hK6.bare.nilRow _ _).nilRow _ _).nilRow _ _
  rw [hv] at KV
  rw [hp] at KP
  have KR := Lib.hid (fun W (hW : Below w.heap.size w W) => runProgram_any (lc := lc) t A1 A2 A3 c1 c2 c3 W (r1.below hW) (r2.below hW) (r3.below hW) hv hp (hr.below steady_InsM hW))
  have HV := Lib.hid hv
  have HP := Lib.hid hp
  have KV := Lib.hid KV
  have KP := Lib.hid KP
  clear hv hp r1 r2 r3 hr hs hn
  go_enter Try.func9, Try.ntmps9
  go_wp2_with fail
  refine Calls.kn (((Kn.nil w).al [.int .i64 t.a.base, .slice A1 t.a.digits.length c1, .int .i64 t.b.base, .slice A2 t.b.digits.length c2, .int .i64 t.s.base, .slice A3 t.s.digits.length c3, .int .i64 t.carry] 28).al [.int .i64 0, .slice none 0 0, .int .i64 0, .slice none 0 0, .int .i64 0, .slice none 0 0, .int .i64 0] 28) ?_; intro w1 hK0
  simp only [World.size_alloc] at hK0
  refine (KV.out _ hK0.below).mono ?_; rintro e w2 ⟨rfl, hw⟩
  have hK0 := hK0.keep hw
  go_wp2_with fail
  refine (KP.out _ hK0.below).mono ?_; rintro e w3 ⟨rfl, hw⟩
  have hK2 := hK0.keep hw
  obtain ⟨x1, x2, x3, y1, y2, y3, -⟩ := hK2.cells
  go_wp2_with fail
  refine (KR.out _ hK2.below).mono ?_; rintro e w4 ⟨g, s, b', rfl, he, ⟨SA, sc, B1, d1, B2, d2, B3, d3, hKr⟩, hg⟩
  have HE := Lib.hid he
  have HGD := Lib.hid hg
  clear he hg x1 x2 x3 y1 y2 y3
  have hK3 := hK2.join hKr
  clear hK2 hKr
  obtain ⟨a1, a2, a3⟩ := hK3.blkAt
  rcases hc0 : (s.code == 0) with _ | _
  · have hcn : ¬ s.code = 0 := by simpa using hc0
    have hcb : (s.code != 0) = true := by simpa using hc0
    have HB := Lib.hid (rp_code HV.out HP.out HE.out hcn)
    clear hc0 hcn
    obtain ⟨q1, q2, q3⟩ := (hK3.front 5 rfl).blkAt
    go_wp2_with fail
    have HG := Lib.hid (hK3.drew.cellIs 10 (.int .i64 s.code) rfl)
    have hK4 := (((((((hK3.front 5 rfl).st 0 (.int .i64 0)).st 1 (.slice none 0 0)).st 2 (.int .i64 0)).st 3 (.slice none 0 0)).st 4 (.int .i64 0)).st 5 (.slice none 0 0)).st 6 (.int .i64 0)
    have HS := Lib.hid (hK4.drew.drop.cellIs 10 (.int .i64 s.code) rfl)
    go_region_held3 (fun W => W.cell? ⟨g, 10, none⟩ = some (.int .i64 s.code)) (first | with_reducible exact HG.out | with_reducible exact HS.out) (fail)
    all_goals
      go_wp2_with fail
      refine bodyPost.kn hK4.drew ?_; intro w6 hK6
      clear a1 a2 a3 q1 q2 q3
      obtain ⟨a1, a2, a3, -⟩ := hK6.cells
      refine bodyPost_ret (v := .tuple #[.agg #[.int .i64 0, .slice none 0 0, .int .i64 0, .slice none 0 0, .int .i64 0, .slice none 0 0, .int .i64 0], .int .i64 0, .int .i64 s.code]) (by simp [results, Try.results9, go_sem, a1]) rfl ?_
      refine ⟨none, 0, none, 0, none, 0, by rw [HB.out.1, HB.out.2.1, HB.out.2.2]; rfl, ?_⟩
      rw [HB.out.2.1]
      exact ((hK6.bare.nilRow _ _).nilRow _ _).nilRow _ _
  · have hcn : s.code = 0 := by simpa using hc0
    have hcb : (s.code != 0) = false := by simpa using hc0
    have HB := Lib.hid (rp_fine HV.out HP.out HE.out HGD.out hcn)
    clear hc0 hcn
    obtain ⟨q1, q2, q3⟩ := (hK3.front 5 rfl).blkAt
    go_wp2_with fail
    have HG := Lib.hid (And.intro (hK3.drew.cellIs 9 (.slice SA s.tr.length sc) rfl) (box7' hK3.drew))
    have hK4 := (((((((hK3.front 5 rfl).st 0 (.int .i64 s.m.a.base)).st 1 (.slice B1 s.m.a.digits.length d1)).st 2 (.int .i64 s.m.b.base)).st 3 (.slice B2 s.m.b.digits.length d2)).st 4 (.int .i64 s.m.s.base)).st 5 (.slice B3 s.m.s.digits.length d3)).st 6 (.int .i64 s.m.carry)
    have HS := Lib.hid (And.intro (hK4.drew.drop.cellIs 9 (.slice SA s.tr.length sc) rfl) (box7' hK4.drew.drop))
    go_region_held3 (fun W => W.cell? ⟨g, 9, none⟩ = some (.slice SA s.tr.length sc) ∧ W.cell? ⟨g, 0, none⟩ = some (.int .i64 s.m.a.base) ∧ W.cell? ⟨g, 1, none⟩ = some (.slice B1 s.m.a.digits.length d1) ∧ W.cell? ⟨g, 2, none⟩ = some (.int .i64 s.m.b.base) ∧ W.cell? ⟨g, 3, none⟩ = some (.slice B2 s.m.b.digits.length d2) ∧ W.cell? ⟨g, 4, none⟩ = some (.int .i64 s.m.s.base) ∧ W.cell? ⟨g, 5, none⟩ = some (.slice B3 s.m.s.digits.length d3) ∧ W.cell? ⟨g, 6, none⟩ = some (.int .i64 s.m.carry)) (first | with_reducible exact HG.out | with_reducible exact HS.out) (fail)
    all_goals
      go_wp2_with fail
      refine bodyPost.kn hK4.drew ?_; intro w6 hK6
      clear a1 a2 a3 q1 q2 q3
      obtain ⟨a1, a2, a3, -⟩ := hK6.cells
      refine bodyPost_ret (v := .tuple #[.agg #[.int .i64 s.m.a.base, .slice B1 s.m.a.digits.length d1, .int .i64 s.m.b.base, .slice B2 s.m.b.digits.length d2, .int .i64 s.m.s.base, .slice B3 s.m.s.digits.length d3, .int .i64 s.m.carry], .int .i64 s.tr.length, .int .i64 0]) (by simp [results, Try.results9, go_sem, a1]) rfl ?_
      refine ⟨B1, d1, B2, d2, B3, d3, by rw [HB.out.1, HB.out.2.1, HB.out.2.2], ?_⟩
      rw [HB.out.2.1]
      exact hK6.sel [2, 3, 4] 99 (by decide) (by decide)
end Go.Proofs.Ytkfbfainhmkkdaa

/- rows of instructions -/
namespace Go.Proofs.Ytkfbfainhmkkdaa
open Go.RowKit Go.Sort
def cellsIns (xs : List Ins) : List Value := xs.flatMap fun x => [.int .i64 x.op, .int .i64 x.arg]
theorem cellsIns_len (xs : List Ins) : (cellsIns xs).length = xs.length * 2 := by
  induction xs with
  | nil => rfl
  | cons x xs ih => unfold cellsIns at *; rw [List.flatMap_cons, List.length_append, ih]; simp; omega
theorem cellsIns_snoc (xs : List Ins) (x : Ins) : cellsIns (xs ++ [x]) = cellsIns xs ++ [.int .i64 x.op, .int .i64 x.arg] := by simp [cellsIns]
theorem cellsIns_get : ∀ (xs : List Ins) (k : Nat) (h : k < xs.length), (cellsIns xs)[k * 2]? = some (.int .i64 xs[k].op) ∧ (cellsIns xs)[k * 2 + 1]? = some (.int .i64 xs[k].arg)
  | [], k, h => by simp at h
  | x :: xs, 0, h => by simp [cellsIns]
  | x :: xs, k + 1, h => by
    have h1 := cellsIns_get xs k (by simpa using h)
    have h2 : cellsIns (x :: xs) = .int .i64 x.op :: .int .i64 x.arg :: cellsIns xs := by simp [cellsIns]
    rw [h2, show (k + 1) * 2 = k * 2 + 1 + 1 by omega]
    simp only [List.getElem?_cons_succ, List.getElem_cons_succ]
    exact h1
theorem cellsIns_one (xs : List Ins) : ∀ u ∈ cellsIns xs, u.oneCell' = true := by
  intro u hu
  obtain ⟨x, -, h⟩ := List.mem_flatMap.1 hu
  simp at h
  rcases h with rfl | rfl <;> rfl
def rowIns (v : Value) (xs : List Ins) : Ent := .row v 46 2 xs.length (cellsIns xs)
theorem tpIns : TP 29 46 (.agg #[.int .i64 0, .int .i64 0]) 2 16 := ⟨Try.underlying29, by kernel_rfl, rfl, by decide⟩
theorem Kn.rlIns {w0 w : World} {m : List Ent} {A : Option Addr} {n c : Nat} {xs : List Ins} (h : Kn w0 (rowIns (.slice A n c) xs :: m) w) : n = xs.length ∧ RL InsM 2 w A n xs := by
  have h0 : w.ownsRow 0 46 2 (.slice A n c) xs.length (cellsIns xs) := h.at0
  rcases h0.2 with ⟨hv, hn⟩ | ⟨g, cap, cur, hv, -, hg, -⟩
  · injection hv with h1 h2 h3
    exact ⟨by omega, by omega, fun h => by omega⟩
  · injection hv with h1 h2 h3
    refine ⟨h2, h2.symm, fun h => ⟨_, h1, (Array.getElem?_eq_some_iff.1 hg).1, fun k hk => ?_⟩⟩
    obtain ⟨c1, c2⟩ := cellsIns_get xs k hk
    rw [h1] at h0
    have d1 := h0.cells (g := g) rfl _ _ c1
    have d2 := h0.cells (g := g) rfl _ _ c2
    refine ⟨d1, ?_⟩
    rw [add_zero_block] at d2 ⊢
    exact d2
theorem Kn.nilIns {w0 w : World} {m : List Ent} (h : Kn w0 m w) : Kn w0 (rowIns (.slice none 0 0) [] :: m) w := h.nilRow _ _
end Go.Proofs.Ytkfbfainhmkkdaa

namespace Go.Proofs.Ytkfbfainhmkkdaa
open Go.RowKit Go.Sort
theorem cellsIns_app (xs ys : List Ins) : cellsIns (xs ++ ys) = cellsIns xs ++ cellsIns ys := by simp [cellsIns]
theorem kn_pushIns {ops : Array Oper} {rest : List Oper} {o : Oper} {a : Act} {Q : Exit → Act → World → Prop} {w0 w : World} {m : List Ent} (hgd : o.guard = none) (s x : Operand) (ho : o.op = .call { callee := .builtin .append, args := #[s, x], argTypes := #[29, 29] })
    (v : Value) (xs ys : List Ins) (hs : a.eval s = v) {g c : Nat} {T' : TypeId} (hx : a.eval x = .slice (some ⟨g, 0, none⟩) ys.length c)
    (hK : Kn w0 (.blk g (cellsIns ys) T' :: rowIns v xs :: m) w) (hl : xs.length + ys.length ≤ 10000000)
    (h : ∀ v' w', Kn w0 (rowIns v' (xs ++ ys) :: m) w' → wpList Try.prog ops Q rest (a.put o.dst v') w') : wpList Try.prog ops Q (o :: rest) a w := by
  refine kn_app tpIns hgd s x ho v xs.length (cellsIns xs) hs hx hK (cellsIns_len ys) (cellsIns_one ys) (by omega) (by omega) (fun v' w' hK' => h v' w' ?_)
  unfold rowIns
  rw [List.length_append, cellsIns_app]
  exact hK'
/-- the program that divides -/
def divHead (p : Nat) : List Ins := if 1 < p then [⟨4, (p : Int) - 1⟩] else []
def divPart (p j : Nat) : List Ins := [⟨9, 0⟩, ⟨3, 1⟩, ⟨10, 0⟩, ⟨2, 1⟩] ++ (if j + 1 < p then [⟨5, 1⟩] else [])
def divUpto (p : Nat) : Nat → List Ins
  | 0 => divHead p
  | j + 1 => divUpto p j ++ divPart p j
def divProg (p : Nat) : List Ins := divUpto p p
theorem divUpto_len (p j : Nat) : (divUpto p j).length ≤ 1 + 5 * j := by
  induction j with
  | zero => simp only [divUpto, divHead]; split <;> simp
  | succ j ih => simp only [divUpto, divPart, List.length_append]; split <;> simp <;> omega
theorem divProg_ok {p : Nat} (h1 : 1 ≤ p) (h2 : p ≤ 16) : vprog (divProg p) = true := by
  have H : ∀ p : Fin 17, 1 ≤ p.val → vprog (divProg p.val) = true := by decide +kernel
  exact H ⟨p, by omega⟩ h1
end Go.Proofs.Ytkfbfainhmkkdaa

namespace Go.Proofs.Ytkfbfainhmkkdaa
open Go.RowKit Go.Sort
/-- a fresh machine of a base and widths -/
def newT (b : Int) (n1 n2 n3 : Nat) : Tri := ⟨⟨b, digD b n1 0⟩, ⟨b, digD b n2 0⟩, ⟨b, digD b n3 0⟩, 0⟩
set_option maxRecDepth 100000 in
set_option maxHeartbeats 1600000 in
theorem l10New_any (b : Int) (n1 n2 n3 : Nat) (w : World) (b1 : 2 ≤ b) (b2 : b ≤ 16) (h1 : n1 ≤ 1000000) (h2 : n2 ≤ 1000000) (h3 : n3 ≤ 1000000) :
    Calls Try.prog 165 #[.int .i64 b, .int .i64 n1, .int .i64 n2, .int .i64 n3] w fun e w' => ∃ E1 g1 E2 g2 E3 g3, e = .returned (.agg #[.int .i64 b, .slice E1 (digD b n1 0).length g1, .int .i64 b, .slice E2 (digD b n2 0).length g2, .int .i64 b, .slice E3 (digD b n3 0).length g3, .int .i64 0]) ∧
      Kn w [rowI E3 g3 (digD b n3 0), rowI E2 g2 (digD b n2 0), rowI E1 g1 (digD b n1 0)] w' := by
  have K1 := (fun W => l02NewV_any b n1 0 W b1 b2 h1 (by decide) (by decide))
  have K2 := (fun W => l02NewV_any b n2 0 W b1 b2 h2 (by decide) (by decide))
  have K3 := (fun W => l02NewV_any b n3 0 W b1 b2 h3 (by decide) (by decide))
  obtain ⟨x1, hx1⟩ : ∃ x, digD b n1 0 = x := ⟨_, rfl⟩
  obtain ⟨x2, hx2⟩ : ∃ x, digD b n2 0 = x := ⟨_, rfl⟩
  obtain ⟨x3, hx3⟩ : ∃ x, digD b n3 0 = x := ⟨_, rfl⟩
  rw [hx1] at K1 ⊢
  rw [hx2] at K2 ⊢
  rw [hx3] at K3 ⊢
  have K1 := Lib.hid K1
  have K2 := Lib.hid K2
  have K3 := Lib.hid K3
  clear hx1 hx2 hx3
  go_enter Try.func165, Try.ntmps165
  go_wp2_with fail
  refine Calls.kn ((Kn.nil w).al [.int .i64 0, .slice none 0 0, .int .i64 0, .slice none 0 0, .int .i64 0, .slice none 0 0, .int .i64 0] 28) ?_; intro w1 hK1
  (with_reducible refine (K1.out _).mono ?_); rintro e w2 ⟨E1, g1, rfl, hKn⟩
  have hK2 := hK1.join hKn
  go_wp2_with fail
  refine Calls.kn (hK2.al [.int .i64 b, .slice E1 x1.length g1] 26) ?_; intro w3 hK3
  (with_reducible refine (K2.out _).mono ?_); rintro e w4 ⟨E2, g2, rfl, hKm⟩
  have hK4 := hK3.join hKm
  go_wp2_with fail
  refine Calls.kn (hK4.al [.int .i64 b, .slice E2 x2.length g2] 26) ?_; intro w5 hK5
  (with_reducible refine (K3.out _).mono ?_); rintro e w6 ⟨E3, g3, rfl, hKo⟩
  have hK6 := hK5.join hKo
  clear hK1 hK2 hK3 hK4 hK5 hKn hKm hKo
  obtain ⟨a1, a2, a3, d1, d2, d3, c1, c2, c3, -⟩ := hK6.cells
  go_wp2_with fail
  refine bodyPost.kn ((((((((hK6.front 5 rfl).st 0 (.int .i64 b)).st 1 (.slice E1 x1.length g1)).st 2 (.int .i64 b)).st 3 (.slice E2 x2.length g2)).st 4 (.int .i64 b)).st 5 (.slice E3 x3.length g3)).st 6 (.int .i64 0) |>.al_ _) ?_; intro w7 hK7
  clear a1 a2 a3 d1 d2 d3 c1 c2 c3
  obtain ⟨a1, a2, a3, -⟩ := hK7.cells
  refine bodyPost_ret (v := .agg #[.int .i64 b, .slice E1 x1.length g1, .int .i64 b, .slice E2 x2.length g2, .int .i64 b, .slice E3 x3.length g3, .int .i64 0]) (by simp [results, Try.results165, go_sem, a1]) rfl ⟨E1, g1, E2, g2, E3, g3, rfl, ?_⟩
  exact hK7.sel [1, 3, 5] 99 (by decide) (by decide)
end Go.Proofs.Ytkfbfainhmkkdaa
