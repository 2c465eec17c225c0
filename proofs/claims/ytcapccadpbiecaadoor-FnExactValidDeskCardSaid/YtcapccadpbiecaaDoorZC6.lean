/- Part 6: lemmas and contracts of the claim's functions. -/
import Derived.Test.YtcapccadpbiecaaDoorZC1
import Derived.Test.YtcapccadpbiecaaDoorZC2
import Derived.Test.YtcapccadpbiecaaDoorZC3
import Derived.Test.YtcapccadpbiecaaDoorZC4
import Derived.Test.YtcapccadpbiecaaDoorZC5
import Derived.Deep.DrawnRows
import Derived.Deep.LoopGhost
import Derived.Deep.DeepCutAuto
namespace Go.Proofs.YtcapccadpbiecaaDoor
open Go.RowKit Go.Sort
theorem kn_stepS {ops : Array Oper} {o : Oper} {a : Act} {Q : Exit → Act → World → Prop} {w0 w : World} {m : List Ent} {K : Act → World → Prop} {E : Prop} (hgd : o.guard = none) (s x : Operand) (ho : o.op = .call { callee := .builtin .append, args := #[s, x], argTypes := #[22, 22] })
    (v : Value) (ss : List ByteArray) (hs : a.eval s = v) {g c : Nat} {T' : TypeId} {z : ByteArray} (hx : a.eval x = .slice (some ⟨g, 0, none⟩) 1 c)
    (hK : Kn w0 (.blk g [.string z] T' :: rowS v ss :: m) w) (hl : ss.length ≤ 10000000)
    (h : ∀ v' w', Kn w0 (rowS v' (ss ++ [z]) :: m) w' → K (a.put o.dst v') w') : if Region.wanted o (yielded ops a.tmps) = true then Oper.wp Tryd.prog o a w K Q else E := by
  refine kn_step_app tpS hgd s x ho v ss.length (ss.map Value.string) hs hx hK rfl (by simp [Value.oneCell']) (by omega) (by omega) (fun v' w' hK' => h v' w' ?_)
  unfold rowS
  rw [List.length_append, List.map_append, List.map_cons, List.map_nil]
  exact hK'
theorem cutY_len (p l : List UInt8) : (cutY p l).length ≤ l.length := by
  unfold cutY
  cases h : cutB p l with
  | none => exact Nat.zero_le _
  | some q => have := cutB_len p l q h; simp; omega
/-- what has been read, as the implementation keeps it -/
def JI (w0 : World) (g : Nat) (j : JS) (w : World) : Prop := ∃ A c ss, ss.map strB = j.notes ∧ Kn w0 [.blk g [.slice A ss.length c, .int .i64 j.sum, .int .i64 j.size] 125, rowS (.slice A ss.length c) ss] w
theorem JI.keep {w0 w w' : World} {g : Nat} {j : JS} (h : JI w0 g j w) (hb : Below w.heap.size w w') : JI w0 g j w' := by
  obtain ⟨A, c, ss, h1, h2⟩ := h
  exact ⟨A, c, ss, h1, h2.keep hb⟩
theorem jstep_eq {sum : Int} {n : Nat} {rest : List UInt8} {q : List UInt8 × List UInt8} {x y2 y3 : ByteArray} (h1 : cutB [10] rest = some q) (hx : strB x = q.1) (hy2 : strB y2 = cutY [32] (strB x)) (hy3 : strB y3 = cutY [32] (strB y2)) :
    jstep sum n rest = if (cutB [32] (strB x)).isSome && ((cutB [32] (strB y2)).isSome && (noteOk (strB y3) && ((jlineB sum n y3).toList == (x ++ (⟨#[10]⟩ : ByteArray)).toList))) then some (strB y3) else none := by
  have hl : ((jlineB sum n y3).toList == (x ++ (⟨#[10]⟩ : ByteArray)).toList) = (jline sum n (strB y3) == strB x ++ [10]) := by
    rw [strB_toList, strB_toList, strB_jlineB]
    rfl
  rw [hl]
  unfold jstep
  rw [h1, Option.bind_some, ← hx]
  cases h2 : cutB [32] (strB x) with
  | none => rfl
  | some r =>
    rw [cutY, h2] at hy2
    simp only [Option.map_some, Option.getD_some] at hy2
    rw [Option.bind_some, ← hy2]
    cases h3 : cutB [32] (strB y2) with
    | none => simp
    | some t =>
      rw [cutY, h3] at hy3
      simp only [Option.map_some, Option.getD_some] at hy3
      rw [Option.bind_some, hy3]
      simp
set_option maxRecDepth 100000 in
set_option maxHeartbeats 3200000 in
theorem readJournal_any (s : ByteArray) (w : World) (hs : s.size ≤ 4000) (ht : TB w) :
    Calls Tryd.prog 160 #[.string s] w fun e w' => ∃ g, e = .returned (.pointer (some ⟨g, 0, none⟩)) ∧ JI w g (jall (strB s)) w' := by
  have HSL := Lib.hid (strB_len s)
  have HTB := Lib.hid (fun W (hW : Below w.heap.size w W) => TB.below ht hW)
  obtain ⟨RES, hRES⟩ : ∃ r, jall (strB s) = r := ⟨_, rfl⟩
  rw [hRES]
  have HRES := Lib.hid hRES
  clear hRES ht
  have hK0 := (((Kn.nil w).al [] 9).al [.slice (some ⟨w.heap.size, 0, none⟩) 0 0, .int .i64 0, .int .i64 0] 125)
  simp only [World.size_alloc] at hK0
  have hK1 := ((hK0.front 1 rfl).litRow (n := 0) (size := 1) rfl (by decide)).sel [1, 0] 9 (by decide) (by decide)
  clear hK0
  go_enter Tryd.func160, Tryd.ntmps160
  go_wp2_with fail
  obtain ⟨g, hg⟩ : ∃ g, w.heap.size + 1 = g := ⟨_, rfl⟩
  rw [hg] at hK1
  simp only [hg]
  go_loopg [4] (s.size + 1) (fun gk _ wr => ∃ j : JS, Hid (jread ((strB s).drop j.size) j = RES) ∧ j.notes.length ≤ j.size ∧ j.size ≤ s.size ∧ gk = s.size + 1 - j.size ∧ JI w g j wr)
  case atStart => exact ⟨⟨[], 0, 0⟩, HRES.out, Nat.le_refl _, Nat.zero_le _, rfl, _, _, [], rfl, hK1⟩
  case round =>
    clear hK1
    obtain ⟨j, HJ, hn, hz, hgk, A, c, ss, hss, hK⟩ := hrel
    have hnl : ss.length = j.notes.length := by rw [← hss, List.length_map]
    have HGK := Lib.hid hgk
    have hts := HTB.out _ hK.below
    have HC1 := cut_any (s.extract j.size s.size) (⟨#[10]⟩ : ByteArray) wr (by rw [extract_size]; omega) (by decide) (by decide)
    rw [strB_drop, show strB (⟨#[10]⟩ : ByteArray) = [10] from rfl] at HC1
    rcases hc1 : cutB [10] ((strB s).drop j.size) with _ | q
    · have HN := Lib.hid (show jread ((strB s).drop j.size) j = j from jread_none (by unfold jstep; rw [hc1]; rfl))
      rw [hc1] at HC1
      have HC1 := Lib.hid HC1
      have c2 := hK.blkAt.1 2
      clear hc1
      go_wp2_with (go_at_call 189; with_reducible refine (HC1.out).mono ?_; rintro e w1 ⟨x, y, rfl, hx, hy, hw⟩)
      go_ret
      exact ⟨g, rfl, by rw [← HJ.out, HN.out]; exact ⟨A, c, ss, hss, hK.keep hw⟩⟩
    · rw [hc1] at HC1
      have HC1 := Lib.hid HC1
      have HQ := Lib.hid hc1
      clear hc1
      have c2 := hK.blkAt.1 2
      go_wp2_with (go_at_call 189; with_reducible refine (HC1.out).mono ?_; rintro e w1 ⟨x, y, rfl, hx, -, hw⟩)
      replace hx : strB x = q.1 := by rw [hx, cutX, HQ.out]; rfl
      have hxz : x.size ≤ 4000 := by
        have h1 := cutB_len _ _ _ HQ.out
        rw [List.length_drop, HSL.out] at h1
        rw [← strB_len, hx]; omega
      have HX := Lib.hid hx
      clear c2 hx
      have hK1 := hK.keep hw
      clear hK hw
      have HC2 := cut_any x (⟨#[32]⟩ : ByteArray) w1 (by omega) (by decide) (by decide)
      rw [show strB (⟨#[32]⟩ : ByteArray) = [32] from rfl] at HC2
      obtain ⟨b2, hb2⟩ : ∃ b, (cutB [32] (strB x)).isSome = b := ⟨_, rfl⟩
      rw [hb2] at HC2
      replace HC2 := Lib.hid HC2
      have HB2 := Lib.hid hb2
      clear hb2
      go_wp2_with (go_at_call 189; with_reducible refine (HC2.out).mono ?_; rintro e w2 ⟨x2, y2, rfl, -, hy2, hw⟩)
      have hyz : y2.size ≤ 4000 := by
        have h1 := cutY_len [32] (strB x)
        rw [strB_len] at h1
        rw [← strB_len, hy2]; omega
      have HY2 := Lib.hid hy2
      clear hy2
      have hK2 := hK1.keep hw
      clear hK1 hw
      have HC3 := cut_any y2 (⟨#[32]⟩ : ByteArray) w2 (by omega) (by decide) (by decide)
      rw [show strB (⟨#[32]⟩ : ByteArray) = [32] from rfl] at HC3
      obtain ⟨b3, hb3⟩ : ∃ b, (cutB [32] (strB y2)).isSome = b := ⟨_, rfl⟩
      rw [hb3] at HC3
      replace HC3 := Lib.hid HC3
      have HB3 := Lib.hid hb3
      clear hb3
      go_wp2_with (go_at_call 189; with_reducible refine (HC3.out).mono ?_; rintro e w3 ⟨x3, y3, rfl, -, hy3, hw⟩)
      have hyz3 : y3.size ≤ 4000 := by
        have h1 := cutY_len [32] (strB y2)
        rw [strB_len] at h1
        rw [← strB_len, hy3]; omega
      have HY3 := Lib.hid hy3
      clear hy3
      have hK3 := hK2.keep hw
      clear hK2 hw
      have HNX := next_any y3 j.sum ss.length g A c w3 (hK3.blkAt.1 0) (hK3.blkAt.1 1) (by omega) (by omega) (HTB.out _ hK3.below)
      have HIN := (fun W => isNote_any y3 W (by omega))
      have HST := Lib.hid (jstep_eq (sum := j.sum) (n := ss.length) HQ.out HX.out HY2.out HY3.out)
      have hdz := jline_len j.sum ss.length (by omega) (strB y3)
      rw [← jlineB_size, strB_len] at hdz
      obtain ⟨D, hD⟩ : ∃ D, jlineB j.sum ss.length y3 = D := ⟨_, rfl⟩
      rw [hD] at HNX HST hdz
      have HD := Lib.hid hD
      clear hD
      obtain ⟨S, hS⟩ : ∃ S, nsum j.sum ((ss.length : Int) + 1) (strB y3) = S := ⟨_, rfl⟩
      rw [hS] at HNX
      have HS := Lib.hid hS
      clear hS
      obtain ⟨ok, hok⟩ : ∃ b, noteOk (strB y3) = b := ⟨_, rfl⟩
      rw [hok] at HIN HST
      rw [HB2.out, HB3.out] at HST
      replace HNX := Lib.hid HNX
      replace HIN := Lib.hid HIN
      rcases b2 with _ | _
      · go_wp2_with (first | (go_at_call 171; with_reducible refine (HNX.out).mono ?_; rintro e w4 ⟨rfl, hw⟩) | (go_at_call 170; with_reducible refine (HIN.out _).mono ?_; rintro e w5 ⟨rfl, rfl⟩))
        go_ret
        have hK4 := hK3.keep hw
        have hst := HST.out
        rw [Bool.false_and, if_neg (by decide), hnl] at hst
        exact ⟨g, rfl, by rw [← HJ.out, jread_none hst]; exact ⟨A, c, ss, hss, hK4⟩⟩
      rcases b3 with _ | _
      · go_wp2_with (first | (go_at_call 171; with_reducible refine (HNX.out).mono ?_; rintro e w4 ⟨rfl, hw⟩) | (go_at_call 170; with_reducible refine (HIN.out _).mono ?_; rintro e w5 ⟨rfl, rfl⟩))
        go_ret
        have hK4 := hK3.keep hw
        have hst := HST.out
        rw [Bool.true_and, Bool.false_and, if_neg (by decide), hnl] at hst
        exact ⟨g, rfl, by rw [← HJ.out, jread_none hst]; exact ⟨A, c, ss, hss, hK4⟩⟩
      rcases ok with _ | _
      · go_wp2_with (first | (go_at_call 171; with_reducible refine (HNX.out).mono ?_; rintro e w4 ⟨rfl, hw⟩) | (go_at_call 170; with_reducible refine (HIN.out _).mono ?_; rintro e w5 ⟨rfl, rfl⟩))
        go_ret
        have hK4 := hK3.keep hw
        have hst := HST.out
        rw [Bool.true_and, Bool.true_and, Bool.false_and, if_neg (by decide), hnl] at hst
        exact ⟨g, rfl, by rw [← HJ.out, jread_none hst]; exact ⟨A, c, ss, hss, hK4⟩⟩
      rcases hq : (D.toList == (x ++ (⟨#[10]⟩ : ByteArray)).toList) with _ | _
      · go_wp2_with (first | (go_at_call 171; with_reducible refine (HNX.out).mono ?_; rintro e w4 ⟨rfl, hw⟩) | (go_at_call 170; with_reducible refine (HIN.out _).mono ?_; rintro e w5 ⟨rfl, rfl⟩))
        go_ret
        have hK4 := hK3.keep hw
        have hst := HST.out
        rw [hq] at hst
        rw [Bool.true_and, Bool.true_and, Bool.true_and, if_neg (by decide), hnl] at hst
        exact ⟨g, rfl, by rw [← HJ.out, jread_none hst]; exact ⟨A, c, ss, hss, hK4⟩⟩
      have hst := HST.out
      rw [hq, Bool.true_and, Bool.true_and, Bool.true_and, if_pos rfl] at hst
      rw [hnl] at hst
      have hdl := (jstep_some hst).2.2
      have hnx := jread_some hst
      rw [← hnl, HS.out, ← jlineB_size, HD.out, List.drop_drop] at hnx
      rw [List.length_drop, HSL.out, ← hnl, ← jlineB_size, HD.out] at hdl
      have HNXT := Lib.hid (show jread ((strB s).drop (j.size + D.size)) ⟨j.notes ++ [strB y3], S, j.size + D.size⟩ = RES by rw [← hnx]; exact HJ.out)
      have HNL := Lib.hid hnl
      have hn4 : ss.length ≤ 4000 := by omega
      clear hst hnx hnl
      go_wp2_with (first | (go_at_call 171; with_reducible refine (HNX.out).mono ?_; rintro e w4 ⟨rfl, hw⟩) | (go_at_call 170; with_reducible refine (HIN.out _).mono ?_; rintro e w5 ⟨rfl, rfl⟩))
      have hK5 := (hK3.keep hw).sel [1, 0] 9 (by decide) (by decide)
      obtain ⟨ss', hss'⟩ : ∃ l, ss ++ [y3] = l := ⟨_, rfl⟩
      have HSS := Lib.hid hss'
      clear hss'
      have hl10 : ss.length ≤ 10000000 := by omega
      have hwr : IntKind.i64.wrap ((j.size : Int) + (D.size : Int)) = (j.size : Int) + (D.size : Int) := wrapI (by omega)
      have hA : Kn w (.blk w4.heap.size [.string y3] 9 :: rowS (.slice A ss.length c) ss :: _) _ := (hK5.al [.string y3] 9).drew
      obtain ⟨b1, b2, b3, -⟩ := hK5.cells
      go_region_law (refine kn_stepS (by rfl) _ _ (by rfl) (.slice A ss.length c) ss (by rfl) (by rfl) hA hl10 ?_; intro v5 w6 hK9; rw [HSS.out] at hK9; obtain ⟨A5, c5, rfl⟩ := row_form hK9.at0; clear b1 b2 b3; obtain ⟨x1, x2, x3, -⟩ := hK9.cells)
      all_goals
        have hKb := (((hK9.front 1 rfl).st 0 (.slice A5 ss'.length c5)).st 1 (.int .i64 S)).st 2 (.int .i64 ((j.size : Int) + (D.size : Int)))
        go_wp2_with fail
        go_roundg (s.size + 1 - (j.size + D.size))
        case measure => have := HGK.out; omega
        case rel =>
          refine ⟨⟨j.notes ++ [strB y3], S, j.size + D.size⟩, HNXT, ?_, ?_, rfl, A5, c5, ss', ?_, ?_⟩
          · simp only [List.length_append, List.length_cons, List.length_nil]; omega
          · show j.size + D.size ≤ s.size; omega
          · rw [← HSS.out, List.map_append, hss]; rfl
          · rw [show (((⟨j.notes ++ [strB y3], S, j.size + D.size⟩ : JS).size : Nat) : Int) = (j.size : Int) + (D.size : Int) from Int.natCast_add _ _]
            have hKc : Kn w [.blk g [.slice A5 ss'.length c5, .int .i64 S, .int .i64 ((j.size : Int) + (D.size : Int))] 125, rowS (.slice A5 ss'.length c5) ss'] _ := hKb.sel [0, 1] 9 (by decide) (by decide)
            clear hKb hA hK9 HST HNX HIN
            exact hKc
end Go.Proofs.YtcapccadpbiecaaDoor

namespace Go.Proofs.YtcapccadpbiecaaDoor
open Go.RowKit Go.Sort
/-- what a whole journal's reading gives: a journal where the code is 0 -/
def WJ (w0 : World) (s : ByteArray) (v : Value) (w : World) : Prop := (jcode (strB s) ≠ 0 ∧ v = .pointer none ∧ Below w0.heap.size w0 w) ∨ (jcode (strB s) = 0 ∧ ∃ g, v = .pointer (some ⟨g, 0, none⟩) ∧ JI w0 g (jall (strB s)) w)
theorem JI.below {w0 w : World} {g : Nat} {j : JS} (h : JI w0 g j w) : Below w0.heap.size w0 w := by
  obtain ⟨A, c, ss, h1, h2⟩ := h
  exact h2.below
theorem jread_size (rest : List UInt8) (j : JS) : (jread rest j).size ≤ j.size + rest.length := by
  induction h : rest.length using Nat.strongRecOn generalizing rest j with
  | _ n ih =>
    subst h
    cases h1 : jstep j.sum j.notes.length rest with
    | none => rw [jread_none h1]; omega
    | some note =>
      have h2 := jstep_some h1
      rw [jread_some h1]
      have h3 := ih _ (by rw [List.length_drop]; omega) (rest.drop (jline j.sum j.notes.length note).length) ⟨j.notes ++ [note], nsum j.sum ((j.notes.length : Int) + 1) note, j.size + (jline j.sum j.notes.length note).length⟩ rfl
      rw [List.length_drop] at h3
      simp only at h3
      omega
theorem jall_size (bs : List UInt8) : (jall bs).size ≤ bs.length := by
  have := jread_size bs ⟨[], 0, 0⟩
  simpa [jall] using this
set_option maxRecDepth 100000 in
set_option maxHeartbeats 1600000 in
theorem wholeJournal_any (s : ByteArray) (w : World) (hs : s.size ≤ 9223372036854775807) (ht : TB w) :
    Calls Tryd.prog 86 #[.string s] w fun e w' => ∃ v, e = .returned (.tuple #[v, .int .i64 (jcode (strB s))]) ∧ WJ w s v w' := by
  have HJC := Lib.hid (show jcode (strB s) = if s.size > 4000 then 5 else if (jall (strB s)).size = s.size then 0 else 8 by unfold jcode; rw [strB_len])
  have HJZ := Lib.hid (show (jall (strB s)).size ≤ s.size by rw [← strB_len]; exact jall_size _)
  go_enter Tryd.func86, Tryd.ntmps86
  by_cases h4 : s.size > 4000
  · have i1 : (4000 : Int) < (s.size : Int) := by omega
    have hj := HJC.out
    rw [if_pos h4] at hj
    go_wp2_with fail
    refine bodyPost_ret (v := .tuple #[.pointer none, .int .i64 5]) (by simp [results, Tryd.results86, go_sem]) rfl ⟨.pointer none, by rw [hj], .inl ⟨by rw [hj]; decide, rfl, Below.refl _ _⟩⟩
  · have i1 : ¬ (4000 : Int) < (s.size : Int) := by omega
    have KR := Lib.hid (readJournal_any s w (by omega) ht)
    obtain ⟨J, hJ0⟩ : ∃ J, jall (strB s) = J := ⟨_, rfl⟩
    rw [hJ0] at KR HJC HJZ
    have hjz := HJZ.out
    have HJ0 := Lib.hid hJ0
    clear hJ0
    by_cases h5 : J.size = s.size
    · have hj := HJC.out
      rw [if_neg h4, if_pos h5] at hj
      have HJ5 := Lib.hid hj
      have i2 : ¬ (J.size : Int) < (s.size : Int) := by omega
      clear hj h5
      go_wp2_with fail
      refine KR.out.mono ?_; rintro e w1 ⟨g, rfl, hJ⟩; have HJ := Lib.hid hJ; obtain ⟨A, c, ss, -, hK⟩ := hJ; have c2 := hK.blkAt.1 2
      go_wp2_with fail
      refine bodyPost_ret (v := .tuple #[.pointer (some ⟨g, 0, none⟩), .int .i64 0]) (by simp [results, Tryd.results86, go_sem]) rfl ⟨.pointer (some ⟨g, 0, none⟩), by rw [HJ5.out], .inr ⟨HJ5.out, g, rfl, by rw [HJ0.out]; exact HJ.out⟩⟩
    · have hj := HJC.out
      rw [if_neg h4, if_neg h5] at hj
      have HJ5 := Lib.hid hj
      have i2 : (J.size : Int) < (s.size : Int) := by omega
      clear hj h5
      go_wp2_with fail
      refine KR.out.mono ?_; rintro e w1 ⟨g, rfl, hJ⟩; have HJ := Lib.hid hJ; obtain ⟨A, c, ss, -, hK⟩ := hJ; have c2 := hK.blkAt.1 2
      go_wp2_with fail
      refine bodyPost_ret (v := .tuple #[.pointer none, .int .i64 8]) (by simp [results, Tryd.results86, go_sem]) rfl ⟨.pointer none, by rw [HJ5.out], .inl ⟨by rw [HJ5.out]; decide, rfl, HJ.out.below⟩⟩
end Go.Proofs.YtcapccadpbiecaaDoor

namespace Go.Proofs.YtcapccadpbiecaaDoor
open Go.RowKit Go.Sort
theorem jread_notes (rest : List UInt8) (j : JS) (h0 : j.notes.length ≤ j.size) : (jread rest j).notes.length ≤ (jread rest j).size := by
  induction h : rest.length using Nat.strongRecOn generalizing rest j with
  | _ n ih =>
    subst h
    cases h1 : jstep j.sum j.notes.length rest with
    | none => rw [jread_none h1]; exact h0
    | some note =>
      have h2 := jstep_some h1
      rw [jread_some h1]
      refine ih _ (by rw [List.length_drop]; omega) _ _ ?_ rfl
      simp only [List.length_append, List.length_cons, List.length_nil]
      omega
theorem jcode_zero {bs : List UInt8} (h : jcode bs = 0) : bs.length ≤ 4000 ∧ (jall bs).size = bs.length ∧ (jall bs).notes.length ≤ 4000 := by
  unfold jcode at h
  split at h
  · cases h
  · split at h
    · rename_i h1 h2
      have := jread_notes bs ⟨[], 0, 0⟩ (Nat.le_refl _)
      refine ⟨by omega, h2, ?_⟩
      show (jread bs ⟨[], 0, 0⟩).notes.length ≤ 4000
      have h3 : (jread bs ⟨[], 0, 0⟩).size = bs.length := h2
      omega
    · cases h
/-- what the appending of a note gives -/
def anC (S N : List UInt8) : Int := if jcode S ≠ 0 then jcode S else if noteOk N = false then 7 else if S.length + (jline (jall S).sum (jall S).notes.length N).length > 4000 then 5 else 0
def anT (s note : ByteArray) : ByteArray := if anC (strB s) (strB note) = 0 then s ++ jlineB (jall (strB s)).sum (jall (strB s)).notes.length note else ⟨#[]⟩
theorem an_bad {s note : ByteArray} (h : jcode (strB s) ≠ 0) : anC (strB s) (strB note) = jcode (strB s) ∧ anT s note = ⟨#[]⟩ := by
  have h1 : anC (strB s) (strB note) = jcode (strB s) := by unfold anC; rw [if_pos h]
  exact ⟨h1, by unfold anT; rw [h1, if_neg h]⟩
theorem an_note {s note : ByteArray} (h : jcode (strB s) = 0) (h2 : noteOk (strB note) = false) : anC (strB s) (strB note) = 7 ∧ anT s note = ⟨#[]⟩ := by
  have h1 : anC (strB s) (strB note) = 7 := by unfold anC; rw [if_neg (fun h' => h' h), if_pos h2]
  exact ⟨h1, by unfold anT; rw [h1, if_neg (by decide)]⟩
theorem an_full {s note : ByteArray} (h : jcode (strB s) = 0) (h2 : noteOk (strB note) = true) (h3 : s.size + (jlineB (jall (strB s)).sum (jall (strB s)).notes.length note).size > 4000) : anC (strB s) (strB note) = 5 ∧ anT s note = ⟨#[]⟩ := by
  have h1 : anC (strB s) (strB note) = 5 := by
    unfold anC; rw [if_neg (fun h' => h' h), if_neg (by rw [h2]; decide), if_pos (by rw [strB_len, ← jlineB_size]; exact h3)]
  exact ⟨h1, by unfold anT; rw [h1, if_neg (by decide)]⟩
theorem an_fine {s note : ByteArray} (h : jcode (strB s) = 0) (h2 : noteOk (strB note) = true) (h3 : ¬ s.size + (jlineB (jall (strB s)).sum (jall (strB s)).notes.length note).size > 4000) : anC (strB s) (strB note) = 0 ∧ anT s note = s ++ jlineB (jall (strB s)).sum (jall (strB s)).notes.length note := by
  have h1 : anC (strB s) (strB note) = 0 := by
    unfold anC; rw [if_neg (fun h' => h' h), if_neg (by rw [h2]; decide), if_neg (by rw [strB_len, ← jlineB_size]; exact h3)]
  exact ⟨h1, by unfold anT; rw [h1, if_pos rfl]⟩
set_option maxRecDepth 100000 in
set_option maxHeartbeats 1600000 in
theorem AppendNote_any (s note : ByteArray) (w : World) (hs : s.size ≤ 9223372036854775807) (hn : note.size ≤ 1048576) (ht : TB w) :
    Calls Tryd.prog 97 #[.string s, .string note] w fun e w' => e = .returned (.tuple #[.string (anT s note), .int .i64 (anC (strB s) (strB note))]) ∧ Below w.heap.size w w' := by
  have HTB := Lib.hid (fun W (hW : Below w.heap.size w W) => TB.below ht hW)
  have KW := wholeJournal_any s w hs ht
  have HNT := (fun W => isNote_any note W (by omega))
  have H1 := an_bad (s := s) (note := note)
  have H2 := an_note (s := s) (note := note)
  have H3 := an_full (s := s) (note := note)
  have H4 := an_fine (s := s) (note := note)
  have H5 := jcode_zero (bs := strB s)
  unfold WJ at KW
  obtain ⟨RC, hRC⟩ : ∃ C, anC (strB s) (strB note) = C := ⟨_, rfl⟩
  obtain ⟨RT, hRT⟩ : ∃ C, anT s note = C := ⟨_, rfl⟩
  rw [hRC, hRT] at H1 H2 H3 H4 ⊢
  clear hRC hRT
  obtain ⟨C, hC⟩ : ∃ C, jcode (strB s) = C := ⟨_, rfl⟩
  rw [hC] at KW H1 H2 H3 H4 H5
  obtain ⟨J, hJ⟩ : ∃ C, jall (strB s) = C := ⟨_, rfl⟩
  rw [hJ] at KW H3 H4 H5
  clear hC hJ
  replace KW := Lib.hid KW
  rcases hc0 : (C == 0) with _ | _
  · have HCN := Lib.hid (show C ≠ 0 by simpa using hc0)
    have HQ := Lib.hid (H1 HCN.out)
    clear H1 H2 H3 H4 H5 HNT
    go_enter Tryd.func97, Tryd.ntmps97
    go_wp2_with fail
    refine KW.out.mono ?_; rintro e w1 ⟨v, rfl, (⟨-, rfl, hw⟩ | ⟨h0, -⟩)⟩
    rotate_left
    · exact absurd h0 HCN.out
    go_wp2_with fail
    go_ret2
    exact ⟨by rw [HQ.out.1, HQ.out.2]; rfl, hw⟩
  obtain rfl : C = 0 := by simpa using hc0
  clear hc0 H1
  obtain ⟨z1, -, z2⟩ := H5 rfl
  rw [strB_len] at z1
  clear H5
  rcases ho : noteOk (strB note) with _ | _
  · rw [ho] at HNT
    have HQ := Lib.hid (H2 rfl ho)
    replace HNT := Lib.hid HNT
    clear H2 H3 H4 ho
    go_enter Tryd.func97, Tryd.ntmps97
    go_wp2_with fail
    refine KW.out.mono ?_; rintro e w1 ⟨v, rfl, (⟨h0, -⟩ | ⟨-, g, rfl, hJ⟩)⟩
    · exact absurd rfl h0
    have hw := hJ.below
    go_wp2_with (go_at_call 170; with_reducible refine (HNT.out _).mono ?_; rintro e w5 ⟨rfl, rfl⟩)
    go_ret2
    exact ⟨by rw [HQ.out.1, HQ.out.2]; rfl, hw⟩
  rw [ho] at HNT
  replace H3 := Lib.hid (H3 rfl ho)
  replace H4 := Lib.hid (H4 rfl ho)
  replace HNT := Lib.hid HNT
  clear H2 ho
  go_enter Tryd.func97, Tryd.ntmps97
  go_wp2_with fail
  refine KW.out.mono ?_; rintro e w1 ⟨v, rfl, (⟨h0, -⟩ | ⟨-, g, rfl, hJ⟩)⟩
  · exact absurd rfl h0
  have hw := hJ.below
  obtain ⟨A, c, ss, hss, hK⟩ := hJ
  have hnl : ss.length = J.notes.length := by rw [← hss, List.length_map]
  have HNX := next_any note J.sum ss.length g A c w1 (hK.blkAt.1 0) (hK.blkAt.1 1) (by omega) hn (HTB.out _ hw)
  have hdz := jline_len J.sum ss.length (by omega) (strB note)
  rw [← jlineB_size, strB_len] at hdz
  rw [← hnl] at H3 H4
  obtain ⟨D, hD⟩ : ∃ D, jlineB J.sum ss.length note = D := ⟨_, rfl⟩
  rw [hD] at HNX hdz H3 H4
  obtain ⟨S, hS⟩ : ∃ S, nsum J.sum ((ss.length : Int) + 1) (strB note) = S := ⟨_, rfl⟩
  rw [hS] at HNX
  replace HNX := Lib.hid HNX
  have hwr : IntKind.i64.wrap ((s.size : Int) + (D.size : Int)) = (s.size : Int) + (D.size : Int) := wrapI (by omega)
  clear hD hS hss hnl hK
  by_cases h4 : s.size + D.size > 4000
  · have HQ := Lib.hid (H3.out h4)
    have i1 : (4000 : Int) < (s.size : Int) + (D.size : Int) := by omega
    go_wp2_with (first | (go_at_call 171; with_reducible refine (HNX.out).mono ?_; rintro e w4 ⟨rfl, hw4⟩) | (go_at_call 170; with_reducible refine (HNT.out _).mono ?_; rintro e w5 ⟨rfl, rfl⟩))
    go_ret2
    exact ⟨by rw [HQ.out.1, HQ.out.2]; rfl, hw.trans (hw4.mono hw.size)⟩
  · have HQ := Lib.hid (H4.out h4)
    have i1 : ¬ (4000 : Int) < (s.size : Int) + (D.size : Int) := by omega
    go_wp2_with (first | (go_at_call 171; with_reducible refine (HNX.out).mono ?_; rintro e w4 ⟨rfl, hw4⟩) | (go_at_call 170; with_reducible refine (HNT.out _).mono ?_; rintro e w5 ⟨rfl, rfl⟩))
    go_ret2
    exact ⟨by rw [HQ.out.1, HQ.out.2]; rfl, hw.trans (hw4.mono hw.size)⟩
end Go.Proofs.YtcapccadpbiecaaDoor

namespace Go.Proofs.YtcapccadpbiecaaDoor
open Go.RowKit Go.Sort
theorem JSp.below {w0 w : World} {g : Nat} {s : ByteArray} {j : JS} (h : JSp w0 g s j w) : Below w0.heap.size w0 w := by
  obtain ⟨A, c, ss, h1, h2⟩ := h
  exact h2.below
set_option maxRecDepth 100000 in
set_option maxHeartbeats 3200000 in
theorem l26Read_any (s : ByteArray) (w : World) (hs : s.size ≤ 4000) :
    Calls Tryd.prog 152 #[.string s] w fun e w' => ∃ g, e = .returned (.pointer (some ⟨g, 0, none⟩)) ∧ JSp w g s (jall (strB s)) w' := by
  have HSL := Lib.hid (strB_len s)
  obtain ⟨RES, hRES⟩ : ∃ r, jall (strB s) = r := ⟨_, rfl⟩
  rw [hRES]
  have HRES := Lib.hid hRES
  clear hRES
  have hK0 := (((Kn.nil w).al [] 9).al [.string s, .int .i64 0, .int .i64 0, .slice (some ⟨w.heap.size, 0, none⟩) 0 0] 116)
  simp only [World.size_alloc] at hK0
  have hK1 := ((hK0.front 1 rfl).litRow (n := 0) (size := 1) rfl (by decide)).sel [1, 0] 9 (by decide) (by decide)
  clear hK0
  go_enter Tryd.func152, Tryd.ntmps152
  go_wp2_with fail
  obtain ⟨g, hg⟩ : ∃ g, w.heap.size + 1 = g := ⟨_, rfl⟩
  rw [hg] at hK1
  simp only [hg]
  go_loopg [8] (s.size + 1) (fun gk _ wr => ∃ j : JS, Hid (jread ((strB s).drop j.size) j = RES) ∧ j.notes.length ≤ j.size ∧ j.size ≤ s.size ∧ gk = s.size + 1 - j.size ∧ JSp w g s j wr)
  case atStart => exact ⟨⟨[], 0, 0⟩, HRES.out, Nat.le_refl _, Nat.zero_le _, rfl, _, _, [], rfl, hK1⟩
  case round =>
    clear hK1
    obtain ⟨j, HJ, hn, hz, hgk, hJ⟩ := hrel
    have HGK := Lib.hid hgk
    rcases hc : cutB [10] ((strB s).drop j.size) with _ | q
    · have HN := Lib.hid (show jread ((strB s).drop j.size) j = j from jread_none (by unfold jstep; rw [hc]; rfl))
      have KL := Lib.hid (rLine_none s j wr hs hz hJ hc)
      clear hc hJ
      go_wp2_with (go_at_call 201; with_reducible refine (KL.out).mono ?_; rintro e w1 ⟨rfl, hJ1⟩)
      go_ret
      exact ⟨g, rfl, by rw [← HJ.out, HN.out]; exact hJ1⟩
    rcases hst : jstep j.sum j.notes.length ((strB s).drop j.size) with _ | note
    · have HN := Lib.hid (show jread ((strB s).drop j.size) j = j from jread_none hst)
      have KL := Lib.hid (show Calls Tryd.prog 201 #[.pointer (some ⟨g, 0, none⟩)] wr fun e w' => e = .returned (.bool false) ∧ JSp w g s j w' from rLine_some s j wr q hs hz hn hJ hc none hst)
      clear hc hJ hst
      go_wp2_with (go_at_call 201; with_reducible refine (KL.out).mono ?_; rintro e w1 ⟨rfl, hJ1⟩)
      go_ret
      exact ⟨g, rfl, by rw [← HJ.out, HN.out]; exact hJ1⟩
    · obtain ⟨j', hj'⟩ : ∃ j', (⟨j.notes ++ [note], nsum j.sum ((j.notes.length : Int) + 1) note, j.size + (jline j.sum j.notes.length note).length⟩ : JS) = j' := ⟨_, rfl⟩
      have KL := (show Calls Tryd.prog 201 #[.pointer (some ⟨g, 0, none⟩)] wr fun e w' => e = .returned (.bool true) ∧ JSp w g s ⟨j.notes ++ [note], nsum j.sum ((j.notes.length : Int) + 1) note, j.size + (jline j.sum j.notes.length note).length⟩ w' from rLine_some s j wr q hs hz hn hJ hc (some note) hst)
      rw [hj'] at KL
      replace KL := Lib.hid KL
      have hnx := jread_some hst
      rw [hj', List.drop_drop, show j.size + (jline j.sum j.notes.length note).length = j'.size by rw [← hj']] at hnx
      have HNXT := Lib.hid (show jread ((strB s).drop j'.size) j' = RES by rw [← hnx]; exact HJ.out)
      have hdl := jstep_some hst
      rw [List.length_drop, HSL.out] at hdl
      have hb : Hid (j'.notes.length ≤ j'.size ∧ j'.size ≤ s.size ∧ j.size < j'.size) := by
        rw [← hj']
        simp only [Hid, List.length_append, List.length_cons, List.length_nil]
        omega
      clear hc hJ hst hnx hdl hj'
      go_wp2_with (go_at_call 201; with_reducible refine (KL.out).mono ?_; rintro e w1 ⟨rfl, hJ1⟩)
      go_roundg (s.size + 1 - j'.size)
      case measure => have := HGK.out; have := hb.out; omega
      case rel => exact ⟨j', HNXT, hb.out.1, hb.out.2.1, rfl, hJ1⟩
/-- what a whole journal's reading gives the reference -/
def WJS (w0 : World) (s : ByteArray) (v : Value) (w : World) : Prop := (jcode (strB s) ≠ 0 ∧ (∃ g, v = .pointer (some ⟨g, 0, none⟩)) ∧ Below w0.heap.size w0 w) ∨ (jcode (strB s) = 0 ∧ ∃ g, v = .pointer (some ⟨g, 0, none⟩) ∧ JSp w0 g s (jall (strB s)) w)
set_option maxRecDepth 100000 in
set_option maxHeartbeats 1600000 in
theorem l26Code_any (s : ByteArray) (w : World) (hs : s.size ≤ 9223372036854775807) :
    Calls Tryd.prog 80 #[.string s] w fun e w' => ∃ v, e = .returned (.tuple #[v, .int .i64 (jcode (strB s))]) ∧ WJS w s v w' := by
  have HJC := Lib.hid (show jcode (strB s) = if s.size > 4000 then 5 else if (jall (strB s)).size = s.size then 0 else 8 by unfold jcode; rw [strB_len])
  go_enter Tryd.func80, Tryd.ntmps80
  by_cases h4 : s.size > 4000
  · have i1 : (4000 : Int) < (s.size : Int) := by omega
    have hj := HJC.out
    rw [if_pos h4] at hj
    have HJ5 := Lib.hid hj
    clear hj
    have hK0 := ((Kn.nil w).al [.string ⟨#[]⟩, .int .i64 0, .int .i64 0, .slice none 0 0] 116)
    go_wp2_with fail
    refine bodyPost_ret (v := .tuple #[.pointer (some ⟨w.heap.size, 0, none⟩), .int .i64 5]) (by simp [results, Tryd.results80, go_sem]) rfl ⟨.pointer (some ⟨w.heap.size, 0, none⟩), by rw [HJ5.out], .inl ⟨by rw [HJ5.out]; decide, ⟨_, rfl⟩, hK0.below⟩⟩
  · have i1 : ¬ (4000 : Int) < (s.size : Int) := by omega
    have KR := Lib.hid (l26Read_any s w (by omega))
    obtain ⟨J, hJ0⟩ : ∃ J, jall (strB s) = J := ⟨_, rfl⟩
    rw [hJ0] at KR HJC
    have HJ0 := Lib.hid hJ0
    clear hJ0
    by_cases h5 : J.size = s.size
    · have hj := HJC.out
      rw [if_neg h4, if_pos h5] at hj
      have HJ5 := Lib.hid hj
      have i2 : ((J.size : Int) != (s.size : Int)) = false := by rw [h5]; simp
      clear hj h5
      go_wp2_with fail
      refine KR.out.mono ?_; rintro e w1 ⟨g, rfl, hJ⟩; have HJ := Lib.hid hJ; obtain ⟨A, c, ss, -, hK⟩ := hJ; have c2 := hK.blkAt.1 1
      go_wp2_with fail
      refine bodyPost_ret (v := .tuple #[.pointer (some ⟨g, 0, none⟩), .int .i64 0]) (by simp [results, Tryd.results80, go_sem]) rfl ⟨.pointer (some ⟨g, 0, none⟩), by rw [HJ5.out], .inr ⟨HJ5.out, g, rfl, by rw [HJ0.out]; exact HJ.out⟩⟩
    · have hj := HJC.out
      rw [if_neg h4, if_neg h5] at hj
      have HJ5 := Lib.hid hj
      have i2 : ((J.size : Int) != (s.size : Int)) = true := by simp; omega
      clear hj h5
      go_wp2_with fail
      refine KR.out.mono ?_; rintro e w1 ⟨g, rfl, hJ⟩; have HJ := Lib.hid hJ; obtain ⟨A, c, ss, -, hK⟩ := hJ; have c2 := hK.blkAt.1 1
      go_wp2_with fail
      refine bodyPost_ret (v := .tuple #[.pointer (some ⟨g, 0, none⟩), .int .i64 8]) (by simp [results, Tryd.results80, go_sem]) rfl ⟨.pointer (some ⟨g, 0, none⟩), by rw [HJ5.out], .inl ⟨by rw [HJ5.out]; decide, ⟨_, rfl⟩, HJ.out.below⟩⟩
set_option maxRecDepth 100000 in
set_option maxHeartbeats 1600000 in
theorem specAppendNote_any (s note : ByteArray) (w : World) (hs : s.size ≤ 9223372036854775807) (hn : note.size ≤ 1048576) :
    Calls Tryd.prog 94 #[.string s, .string note] w fun e w' => e = .returned (.tuple #[.string (anT s note), .int .i64 (anC (strB s) (strB note))]) ∧ Below w.heap.size w w' := by
  have KW := l26Code_any s w hs
  have HNT := (fun W => l26Note_any note W (by omega))
  have H1 := an_bad (s := s) (note := note)
  have H2 := an_note (s := s) (note := note)
  have H3 := an_full (s := s) (note := note)
  have H4 := an_fine (s := s) (note := note)
  have H5 := jcode_zero (bs := strB s)
  unfold WJS at KW
  obtain ⟨RC, hRC⟩ : ∃ C, anC (strB s) (strB note) = C := ⟨_, rfl⟩
  obtain ⟨RT, hRT⟩ : ∃ C, anT s note = C := ⟨_, rfl⟩
  rw [hRC, hRT] at H1 H2 H3 H4 ⊢
  clear hRC hRT
  obtain ⟨C, hC⟩ : ∃ C, jcode (strB s) = C := ⟨_, rfl⟩
  rw [hC] at KW H1 H2 H3 H4 H5
  obtain ⟨J, hJ⟩ : ∃ C, jall (strB s) = C := ⟨_, rfl⟩
  rw [hJ] at KW H3 H4 H5
  clear hC hJ
  replace KW := Lib.hid KW
  rcases hc0 : (C == 0) with _ | _
  · have HCN := Lib.hid (show C ≠ 0 by simpa using hc0)
    have HQ := Lib.hid (H1 HCN.out)
    clear H1 H2 H3 H4 H5 HNT
    have hc1 : (C != 0) = true := by simpa using hc0
    go_enter Tryd.func94, Tryd.ntmps94
    go_wp2_with fail
    refine KW.out.mono ?_; rintro e w1 ⟨v, rfl, (⟨-, ⟨g, rfl⟩, hw⟩ | ⟨h0, -⟩)⟩
    rotate_left
    · exact absurd h0 HCN.out
    go_wp2_with fail
    go_ret2
    exact ⟨by rw [HQ.out.1, HQ.out.2]; rfl, hw⟩
  obtain rfl : C = 0 := by simpa using hc0
  clear hc0 H1
  obtain ⟨z1, -, z2⟩ := H5 rfl
  rw [strB_len] at z1
  clear H5
  rcases ho : noteOk (strB note) with _ | _
  · rw [ho] at HNT
    have HQ := Lib.hid (H2 rfl ho)
    replace HNT := Lib.hid HNT
    clear H2 H3 H4 ho
    go_enter Tryd.func94, Tryd.ntmps94
    go_wp2_with fail
    refine KW.out.mono ?_; rintro e w1 ⟨v, rfl, (⟨h0, -⟩ | ⟨-, g, rfl, hJ⟩)⟩
    · exact absurd rfl h0
    have hw := hJ.below
    go_wp2_with (go_at_call 103; with_reducible refine (HNT.out _).mono ?_; rintro e w5 ⟨rfl, rfl⟩)
    go_ret2
    exact ⟨by rw [HQ.out.1, HQ.out.2]; rfl, hw⟩
  rw [ho] at HNT
  replace H3 := Lib.hid (H3 rfl ho)
  replace H4 := Lib.hid (H4 rfl ho)
  replace HNT := Lib.hid HNT
  clear H2 ho
  go_enter Tryd.func94, Tryd.ntmps94
  go_wp2_with fail
  refine KW.out.mono ?_; rintro e w1 ⟨v, rfl, (⟨h0, -⟩ | ⟨-, g, rfl, hJ⟩)⟩
  · exact absurd rfl h0
  have hw := hJ.below
  obtain ⟨A, c, ss, hss, hK⟩ := hJ
  have hnl : ss.length = J.notes.length := by rw [← hss, List.length_map]
  have hn4 : ss.length ≤ 4000 := by omega
  have HLN := Lib.hid (fun (W : World) => l26Line_any note J.sum ss.length W (by omega) (by omega))
  have hdz := jline_len J.sum ss.length (by omega) (strB note)
  rw [← jlineB_size, strB_len] at hdz
  rw [← hnl] at H3 H4
  obtain ⟨D, hD⟩ : ∃ D, jlineB J.sum ss.length note = D := ⟨_, rfl⟩
  rw [hD] at HLN hdz H3 H4
  obtain ⟨S, hS⟩ : ∃ S, nsum J.sum ((ss.length : Int) + 1) (strB note) = S := ⟨_, rfl⟩
  rw [hS] at HLN
  have hwr : IntKind.i64.wrap ((s.size : Int) + (D.size : Int)) = (s.size : Int) + (D.size : Int) := wrapI (by omega)
  have hw1 : IntKind.i64.wrap ((ss.length : Int) + 1) = (ss.length : Int) + 1 := wrapI (by omega)
  have HG := Lib.hid (show w1.drew.cell? ⟨g, 2, none⟩ = some (.int .i64 J.sum) ∧ w1.drew.cell? ⟨g, 3, none⟩ = some (.slice A ss.length c) from ⟨hK.drew.blkAt.1 2, hK.drew.blkAt.1 3⟩)
  clear hD hS hss hnl
  go_wp2_with (go_at_call 103; with_reducible refine (HNT.out _).mono ?_; rintro e w5 ⟨rfl, rfl⟩)
  go_region_held3 (fun W => W.cell? ⟨g, 2, none⟩ = some (.int .i64 J.sum) ∧ W.cell? ⟨g, 3, none⟩ = some (.slice A ss.length c)) (first | with_reducible exact HG.out) (first
    | (go_at_call 169; (with_reducible refine (HLN.out _).mono ?_); rintro e w4 ⟨rfl, hw4⟩; have hK4 := hK.drew.keep hw4; clear HG; have HG := Lib.hid (show w4.cell? ⟨g, 2, none⟩ = some (.int .i64 J.sum) ∧ w4.cell? ⟨g, 3, none⟩ = some (.slice A ss.length c) from ⟨hK4.blkAt.1 2, hK4.blkAt.1 3⟩)))
  all_goals
    have hwf := hK4.below
    clear hK HG hK4 hw4
    by_cases h4 : s.size + D.size > 4000
    · have HQ := Lib.hid (H3.out h4)
      have i1 : (4000 : Int) < (s.size : Int) + (D.size : Int) := by omega
      go_wp2_with fail
      go_ret2
      exact ⟨by rw [HQ.out.1, HQ.out.2]; rfl, hwf⟩
    · have HQ := Lib.hid (H4.out h4)
      have i1 : ¬ (4000 : Int) < (s.size : Int) + (D.size : Int) := by omega
      go_wp2_with fail
      go_ret2
      exact ⟨by rw [HQ.out.1, HQ.out.2]; rfl, hwf⟩
set_option maxHeartbeats 1600000 in
theorem l26Stroke_any (s : ByteArray) (w : World) :
    Calls Tryd.prog 82 #[.string s] w fun e w' => e = .returned (.int .i64 (kindOf (strB s))) ∧ Below w.heap.size w w' := by
  go_enter Tryd.func82, Tryd.ntmps82
  go_wp2_with fail
  go_loopw [3] (fun kk wr => ∃ k : Nat, 1 ≤ k ∧ k ≤ 7 ∧ kk = .int .i64 k ∧ (∀ j : Int, 1 ≤ j → j < k → strB (sname j) ≠ strB s) ∧ Below w.heap.size w wr) (fun kk _ => 8 - (intOf kk).toNat)
  case atStart => exact ⟨1, by omega, by omega, rfl, fun j h1 h2 => by omega, Below.refl _ _⟩
  case round =>
    obtain ⟨k, k1, k7, rfl, hno, hb⟩ := hrel
    have HNO := Lib.hid hno
    clear hno
    by_cases hk : k ≤ 6
    · have hk2 : (k : Int) ≤ 6 := by omega
      have KN := Lib.hid (specStrokeName_any k wr (by omega))
      obtain ⟨N, hN⟩ : ∃ N, sname k = N := ⟨_, rfl⟩
      rw [hN] at KN
      have HN := Lib.hid hN
      clear hN
      rcases hq : (N.toList == s.toList) with _ | _
      · have HQ : Hid (strB N ≠ strB s) := by simp only [Hid]; rw [strB_toList, strB_toList, beq_eq_false_iff_ne] at hq; exact hq
        go_wp2_with (go_at_call 95; refine KN.out.mono ?_; rintro e w' ⟨rfl, hw⟩)
        go_roundw
        case rel => exact ⟨k + 1, by omega, by omega, by go_num, fun j h1 h2 => by
            rcases Int.lt_or_le j k with h3 | h3
            · exact HNO.out j h1 h3
            · obtain rfl : j = k := by omega
              rw [HN.out]; exact HQ.out, hb.trans (hw.mono hb.size)⟩
        case measure => simp [intOf]; omega
      · have HQ : Hid (kindOf (strB s) = k) := by
          simp only [Hid]
          rw [strB_toList, strB_toList, beq_iff_eq] at hq
          rw [← hq, ← HN.out]
          exact kindOf_sname (by omega)
        go_wp2_with (go_at_call 95; refine KN.out.mono ?_; rintro e w' ⟨rfl, hw⟩)
        go_ret
        exact ⟨by rw [HQ.out]; rfl, hb.trans (hw.mono hb.size)⟩
    · have hk2 : ¬ (k : Int) ≤ 6 := by omega
      have HQ := Lib.hid (kindOf_none (bs := strB s) (fun j h1 h2 => HNO.out j h1 (by omega)))
      go_wp2_with fail
      go_ret
      exact ⟨by rw [HQ.out]; rfl, hb⟩
end Go.Proofs.YtcapccadpbiecaaDoor

namespace Go.Proofs.YtcapccadpbiecaaDoor
open Go.RowKit Go.Sort
/-- what is known at index j of the search for the match of i -/
structure Seek (xs : List Ins) (i j : Nat) (d : Int) : Prop where
  le : i ≤ j
  lt : j < xs.length
  dep : d = depA xs j - depA xs i
  above : ∀ q, i < q → q ≤ j → depA xs i < depA xs q
theorem Seek.next {xs : List Ins} (h : vprog xs = true) {i j : Nat} {d : Int} (hs : Seek xs i j d) (ho : opens (xs[i]'(Nat.lt_of_le_of_lt hs.le hs.lt)).op = true) {d' : Int} (hd : d' = depA xs (j + 1) - depA xs i) (h0 : ¬ d' = 0) : Seek xs i (j + 1) d' := by
  have hn := dep_near h j
  have hi : i < xs.length := Nat.lt_of_le_of_lt hs.le hs.lt
  have hb := dep_bd h i
  have hge : depA xs i ≤ depA xs (j + 1) := by
    rcases Nat.lt_or_eq_of_le hs.le with h1 | h1
    · have := hs.above j h1 (Nat.le_refl _); omega
    · subst h1; rw [dep_open h hi ho]; omega
  have hl : j + 1 < xs.length := by
    rcases Nat.lt_or_ge (j + 1) xs.length with h1 | h1
    · exact h1
    · have := depA_end h h1; omega
  refine ⟨by have := hs.le; omega, hl, hd, fun q h1 h2 => ?_⟩
  rcases Nat.lt_or_eq_of_le h2 with h3 | h3
  · exact hs.above q h1 (by omega)
  · subst h3; omega
theorem Seek.found {xs : List Ins} {i j : Nat} {d : Int} (hs : Seek xs i j d) {d' : Int} (hd : d' = depA xs (j + 1) - depA xs i) (h0 : d' = 0) : IsMatch xs i j := ⟨hs.le, hs.lt, by omega, hs.above⟩
theorem Seek.zero {xs : List Ins} {i : Nat} (hi : i < xs.length) : Seek xs i i 0 := ⟨Nat.le_refl _, hi, by omega, fun q h1 h2 => by omega⟩
def MatchRet (xs : List Ins) (i : Nat) (w : World) (e : Ending) (w' : World) : Prop := ∃ f : Nat, e = .returned (.int .i64 f) ∧ IsMatch xs i f ∧ Below w.heap.size w w'
def MatchRet0 (xs : List Ins) (i : Nat) (w : World) (e : Ending) (w' : World) : Prop := ∃ f : Nat, e = .returned (.int .i64 f) ∧ IsMatch xs i f ∧ w = w'
end Go.Proofs.YtcapccadpbiecaaDoor

namespace Go.Proofs.YtcapccadpbiecaaDoor
open Go.RowKit Go.Sort
set_option maxRecDepth 100000 in
set_option maxHeartbeats 6400000 in
theorem stroke_any (t : Tri) (A1 A2 A3 : Option Addr) (c1 c2 c3 : Nat) (k : Int) (w : World) (r1 : RI w A1 t.a.digits.length t.a.digits) (r2 : RI w A2 t.b.digits.length t.b.digits) (r3 : RI w A3 t.s.digits.length t.s.digits) (hv : vmach t = true) (hk16 : 1 ≤ k ∧ k ≤ 6) :
    Calls Tryd.prog 89 #[.agg #[.int .i64 t.a.base, .slice A1 t.a.digits.length c1, .int .i64 t.b.base, .slice A2 t.b.digits.length c2, .int .i64 t.s.base, .slice A3 t.s.digits.length c3, .int .i64 t.carry], .int .i64 k] w fun e w' => ∃ A1 c1 A2 c2 A3 c3, e = .returned (.tuple #[.agg #[.int .i64 (strokeT k t).1.a.base, .slice A1 (strokeT k t).1.a.digits.length c1, .int .i64 (strokeT k t).1.b.base, .slice A2 (strokeT k t).1.b.digits.length c2, .int .i64 (strokeT k t).1.s.base, .slice A3 (strokeT k t).1.s.digits.length c3, .int .i64 (strokeT k t).1.carry], .bool (strokeT k t).2]) ∧
      Kn w [rowI A3 c3 (strokeT k t).1.s.digits, rowI A2 c2 (strokeT k t).1.b.digits, rowI A1 c1 (strokeT k t).1.a.digits] w' := by
  obtain ⟨k1, k2, k3, e1, e2, f1, f2, l1, p0, p1⟩ := vmach_all hv
  obtain ⟨u1, u2, u3, u4⟩ := turn_bd hv
  obtain ⟨⟨b1, b2⟩, ⟨n1, n2⟩, hd1, -⟩ := vreg_iff.1 k1
  obtain ⟨⟨b3, b4⟩, ⟨n3, n4⟩, hd2, -⟩ := vreg_iff.1 k2
  obtain ⟨⟨b5, b6⟩, ⟨n5, n6⟩, hd3, -⟩ := vreg_iff.1 k3
  have hz : Sized t := ⟨n1, n3, n5, n2, n4, n6⟩
  have KC := Lib.hid (fun W (hW : Below w.heap.size w W) => copiedM_any t A1 A2 A3 c1 c2 c3 W (r1.below hW) (r2.below hW) (r3.below hW) hz)
  have KP := (fun W => power_B t.b.base t.carry.toNat W b3 b4 (by unfold vplaces at p1; omega))
  have hpc : powC t.b.base t.carry.toNat = pw t.b.base t.carry.toNat := by unfold powC; rw [if_pos u2]
  rw [hpc, show ((t.carry.toNat : Nat) : Int) = t.carry by omega] at KP
  obtain ⟨U, hU⟩ : ∃ U, pw t.b.base t.carry.toNat = U := ⟨_, rfl⟩
  have HU := Lib.hid hU
  rw [hU] at KP u1 u2 u3 u4
  have KP := Lib.hid KP
  have E1 := Lib.hid e1
  have E2 := Lib.hid e2
  clear hpc hU e1 e2 hz
  go_enter Tryd.func89, Tryd.ntmps89
  go_wp2_with fail
  refine Calls.kn (((Kn.nil w).al [.int .i64 t.a.base, .slice A1 t.a.digits.length c1, .int .i64 t.b.base, .slice A2 t.b.digits.length c2, .int .i64 t.s.base, .slice A3 t.s.digits.length c3, .int .i64 t.carry] 37).al [.int .i64 0, .slice none 0 0, .int .i64 0, .slice none 0 0, .int .i64 0, .slice none 0 0, .int .i64 0] 37) ?_; intro w1 hK1
  simp only [World.size_alloc] at hK1
  with_reducible refine (KC.out _ hK1.below).mono ?_; rintro e w2 ⟨B1, h1, B2, h2, B3, h3, rfl, hKC⟩
  have hK2 := hK1.join hKC
  obtain ⟨a1, a2, a3, d1, d2, d3, -⟩ := hK2.cells
  clear hK1 hKC
  go_wp2_with fail
  refine Calls.kn (hK2.al [.int .i64 t.a.base, .slice B1 t.a.digits.length h1, .int .i64 t.b.base, .slice B2 t.b.digits.length h2, .int .i64 t.s.base, .slice B3 t.s.digits.length h3, .int .i64 t.carry] 37) ?_; intro w3 hK3
  with_reducible refine (KP.out _).mono ?_; rintro e w4 ⟨rfl, hw⟩
  have hK4 := hK3.keep hw
  clear a1 a2 a3 d1 d2 d3 hK2 hK3 hw
  obtain ⟨x1, x2, x3, a1, a2, a3, d1, d2, d3, -⟩ := hK4.cells
  have hk' : k = 1 ∨ k = 2 ∨ k = 3 ∨ k = 4 ∨ k = 5 ∨ k = 6 := by omega
  clear hk16
  rcases hk' with hk | hk | hk | hk | hk | hk
  · subst hk
    have hT : strokeT 1 t = turnT t 1 := by unfold strokeT; simp
    have KV := (fun W (hW : Below w.heap.size w W) => value_any t.a.base A1 t.a.digits.length c1 t.a.digits W b1 b2 hd1 (r1.below hW) n2)
    have hTT : turnT t 1 = (⟨t.a, ⟨t.b.base, shiftD t.b.base t.b.digits (1 * (valL t.a.base t.a.digits * pw t.b.base t.carry.toNat))⟩, ⟨t.s.base, shiftD t.s.base t.s.digits (1 * pw t.b.base t.carry.toNat)⟩, t.carry⟩, shiftB t.b.base t.b.digits (1 * (valL t.a.base t.a.digits * pw t.b.base t.carry.toNat))) := rfl
    rw [HU.out] at hTT
    obtain ⟨V, hV⟩ : ∃ V, valL t.a.base t.a.digits = V := ⟨_, rfl⟩
    rw [hV] at KV hTT u3 u4
    obtain ⟨X, hX⟩ : ∃ X, 1 * (V * U) = X := ⟨_, rfl⟩
    obtain ⟨Y, hY⟩ : ∃ Y, 1 * U = Y := ⟨_, rfl⟩
    rw [hX, hY] at hTT
    have hXb : -1000000000001 ≤ X ∧ X ≤ 1000000000001 := by omega
    have hYb : -1000000000001 ≤ Y ∧ Y ≤ 1000000000001 := by omega
    have hV1 : 0 ≤ V := by
      have := (valL_bd t.a.base b1 t.a.digits (fun d h => (hd1 d h).1)).1
      omega
    have hV2 : V ≤ 1000000000001 := by
      have := Int.mul_le_mul_of_nonneg_left (show 1 ≤ U from u1) hV1
      rw [Int.mul_one] at this
      omega
    have KS2 := (fun W (hW : Below w.heap.size w W) => shifted_any t.b.base A2 c2 t.b.digits X W (r2.below hW) k2 f1 hXb.1 hXb.2)
    have KS3 := (fun W (hW : Below w.heap.size w W) => shifted_any t.s.base A3 c3 t.s.digits Y W (r3.below hW) k3 f2 hYb.1 hYb.2)
    obtain ⟨es, hes⟩ : ∃ es, shiftD t.b.base t.b.digits X = es := ⟨_, rfl⟩
    obtain ⟨fs, hfs⟩ : ∃ fs, shiftD t.s.base t.s.digits Y = fs := ⟨_, rfl⟩
    obtain ⟨bell, hbl⟩ : ∃ e, shiftB t.b.base t.b.digits X = e := ⟨_, rfl⟩
    obtain ⟨bell2, hbl2⟩ : ∃ e, shiftB t.s.base t.s.digits Y = e := ⟨_, rfl⟩
    rw [hes, hbl] at KS2
    rw [hfs, hbl2] at KS3
    rw [hes, hfs, hbl] at hTT
    have HS := Lib.hid (hT.trans hTT)
    have KV := Lib.hid KV
    have KS2 := Lib.hid KS2
    have KS3 := Lib.hid KS3
    have HYY := Lib.hid hY
    have HW2 := Lib.hid (show IntKind.i64.wrap (V * U) = X by rw [← hX, Int.one_mul]; exact wrapI64 (by omega))
    have HW1 := HW2
    clear hT hTT hV hX hY hes hfs hbl hbl2 hd1 hd2 hd3 r1 r2 r3 k1 k2 k3 KC KP f1 f2 l1 p0 p1
    go_wp2_with fail
    have HG := Lib.hid (box7 hK4.drew.drop.drop.drop.drop.drop)
    have HT := HG
    go_cut [7] (fun bb wx => bb = .bool bell ∧ ∃ (E2 : Option Addr) (g2 : Nat), Kn w [.blk w2.heap.size [.int .i64 t.a.base, .slice B1 t.a.digits.length h1, .int .i64 t.b.base, .slice E2 es.length g2, .int .i64 t.s.base, .slice B3 t.s.digits.length h3, .int .i64 t.carry] 37, rowI E2 g2 es, rowI B3 h3 t.s.digits, rowI B2 h2 t.b.digits, rowI B1 h1 t.a.digits, .blk (w.heap.size + 1) [.int .i64 0, .slice none 0 0, .int .i64 0, .slice none 0 0, .int .i64 0, .slice none 0 0, .int .i64 0] 37, .blk w.heap.size [.int .i64 t.a.base, .slice A1 t.a.digits.length c1, .int .i64 t.b.base, .slice A2 t.b.digits.length c2, .int .i64 t.s.base, .slice A3 t.s.digits.length c3, .int .i64 t.carry] 37] wx)
    case first =>
      go_region_held3 (fun W => W.cell? ⟨w.heap.size, 0, none⟩ = some (.int .i64 t.a.base) ∧ W.cell? ⟨w.heap.size, 1, none⟩ = some (.slice A1 t.a.digits.length c1) ∧ W.cell? ⟨w.heap.size, 2, none⟩ = some (.int .i64 t.b.base) ∧ W.cell? ⟨w.heap.size, 3, none⟩ = some (.slice A2 t.b.digits.length c2) ∧ W.cell? ⟨w.heap.size, 4, none⟩ = some (.int .i64 t.s.base) ∧ W.cell? ⟨w.heap.size, 5, none⟩ = some (.slice A3 t.s.digits.length c3) ∧ W.cell? ⟨w.heap.size, 6, none⟩ = some (.int .i64 t.carry))
        (first | with_reducible exact HG.out | with_reducible exact HT.out | exact HG.out | exact HT.out) (first
        | (go_at_call 164; (with_reducible refine (KV.out _ hK4.drew.below).mono ?_); rintro e w5 ⟨rfl, hw⟩; have hK5 := hK4.drew.keep hw; clear HG; have HG := Lib.hid (box7 hK5.drop.drop.drop.drop.drop))
        | (go_at_call 163; (first | (rw [HW1.out]; rw [HW2.out]) | rw [HW2.out]); (with_reducible refine (KS2.out _ hK5.below).mono ?_); rintro e w6 ⟨E2, g2, rfl, hK⟩; have hK6 := hK5.join hK; clear HG; have HG := Lib.hid (box7 hK6.drop.drop.drop.drop.drop.drop); have hK7 := (hK6.sw1.st 2 (.int .i64 t.b.base)).st 3 (.slice E2 es.length g2); have HT := Lib.hid (box7 hK7.drop.drop.drop.drop.drop.drop); obtain ⟨q1, q2, q3⟩ := hK6.drop.blkAt))
      all_goals
        go_wp2_with fail
        go_meet
        exact ⟨rfl, _, _, hK7⟩
    case rest =>
      obtain ⟨rfl, E2, g2, hK5⟩ := hcut
      clear HG HT x1 x2 x3 a1 a2 a3 d1 d2 d3 hK4 KV KS2
      obtain ⟨x1, x2, x3, a1, a2, a3, d1, d2, d3, -⟩ := hK5.cells
      go_wp2_with fail
      rw [show U = Y by rw [← HYY.out]; omega]
      refine (KS3.out _ hK5.below).mono ?_; rintro e w6 ⟨E3, g3, rfl, hK⟩
      have hK6 := hK5.join hK
      clear x1 x2 x3 a1 a2 a3 d1 d2 d3 hK5
      obtain ⟨x1, x2, x3, a1, a2, a3, d1, d2, d3, -⟩ := hK6.cells
      go_upto_region 22 with fail
      refine Code.wp.kn ((hK6.sw1.st 4 (.int .i64 t.s.base)).st 5 (.slice E3 fs.length g3)) ?_; intro w5 hK5
      clear x1 x2 x3 a1 a2 a3 d1 d2 d3
      obtain ⟨x1, x2, x3, a1, a2, a3, d1, d2, d3, -⟩ := hK5.cells
      go_wp2_with fail
      refine bodyPost.kn ((((((((hK5.front 6 rfl).st 0 (.int .i64 t.a.base)).st 1 (.slice B1 t.a.digits.length h1)).st 2 (.int .i64 t.b.base)).st 3 (.slice E2 es.length g2)).st 4 (.int .i64 t.s.base)).st 5 (.slice E3 fs.length g3)).st 6 (.int .i64 t.carry)) ?_; intro w6 hK6
      clear x1 x2 x3 a1 a2 a3 d1 d2 d3 hK5
      obtain ⟨a1, a2, a3, -⟩ := hK6.cells
      refine bodyPost_ret (v := .tuple #[.agg #[.int .i64 t.a.base, .slice B1 t.a.digits.length h1, .int .i64 t.b.base, .slice E2 es.length g2, .int .i64 t.s.base, .slice E3 fs.length g3, .int .i64 t.carry], .bool bell]) (by simp [results, Tryd.results89, go_sem, a1]) rfl ⟨B1, h1, E2, g2, E3, g3, by rw [HS.out], ?_⟩
      rw [HS.out]
      exact hK6.sel [2, 3, 6] 99 (by decide) (by decide)
  · subst hk
    have hT : strokeT 2 t = turnT t (-1) := by unfold strokeT; simp
    have KV := (fun W (hW : Below w.heap.size w W) => value_any t.a.base A1 t.a.digits.length c1 t.a.digits W b1 b2 hd1 (r1.below hW) n2)
    have hTT : turnT t (-1) = (⟨t.a, ⟨t.b.base, shiftD t.b.base t.b.digits ((-1) * (valL t.a.base t.a.digits * pw t.b.base t.carry.toNat))⟩, ⟨t.s.base, shiftD t.s.base t.s.digits ((-1) * pw t.b.base t.carry.toNat)⟩, t.carry⟩, shiftB t.b.base t.b.digits ((-1) * (valL t.a.base t.a.digits * pw t.b.base t.carry.toNat))) := rfl
    rw [HU.out] at hTT
    obtain ⟨V, hV⟩ : ∃ V, valL t.a.base t.a.digits = V := ⟨_, rfl⟩
    rw [hV] at KV hTT u3 u4
    obtain ⟨X, hX⟩ : ∃ X, (-1) * (V * U) = X := ⟨_, rfl⟩
    obtain ⟨Y, hY⟩ : ∃ Y, (-1) * U = Y := ⟨_, rfl⟩
    rw [hX, hY] at hTT
    have hXb : -1000000000001 ≤ X ∧ X ≤ 1000000000001 := by omega
    have hYb : -1000000000001 ≤ Y ∧ Y ≤ 1000000000001 := by omega
    have hV1 : 0 ≤ V := by
      have := (valL_bd t.a.base b1 t.a.digits (fun d h => (hd1 d h).1)).1
      omega
    have hV2 : V ≤ 1000000000001 := by
      have := Int.mul_le_mul_of_nonneg_left (show 1 ≤ U from u1) hV1
      rw [Int.mul_one] at this
      omega
    have KS2 := (fun W (hW : Below w.heap.size w W) => shifted_any t.b.base A2 c2 t.b.digits X W (r2.below hW) k2 f1 hXb.1 hXb.2)
    have KS3 := (fun W (hW : Below w.heap.size w W) => shifted_any t.s.base A3 c3 t.s.digits Y W (r3.below hW) k3 f2 hYb.1 hYb.2)
    obtain ⟨es, hes⟩ : ∃ es, shiftD t.b.base t.b.digits X = es := ⟨_, rfl⟩
    obtain ⟨fs, hfs⟩ : ∃ fs, shiftD t.s.base t.s.digits Y = fs := ⟨_, rfl⟩
    obtain ⟨bell, hbl⟩ : ∃ e, shiftB t.b.base t.b.digits X = e := ⟨_, rfl⟩
    obtain ⟨bell2, hbl2⟩ : ∃ e, shiftB t.s.base t.s.digits Y = e := ⟨_, rfl⟩
    rw [hes, hbl] at KS2
    rw [hfs, hbl2] at KS3
    rw [hes, hfs, hbl] at hTT
    have HS := Lib.hid (hT.trans hTT)
    have KV := Lib.hid KV
    have KS2 := Lib.hid KS2
    have KS3 := Lib.hid KS3
    have HYY := Lib.hid hY
    have HW1 := Lib.hid (show IntKind.i64.wrap (-V) = -V from wrapI64 (by omega))
    have HW2 := Lib.hid (show IntKind.i64.wrap (-V * U) = X by rw [← hX, Int.neg_one_mul, Int.neg_mul]; exact wrapI64 (by omega))
    clear hT hTT hV hX hY hes hfs hbl hbl2 hd1 hd2 hd3 r1 r2 r3 k1 k2 k3 KC KP f1 f2 l1 p0 p1
    go_wp2_with fail
    have HG := Lib.hid (box7 hK4.drew.drop.drop.drop.drop.drop)
    have HT := HG
    go_cut [7] (fun bb wx => bb = .bool bell ∧ ∃ (E2 : Option Addr) (g2 : Nat), Kn w [.blk w2.heap.size [.int .i64 t.a.base, .slice B1 t.a.digits.length h1, .int .i64 t.b.base, .slice E2 es.length g2, .int .i64 t.s.base, .slice B3 t.s.digits.length h3, .int .i64 t.carry] 37, rowI E2 g2 es, rowI B3 h3 t.s.digits, rowI B2 h2 t.b.digits, rowI B1 h1 t.a.digits, .blk (w.heap.size + 1) [.int .i64 0, .slice none 0 0, .int .i64 0, .slice none 0 0, .int .i64 0, .slice none 0 0, .int .i64 0] 37, .blk w.heap.size [.int .i64 t.a.base, .slice A1 t.a.digits.length c1, .int .i64 t.b.base, .slice A2 t.b.digits.length c2, .int .i64 t.s.base, .slice A3 t.s.digits.length c3, .int .i64 t.carry] 37] wx)
    case first =>
      go_region_held3 (fun W => W.cell? ⟨w.heap.size, 0, none⟩ = some (.int .i64 t.a.base) ∧ W.cell? ⟨w.heap.size, 1, none⟩ = some (.slice A1 t.a.digits.length c1) ∧ W.cell? ⟨w.heap.size, 2, none⟩ = some (.int .i64 t.b.base) ∧ W.cell? ⟨w.heap.size, 3, none⟩ = some (.slice A2 t.b.digits.length c2) ∧ W.cell? ⟨w.heap.size, 4, none⟩ = some (.int .i64 t.s.base) ∧ W.cell? ⟨w.heap.size, 5, none⟩ = some (.slice A3 t.s.digits.length c3) ∧ W.cell? ⟨w.heap.size, 6, none⟩ = some (.int .i64 t.carry))
        (first | with_reducible exact HG.out | with_reducible exact HT.out | exact HG.out | exact HT.out) (first
        | (go_at_call 164; (with_reducible refine (KV.out _ hK4.drew.below).mono ?_); rintro e w5 ⟨rfl, hw⟩; have hK5 := hK4.drew.keep hw; clear HG; have HG := Lib.hid (box7 hK5.drop.drop.drop.drop.drop))
        | (go_at_call 163; (first | (rw [HW1.out]; rw [HW2.out]) | rw [HW2.out]); (with_reducible refine (KS2.out _ hK5.below).mono ?_); rintro e w6 ⟨E2, g2, rfl, hK⟩; have hK6 := hK5.join hK; clear HG; have HG := Lib.hid (box7 hK6.drop.drop.drop.drop.drop.drop); have hK7 := (hK6.sw1.st 2 (.int .i64 t.b.base)).st 3 (.slice E2 es.length g2); have HT := Lib.hid (box7 hK7.drop.drop.drop.drop.drop.drop); obtain ⟨q1, q2, q3⟩ := hK6.drop.blkAt))
      all_goals
        go_wp2_with fail
        go_meet
        exact ⟨rfl, _, _, hK7⟩
    case rest =>
      obtain ⟨rfl, E2, g2, hK5⟩ := hcut
      clear HG HT x1 x2 x3 a1 a2 a3 d1 d2 d3 hK4 KV KS2
      obtain ⟨x1, x2, x3, a1, a2, a3, d1, d2, d3, -⟩ := hK5.cells
      go_wp2_with fail
      rw [show -U = Y by rw [← HYY.out]; omega]
      refine (KS3.out _ hK5.below).mono ?_; rintro e w6 ⟨E3, g3, rfl, hK⟩
      have hK6 := hK5.join hK
      clear x1 x2 x3 a1 a2 a3 d1 d2 d3 hK5
      obtain ⟨x1, x2, x3, a1, a2, a3, d1, d2, d3, -⟩ := hK6.cells
      go_upto_region 22 with fail
      refine Code.wp.kn ((hK6.sw1.st 4 (.int .i64 t.s.base)).st 5 (.slice E3 fs.length g3)) ?_; intro w5 hK5
      clear x1 x2 x3 a1 a2 a3 d1 d2 d3
      obtain ⟨x1, x2, x3, a1, a2, a3, d1, d2, d3, -⟩ := hK5.cells
      go_wp2_with fail
      refine bodyPost.kn ((((((((hK5.front 6 rfl).st 0 (.int .i64 t.a.base)).st 1 (.slice B1 t.a.digits.length h1)).st 2 (.int .i64 t.b.base)).st 3 (.slice E2 es.length g2)).st 4 (.int .i64 t.s.base)).st 5 (.slice E3 fs.length g3)).st 6 (.int .i64 t.carry)) ?_; intro w6 hK6
      clear x1 x2 x3 a1 a2 a3 d1 d2 d3 hK5
      obtain ⟨a1, a2, a3, -⟩ := hK6.cells
      refine bodyPost_ret (v := .tuple #[.agg #[.int .i64 t.a.base, .slice B1 t.a.digits.length h1, .int .i64 t.b.base, .slice E2 es.length g2, .int .i64 t.s.base, .slice E3 fs.length g3, .int .i64 t.carry], .bool bell]) (by simp [results, Tryd.results89, go_sem, a1]) rfl ⟨B1, h1, E2, g2, E3, g3, by rw [HS.out], ?_⟩
      rw [HS.out]
      exact hK6.sel [2, 3, 6] 99 (by decide) (by decide)
  · subst hk
    have KL := Lib.hid (fun W (hW : Below w.heap.size w W) => places_any t A1 A2 A3 c1 c2 c3 W (r1.below hW) (r2.below hW) (r3.below hW) n2 n4 n6)
    have hvp : vplaces t ≤ 16 := by unfold vplaces; omega
    have hwr := wrapI64 (n := t.carry + 1) (by omega)
    have hc4 : -9223372036854775808 ≤ t.carry + 1 ∧ t.carry + 1 ≤ 9223372036854775807 := by omega
    have hS1 : ¬ t.carry + 1 = vplaces t → strokeT 3 t = ({ t with carry := t.carry + 1 }, false) := fun h => by unfold strokeT; simp [h]
    have hS2 : t.carry + 1 = vplaces t → strokeT 3 t = (t, true) := fun h => by unfold strokeT; simp [h]
    obtain ⟨PL, hPL⟩ : ∃ p, vplaces t = p := ⟨_, rfl⟩
    rw [hPL] at KL hS1 hS2
    have HS1 := Lib.hid hS1
    have HS2 := Lib.hid hS2
    clear hS1 hS2 hPL hvp r1 r2 r3 KC KP u1 u2 u3 u4 f1 f2 l1 p0 p1
    go_wp2_with fail
    have HG := Lib.hid (box7 hK4.drew.drop.drop.drop.drop.drop)
    go_cut [7] (fun bb wx => bb = .bool (t.carry + 1 == PL) ∧ Kn w [.blk w2.heap.size [.int .i64 t.a.base, .slice B1 t.a.digits.length h1, .int .i64 t.b.base, .slice B2 t.b.digits.length h2, .int .i64 t.s.base, .slice B3 t.s.digits.length h3, .int .i64 t.carry] 37, rowI B3 h3 t.s.digits, rowI B2 h2 t.b.digits, rowI B1 h1 t.a.digits, .blk (w.heap.size + 1) [.int .i64 0, .slice none 0 0, .int .i64 0, .slice none 0 0, .int .i64 0, .slice none 0 0, .int .i64 0] 37, .blk w.heap.size [.int .i64 t.a.base, .slice A1 t.a.digits.length c1, .int .i64 t.b.base, .slice A2 t.b.digits.length c2, .int .i64 t.s.base, .slice A3 t.s.digits.length c3, .int .i64 t.carry] 37] wx)
    case first =>
      go_region_held3 (fun W => W.cell? ⟨w.heap.size, 0, none⟩ = some (.int .i64 t.a.base) ∧ W.cell? ⟨w.heap.size, 1, none⟩ = some (.slice A1 t.a.digits.length c1) ∧ W.cell? ⟨w.heap.size, 2, none⟩ = some (.int .i64 t.b.base) ∧ W.cell? ⟨w.heap.size, 3, none⟩ = some (.slice A2 t.b.digits.length c2) ∧ W.cell? ⟨w.heap.size, 4, none⟩ = some (.int .i64 t.s.base) ∧ W.cell? ⟨w.heap.size, 5, none⟩ = some (.slice A3 t.s.digits.length c3) ∧ W.cell? ⟨w.heap.size, 6, none⟩ = some (.int .i64 t.carry))
        (first | with_reducible exact HG.out | exact HG.out) (first
        | (go_at_call 137; (with_reducible refine (KL.out _ hK4.drew.below).mono ?_); rintro e w5 ⟨rfl, hw⟩; have hK5 := hK4.drew.keep hw; clear HG; have HG := Lib.hid (box7 hK5.drop.drop.drop.drop.drop)))
      all_goals
        go_wp2_with fail
        go_meet
        exact ⟨by first | rfl | rw [hwr], hK5⟩
    case rest =>
      obtain ⟨rfl, hK7⟩ := hcut
      clear HG x1 x2 x3 a1 a2 a3 d1 d2 d3 hK4 KL
      obtain ⟨x1, x2, x3, a1, a2, a3, d1, d2, d3, -⟩ := hK7.cells
      rcases hc0 : (t.carry + 1 == PL) with _ | _
      · have HS := Lib.hid (HS1.out (by simpa using hc0))
        clear hc0
        go_upto_region 22 with fail
        refine Code.wp.kn (hK7.st 6 (.int .i64 (t.carry + 1))) ?_; intro w5 hK5
        clear hK7
        clear x1 x2 x3 a1 a2 a3 d1 d2 d3
        obtain ⟨x1, x2, x3, a1, a2, a3, d1, d2, d3, -⟩ := hK5.cells
        go_wp2_with fail
        refine bodyPost.kn ((((((((hK5.front 4 rfl).st 0 (.int .i64 t.a.base)).st 1 (.slice B1 t.a.digits.length h1)).st 2 (.int .i64 t.b.base)).st 3 (.slice B2 t.b.digits.length h2)).st 4 (.int .i64 t.s.base)).st 5 (.slice B3 t.s.digits.length h3)).st 6 (.int .i64 (t.carry + 1))) ?_; intro w6 hK6
        clear x1 x2 x3 a1 a2 a3 d1 d2 d3 hK5
        obtain ⟨a1, a2, a3, -⟩ := hK6.cells
        refine bodyPost_ret (v := .tuple #[.agg #[.int .i64 t.a.base, .slice B1 t.a.digits.length h1, .int .i64 t.b.base, .slice B2 t.b.digits.length h2, .int .i64 t.s.base, .slice B3 t.s.digits.length h3, .int .i64 (t.carry + 1)], .bool false]) (by simp [results, Tryd.results89, go_sem, a1]) rfl ⟨B1, h1, B2, h2, B3, h3, by rw [HS.out], ?_⟩
        rw [HS.out]
        exact hK6.sel [2, 3, 4] 99 (by decide) (by decide)
      · have HS := Lib.hid (HS2.out (by simpa using hc0))
        clear hc0
        go_upto_region 22 with fail
        refine Code.wp.kn hK7 ?_; intro w5 hK5
        clear hK7
        clear x1 x2 x3 a1 a2 a3 d1 d2 d3
        obtain ⟨x1, x2, x3, a1, a2, a3, d1, d2, d3, -⟩ := hK5.cells
        go_wp2_with fail
        refine bodyPost.kn ((((((((hK5.front 4 rfl).st 0 (.int .i64 t.a.base)).st 1 (.slice B1 t.a.digits.length h1)).st 2 (.int .i64 t.b.base)).st 3 (.slice B2 t.b.digits.length h2)).st 4 (.int .i64 t.s.base)).st 5 (.slice B3 t.s.digits.length h3)).st 6 (.int .i64 t.carry)) ?_; intro w6 hK6
        clear x1 x2 x3 a1 a2 a3 d1 d2 d3 hK5
        obtain ⟨a1, a2, a3, -⟩ := hK6.cells
        refine bodyPost_ret (v := .tuple #[.agg #[.int .i64 t.a.base, .slice B1 t.a.digits.length h1, .int .i64 t.b.base, .slice B2 t.b.digits.length h2, .int .i64 t.s.base, .slice B3 t.s.digits.length h3, .int .i64 t.carry], .bool true]) (by simp [results, Tryd.results89, go_sem, a1]) rfl ⟨B1, h1, B2, h2, B3, h3, by rw [HS.out], ?_⟩
        rw [HS.out]
        exact hK6.sel [2, 3, 4] 99 (by decide) (by decide)
  · subst hk
    rcases hc0 : decide (t.carry = 0) with _ | _
    · have hc1 := of_decide_eq_false hc0
      have hc2 : (t.carry == 0) = false := by simp; exact hc1
      have hc3 : -9223372036854775808 ≤ t.carry - 1 ∧ t.carry - 1 ≤ 9223372036854775807 := by unfold vplaces at p1; omega
      have HC := Lib.hid hc1
      clear hc0 hc1 u1 u2 u3 u4 f1 f2 l1 p0 p1 KC KP
      go_upto_region 22 with fail
      refine Code.wp.kn (hK4.st 6 (.int .i64 (t.carry - 1))) ?_; intro w5 hK5
      have hS : strokeT 4 t = ({ t with carry := t.carry - 1 }, false) := by unfold strokeT; simp [HC.out]
      have HS := Lib.hid hS
      clear hS hK4
      clear x1 x2 x3 a1 a2 a3 d1 d2 d3
      obtain ⟨x1, x2, x3, a1, a2, a3, d1, d2, d3, -⟩ := hK5.cells
      go_wp2_with fail
      refine bodyPost.kn ((((((((hK5.front 4 rfl).st 0 (.int .i64 t.a.base)).st 1 (.slice B1 t.a.digits.length h1)).st 2 (.int .i64 t.b.base)).st 3 (.slice B2 t.b.digits.length h2)).st 4 (.int .i64 t.s.base)).st 5 (.slice B3 t.s.digits.length h3)).st 6 (.int .i64 (t.carry - 1))) ?_; intro w6 hK6
      clear x1 x2 x3 a1 a2 a3 d1 d2 d3 hK5
      obtain ⟨a1, a2, a3, -⟩ := hK6.cells
      refine bodyPost_ret (v := .tuple #[.agg #[.int .i64 t.a.base, .slice B1 t.a.digits.length h1, .int .i64 t.b.base, .slice B2 t.b.digits.length h2, .int .i64 t.s.base, .slice B3 t.s.digits.length h3, .int .i64 (t.carry - 1)], .bool false]) (by simp [results, Tryd.results89, go_sem, a1]) rfl ⟨B1, h1, B2, h2, B3, h3, by rw [HS.out], ?_⟩
      rw [HS.out]
      exact hK6.sel [2, 3, 4] 99 (by decide) (by decide)
    · have hc1 := of_decide_eq_true hc0
      have HC := Lib.hid hc1
      have hc2 : (t.carry == 0) = true := by simp; exact hc1
      clear hc0 hc1 u1 u2 u3 u4 f1 f2 l1 p0 p1 KC KP
      go_upto_region 22 with fail
      refine Code.wp.kn hK4 ?_; intro w5 hK5
      have hS : strokeT 4 t = (t, true) := by unfold strokeT; simp [HC.out]
      have HS := Lib.hid hS
      clear hS hK4
      clear x1 x2 x3 a1 a2 a3 d1 d2 d3
      obtain ⟨x1, x2, x3, a1, a2, a3, d1, d2, d3, -⟩ := hK5.cells
      go_wp2_with fail
      refine bodyPost.kn ((((((((hK5.front 4 rfl).st 0 (.int .i64 t.a.base)).st 1 (.slice B1 t.a.digits.length h1)).st 2 (.int .i64 t.b.base)).st 3 (.slice B2 t.b.digits.length h2)).st 4 (.int .i64 t.s.base)).st 5 (.slice B3 t.s.digits.length h3)).st 6 (.int .i64 t.carry)) ?_; intro w6 hK6
      clear x1 x2 x3 a1 a2 a3 d1 d2 d3 hK5
      obtain ⟨a1, a2, a3, -⟩ := hK6.cells
      refine bodyPost_ret (v := .tuple #[.agg #[.int .i64 t.a.base, .slice B1 t.a.digits.length h1, .int .i64 t.b.base, .slice B2 t.b.digits.length h2, .int .i64 t.s.base, .slice B3 t.s.digits.length h3, .int .i64 t.carry], .bool true]) (by simp [results, Tryd.results89, go_sem, a1]) rfl ⟨B1, h1, B2, h2, B3, h3, by rw [HS.out], ?_⟩
      rw [HS.out]
      exact hK6.sel [2, 3, 4] 99 (by decide) (by decide)
  · subst hk
    have KW2 := (fun W => withValue_any t.b.base A2 t.b.digits.length c2 0 W b3 b4 (by omega) (by decide) (by decide))
    have KW3 := (fun W => withValue_any t.s.base A3 t.s.digits.length c3 0 W b5 b6 (by omega) (by decide) (by decide))
    have hS : strokeT 5 t = (⟨t.a, ⟨t.b.base, digD t.b.base t.b.digits.length 0⟩, ⟨t.s.base, digD t.s.base t.s.digits.length 0⟩, t.carry⟩, false) := by unfold strokeT; simp
    obtain ⟨es, hes⟩ : ∃ es, digD t.b.base t.b.digits.length 0 = es := ⟨_, rfl⟩
    obtain ⟨fs, hfs⟩ : ∃ fs, digD t.s.base t.s.digits.length 0 = fs := ⟨_, rfl⟩
    rw [hes] at KW2
    rw [hfs] at KW3
    rw [hes, hfs] at hS
    have KW2 := Lib.hid KW2
    have KW3 := Lib.hid KW3
    have HS := Lib.hid hS
    clear hS hes hfs r1 r2 r3 KC KP u1 u2 u3 u4 f1 f2 l1 p0 p1
    go_wp2_with fail
    have HG := Lib.hid (box7 hK4.drew.drop.drop.drop.drop.drop)
    have HT := HG
    have HT2 := HG
    go_region_held3 (fun W => W.cell? ⟨w.heap.size, 0, none⟩ = some (.int .i64 t.a.base) ∧ W.cell? ⟨w.heap.size, 1, none⟩ = some (.slice A1 t.a.digits.length c1) ∧ W.cell? ⟨w.heap.size, 2, none⟩ = some (.int .i64 t.b.base) ∧ W.cell? ⟨w.heap.size, 3, none⟩ = some (.slice A2 t.b.digits.length c2) ∧ W.cell? ⟨w.heap.size, 4, none⟩ = some (.int .i64 t.s.base) ∧ W.cell? ⟨w.heap.size, 5, none⟩ = some (.slice A3 t.s.digits.length c3) ∧ W.cell? ⟨w.heap.size, 6, none⟩ = some (.int .i64 t.carry))
      (first | with_reducible exact HG.out | with_reducible exact HT.out | with_reducible exact HT2.out | exact HG.out | exact HT.out | exact HT2.out) (first
      | (go_at_call 165; (with_reducible refine (KW2.out _).mono ?_); rintro e w5 ⟨E2, g2, rfl, hK⟩; have hK5 := hK4.drew.join hK; clear HG; have HG := Lib.hid (box7 hK5.drop.drop.drop.drop.drop.drop))
      | (go_at_call 165; (with_reducible refine (KW3.out _).mono ?_); rintro e w6 ⟨E3, g3, rfl, hK⟩; have hK6 := hK5.join hK; clear HG; have HG := Lib.hid (box7 hK6.drop.drop.drop.drop.drop.drop.drop); have hK7 := (hK6.sw2.st 2 (.int .i64 t.b.base)).st 3 (.slice E2 es.length g2); have HT := Lib.hid (box7 hK7.drop.drop.drop.drop.drop.drop.drop); have hK8 := (hK7.st 4 (.int .i64 t.s.base)).st 5 (.slice E3 fs.length g3); have HT2 := Lib.hid (box7 hK8.drop.drop.drop.drop.drop.drop.drop); obtain ⟨q1, q2, q3⟩ := hK6.drop.drop.blkAt))
    all_goals
      clear x1 x2 x3 a1 a2 a3 d1 d2 d3
      go_upto_region 22 with fail
      refine Code.wp.kn hK8 ?_; intro w5 hK5
      clear hK7 hK8 HG HT HT2 hK6 hK4
      obtain ⟨x1, x2, x3, a1, a2, a3, d1, d2, d3, -⟩ := hK5.cells
      clear x1 x2 x3 a1 a2 a3 d1 d2 d3
      obtain ⟨x1, x2, x3, a1, a2, a3, d1, d2, d3, -⟩ := hK5.cells
      go_wp2_with fail
      refine bodyPost.kn ((((((((hK5.front 6 rfl).st 0 (.int .i64 t.a.base)).st 1 (.slice B1 t.a.digits.length h1)).st 2 (.int .i64 t.b.base)).st 3 (.slice E2 es.length g2)).st 4 (.int .i64 t.s.base)).st 5 (.slice E3 fs.length g3)).st 6 (.int .i64 t.carry)) ?_; intro w6 hK6
      clear x1 x2 x3 a1 a2 a3 d1 d2 d3 hK5
      obtain ⟨a1, a2, a3, -⟩ := hK6.cells
      refine bodyPost_ret (v := .tuple #[.agg #[.int .i64 t.a.base, .slice B1 t.a.digits.length h1, .int .i64 t.b.base, .slice E2 es.length g2, .int .i64 t.s.base, .slice E3 fs.length g3, .int .i64 t.carry], .bool false]) (by simp [results, Tryd.results89, go_sem, a1]) rfl ⟨B1, h1, E2, g2, E3, g3, by rw [HS.out], ?_⟩
      rw [HS.out]
      exact hK6.sel [2, 3, 6] 99 (by decide) (by decide)
  · subst hk
    have KW2 := (fun W => withValue_any t.a.base A1 t.a.digits.length c1 0 W b1 b2 (by omega) (by decide) (by decide))
    have hS : strokeT 6 t = ({ t with a := ⟨t.a.base, digD t.a.base t.a.digits.length 0⟩ }, false) := by unfold strokeT; simp
    obtain ⟨es, hes⟩ : ∃ es, digD t.a.base t.a.digits.length 0 = es := ⟨_, rfl⟩
    rw [hes] at KW2 hS
    have KW2 := Lib.hid KW2
    have HS := Lib.hid hS
    clear hS hes r1 r2 r3 KC KP u1 u2 u3 u4 f1 f2 l1 p0 p1
    go_upto_region 22 with (go_at_call 165; (with_reducible refine (KW2.out _).mono ?_); rintro e w5 ⟨E2, g2, rfl, hK⟩; have hK6 := hK4.join hK; clear x1 x2 x3 a1 a2 a3 d1 d2 d3; obtain ⟨x1, x2, x3, a1, a2, a3, d1, d2, d3, -⟩ := hK6.cells)
    refine Code.wp.kn ((hK6.sw1.st 0 (.int .i64 t.a.base)).st 1 (.slice E2 es.length g2)) ?_; intro w5 hK5
    clear hK6 hK4
    clear x1 x2 x3 a1 a2 a3 d1 d2 d3
    obtain ⟨x1, x2, x3, a1, a2, a3, d1, d2, d3, -⟩ := hK5.cells
    go_wp2_with fail
    refine bodyPost.kn ((((((((hK5.front 5 rfl).st 0 (.int .i64 t.a.base)).st 1 (.slice E2 es.length g2)).st 2 (.int .i64 t.b.base)).st 3 (.slice B2 t.b.digits.length h2)).st 4 (.int .i64 t.s.base)).st 5 (.slice B3 t.s.digits.length h3)).st 6 (.int .i64 t.carry)) ?_; intro w6 hK6
    clear x1 x2 x3 a1 a2 a3 d1 d2 d3 hK5
    obtain ⟨a1, a2, a3, -⟩ := hK6.cells
    refine bodyPost_ret (v := .tuple #[.agg #[.int .i64 t.a.base, .slice E2 es.length g2, .int .i64 t.b.base, .slice B2 t.b.digits.length h2, .int .i64 t.s.base, .slice B3 t.s.digits.length h3, .int .i64 t.carry], .bool false]) (by simp [results, Tryd.results89, go_sem, a1]) rfl ⟨E2, g2, B2, h2, B3, h3, by rw [HS.out], ?_⟩
    rw [HS.out]
    exact hK6.sel [3, 4, 2] 99 (by decide) (by decide)
end Go.Proofs.YtcapccadpbiecaaDoor

namespace Go.Proofs.YtcapccadpbiecaaDoor
open Go.RowKit Go.Sort
theorem RegAt.below {w w' : World} {p : Addr} {b : Int} {A : Option Addr} {n c : Nat} (h : RegAt w p b A n c) (hb : Below w.heap.size w w') : RegAt w' p b A n c := by
  have hp : p.block < w.heap.size := World.block_lt_of_cell? w p h.1
  exact ⟨by rw [hb.cell hp]; exact h.1, by rw [hb.cell (by exact hp)]; exact h.2⟩
theorem l02Own_any (p : Addr) (b : Int) (A : Option Addr) (n c : Nat) (ds : List Int) (w : World) (hp : RegAt w p b A n c) (hr : RI w A n ds) (h0 : 0 < n) (hm : n ≤ 1000000) :
    Calls Tryd.prog 153 #[.pointer (some p)] w fun e w' => ∃ A' c', e = .returned (.agg #[.int .i64 b, .slice A' ds.length c']) ∧ Kn w [rowI A' c' ds] w' := by
  have KC := Lib.hid (fun W (hW : Below w.heap.size w W) => l00Own_any A n c ds W (hr.below hW) h0 hm)
  have hl := hr.1
  subst hl
  clear hr
  have HP := Lib.hid (fun W (hW : Below w.heap.size w W) => hp.below hW)
  go_enter Tryd.func153, Tryd.ntmps153
  go_wp2_with fail
  have hK2 := (Kn.nil w).al [.int .i64 0, .slice none 0 0] 35
  generalize w.alloc (.cells #[.int .i64 0, .slice none 0 0] 35) = w2 at hK2 ⊢
  have HG := Lib.hid (show _ ∧ _ from HP.out _ hK2.drew.below)
  go_region_held3 (fun W => W.cell? p = some (.int .i64 b) ∧ W.cell? ⟨p.block, p.off + 1, none⟩ = some (.slice A ds.length c))
    (first | with_reducible exact HG.out | with_reducible exact HS.out | exact HG.out) (first
    | (go_at_call 202; refine (KC.out _ hK2.drew.below).mono ?_; rintro e w4 ⟨A', c', rfl, hK⟩; have hK4 := hK2.drew.join hK; clear HG; have hq := HP.out _ hK4.below; have HG := Lib.hid (show _ ∧ _ from hq); obtain ⟨g1, f1, l1⟩ := hK4.drop.blkAt; have hK5 := (hK4.sw1.st 0 (.int .i64 b)).st 1 (.slice A' ds.length c'); have HS := Lib.hid (show _ ∧ _ from HP.out _ hK5.below)))
  all_goals
    go_wp2_with fail
    refine bodyPost_ret (v := .agg #[.int .i64 b, .slice A' ds.length c']) (by simp [results, Tryd.results153, go_sem, g1]) rfl ⟨A', c', rfl, ?_⟩
    exact hK5.drop
set_option maxRecDepth 100000 in
set_option maxHeartbeats 1600000 in
theorem l10Own_any (g : Nat) (t : Tri) (A1 A2 A3 : Option Addr) (c1 c2 c3 : Nat) (w : World) (hT : TriC w ⟨g, 0, none⟩ t A1 c1 A2 c2 A3 c3) (hz : Sized t) :
    Calls Tryd.prog 81 #[.pointer (some ⟨g, 0, none⟩)] w fun e w' => ∃ A1 c1 A2 c2 A3 c3, e = .returned (.agg #[.int .i64 t.a.base, .slice A1 t.a.digits.length c1, .int .i64 t.b.base, .slice A2 t.b.digits.length c2, .int .i64 t.s.base, .slice A3 t.s.digits.length c3, .int .i64 t.carry]) ∧ Kn w [rowI A3 c3 t.s.digits, rowI A2 c2 t.b.digits, rowI A1 c1 t.a.digits] w' := by
  obtain ⟨⟨q1, q2, q3, q4, q5, q6, q7⟩, r1, r2, r3⟩ := hT
  simp only [Nat.zero_add] at q1 q2 q3 q4 q5 q6 q7
  have hlt : g < w.heap.size := World.block_lt_of_cell? w _ q1
  have K1 := Lib.hid (fun W (hW : Below w.heap.size w W) => l02Own_any ⟨g, 0, none⟩ t.a.base A1 t.a.digits.length c1 t.a.digits W (RegAt.below ⟨q1, q2⟩ hW) (r1.below hW) hz.a0 (by have := hz.a; omega))
  have K2 := Lib.hid (fun W (hW : Below w.heap.size w W) => l02Own_any ⟨g, 2, none⟩ t.b.base A2 t.b.digits.length c2 t.b.digits W (RegAt.below ⟨q3, q4⟩ hW) (r2.below hW) hz.b0 (by have := hz.b; omega))
  have K3 := Lib.hid (fun W (hW : Below w.heap.size w W) => l02Own_any ⟨g, 4, none⟩ t.s.base A3 t.s.digits.length c3 t.s.digits W (RegAt.below ⟨q5, q6⟩ hW) (r3.below hW) hz.s0 (by have := hz.s; omega))
  have HP := Lib.hid (fun W (hW : Below w.heap.size w W) => (hW.cell (p := ⟨g, 6, none⟩) hlt).trans q7)
  clear q1 q2 q3 q4 q5 q6 q7 r1 r2 r3 hz
  go_enter Tryd.func81, Tryd.ntmps81
  go_wp2_with fail
  have hK2 := (Kn.nil w).al [.int .i64 0, .slice none 0 0, .int .i64 0, .slice none 0 0, .int .i64 0, .slice none 0 0, .int .i64 0] 37
  generalize w.alloc (.cells #[.int .i64 0, .slice none 0 0, .int .i64 0, .slice none 0 0, .int .i64 0, .slice none 0 0, .int .i64 0] 37) = w2 at hK2 ⊢
  have HG := Lib.hid (HP.out _ hK2.drew.below)
  go_region_held3 (fun W => W.cell? ⟨g, 6, none⟩ = some (.int .i64 t.carry))
    (first | with_reducible exact HG.out | with_reducible exact HS.out | exact HG.out) (first
    | (go_at_call 153; (with_reducible refine (K1.out _ hK2.drew.below).mono ?_); rintro e w4 ⟨B1, e1, rfl, hK⟩; have hK4 := hK2.drew.join hK; clear HG; have hq := HP.out _ hK4.below; have HG := Lib.hid hq)
    | (go_at_call 153; (with_reducible refine (K2.out _ hK4.below).mono ?_); rintro e w5 ⟨B2, e2, rfl, hK⟩; have hK5 := hK4.join hK; clear HG; have hq := HP.out _ hK5.below; have HG := Lib.hid hq)
    | (go_at_call 153; (with_reducible refine (K3.out _ hK5.below).mono ?_); rintro e w6 ⟨B3, e3, rfl, hK⟩; have hK6 := hK5.join hK; clear HG; have hq := HP.out _ hK6.below; have HG := Lib.hid hq; have hK7 := ((((((hK6.sw3.st 0 (.int .i64 t.a.base)).st 1 (.slice B1 t.a.digits.length e1)).st 2 (.int .i64 t.b.base)).st 3 (.slice B2 t.b.digits.length e2)).st 4 (.int .i64 t.s.base)).st 5 (.slice B3 t.s.digits.length e3)).st 6 (.int .i64 t.carry); have hq2 := HP.out _ hK7.below; have HS := Lib.hid hq2; obtain ⟨g1, f1, l1⟩ := hK6.drop.drop.drop.blkAt))
  all_goals
    go_wp2_with fail
    refine bodyPost_ret (v := .agg #[.int .i64 t.a.base, .slice B1 t.a.digits.length e1, .int .i64 t.b.base, .slice B2 t.b.digits.length e2, .int .i64 t.s.base, .slice B3 t.s.digits.length e3, .int .i64 t.carry]) (by simp [results, Tryd.results81, go_sem, g1]) rfl ⟨B1, e1, B2, e2, B3, e3, rfl, ?_⟩
    exact hK7.drop
end Go.Proofs.YtcapccadpbiecaaDoor

namespace Go.Proofs.YtcapccadpbiecaaDoor
open Go.RowKit Go.Sort
/-- the first k numbers are 0 -/
def zeroUpto (k : Nat) (ds : List Int) : List Int := List.replicate k 0 ++ ds.drop k
theorem zeroUpto_len {k : Nat} {ds : List Int} (h : k ≤ ds.length) : (zeroUpto k ds).length = ds.length := by simp [zeroUpto]; omega
theorem zeroUpto_step {k : Nat} {ds : List Int} (h : k < ds.length) : (zeroUpto k ds).set k 0 = zeroUpto (k + 1) ds := by
  unfold zeroUpto
  rw [List.set_append_right _ _ (by simp), List.drop_eq_getElem_cons h, List.replicate_succ', List.length_replicate, Nat.sub_self, List.set_cons_zero, List.append_assoc]
  rfl
theorem zeroUpto_all (ds : List Int) : zeroUpto ds.length ds = List.replicate ds.length 0 := by simp [zeroUpto]
set_option maxHeartbeats 800000 in
/-- digits of numbers that are owned are set to 0 -/
theorem l10ZeroK {w0 : World} {m : List Ent} {cs : List Value} {T : TypeId} {g o : Nat} (A : Option Addr) (c : Nat) (ds : List Int) (w : World) (hK : Kn w0 (rowI A c ds :: .blk g cs T :: m) w) (ho : cs[o + 1]? = some (.slice A ds.length c)) (h0 : 0 < ds.length) (hl : ds.length ≤ 1000000) :
    Calls Tryd.prog 156 #[.pointer (some ⟨g, o, none⟩)] w fun e w' => e = .returned (.tuple #[]) ∧ Kn w0 (rowI A c (List.replicate ds.length 0) :: .blk g cs T :: m) w' := by
  obtain ⟨r, c', hA⟩ := Kn.rowForm hK h0
  injection hA with hA hA2 hA3
  subst hA; subst hA3
  have HO := Lib.hid ho; clear ho
  go_enter Tryd.func156, Tryd.ntmps156
  go_wp2_with fail
  go_loopw [2] (fun ii wr => ∃ k : Nat, k ≤ ds.length ∧ ii = .int .i64 k ∧ Kn w0 (rowI (some ⟨r, 0, none⟩) c (zeroUpto k ds) :: .blk g cs T :: m) wr) (fun i _ => ds.length - (intOf i).toNat)
  case atStart => exact ⟨0, Nat.zero_le _, rfl, hK⟩
  case round =>
    clear hK
    obtain ⟨k, hk, rfl, hK⟩ := hrel
    have x1 := (hK.drop.blkAt.1 (o + 1)).trans HO.out
    by_cases hlt : k < ds.length
    · have hz := zeroUpto_step hlt
      have hlen := zeroUpto_len hk
      have hj : ∃ z : Value, ((zeroUpto k ds).map (Value.int .i64))[k]? = some z := ⟨_, by rw [List.getElem?_map, List.getElem?_eq_getElem (show k < (zeroUpto k ds).length by omega)]; rfl⟩
      obtain ⟨z, hj⟩ := hj
      obtain ⟨x2, x3⟩ := Kn.rowCell hK hj
      have HZ := Lib.hid hz
      clear hz hj hlen
      have hi1 : (k : Int) < (ds.length : Int) := by omega
      go_wp2_with fail
      go_roundw
      case rel => exact ⟨k + 1, by omega, by go_num, by rw [← HZ.out]; exact Kn.setI hK k 0⟩
      case measure => simp [intOf]; omega
    · have hi1 : ¬ (k : Int) < (ds.length : Int) := by omega
      obtain rfl : k = ds.length := by omega
      go_wp2_with fail
      go_end0
      exact ⟨rfl, by rw [← zeroUpto_all]; exact hK⟩
end Go.Proofs.YtcapccadpbiecaaDoor

namespace Go.Proofs.YtcapccadpbiecaaDoor
open Go.RowKit Go.Sort
theorem l10PlacesK {w0 : World} {m : List Ent} {rest : List Value} {T : TypeId} {g : Nat} (t : Tri) (A1 A2 A3 : Option Addr) (c1 c2 c3 : Nat) (w : World) (hK : Kn w0 (.blk g (.int .i64 t.a.base :: .slice A1 t.a.digits.length c1 :: .int .i64 t.b.base :: .slice A2 t.b.digits.length c2 :: .int .i64 t.s.base :: .slice A3 t.s.digits.length c3 :: .int .i64 t.carry :: rest) T :: m) w) (h1 : t.a.digits.length ≤ 16) (h2 : t.b.digits.length ≤ 16) (_h3 : t.s.digits.length ≤ 16) :
    Calls Tryd.prog 151 #[.pointer (some ⟨g, 0, none⟩)] w fun e w' => e = .returned (.int .i64 (vplaces t)) ∧ ∃ q, w' = w.drewN q := by
  obtain ⟨a1, a2, a3⟩ := hK.blkAt
  clear hK
  go_enter Tryd.func151, Tryd.ntmps151
  go_wp2_with fail
  go_quiet ((go_at_call 179; exact quiet_left (l00Min_any _ _ _)))
  go_wp2
  go_ret
  exact ⟨ret_int (by unfold vplaces; omega), _, rfl⟩
set_option maxHeartbeats 1600000 in
theorem l10ShiftK {w0 : World} {m : List Ent} {rest : List Value} {T : TypeId} {g : Nat} (t : Tri) (A1 A2 A3 : Option Addr) (c1 c2 c3 : Nat) (by_ : Int) (w : World) (hK : Kn w0 (.blk g (.int .i64 t.a.base :: .slice A1 t.a.digits.length c1 :: .int .i64 t.b.base :: .slice A2 t.b.digits.length c2 :: .int .i64 t.s.base :: .slice A3 t.s.digits.length c3 :: .int .i64 t.carry :: rest) T :: m) w) (hv : vmach t = true) (hb : by_ = 1 ∨ by_ = -1) :
    Calls Tryd.prog 155 #[.pointer (some ⟨g, 0, none⟩), .int .i64 by_] w fun e w' => 
      (betB (t.carry + by_) 0 (vplaces t - 1) = true → e = .returned (.bool false) ∧ Kn w0 (.blk g (.int .i64 t.a.base :: .slice A1 t.a.digits.length c1 :: .int .i64 t.b.base :: .slice A2 t.b.digits.length c2 :: .int .i64 t.s.base :: .slice A3 t.s.digits.length c3 :: .int .i64 (t.carry + by_) :: rest) T :: m) w') ∧ (betB (t.carry + by_) 0 (vplaces t - 1) = false → e = .returned (.bool true) ∧ Kn w0 (.blk g (.int .i64 t.a.base :: .slice A1 t.a.digits.length c1 :: .int .i64 t.b.base :: .slice A2 t.b.digits.length c2 :: .int .i64 t.s.base :: .slice A3 t.s.digits.length c3 :: .int .i64 t.carry :: rest) T :: m) w') := by
  obtain ⟨k1, k2, k3, e1, e2, f1, f2, l1, p0, p1⟩ := vmach_all hv
  obtain ⟨-, ⟨n1, n2⟩, -, -⟩ := vreg_iff.1 k1
  obtain ⟨-, ⟨n3, n4⟩, -, -⟩ := vreg_iff.1 k2
  obtain ⟨-, ⟨n5, n6⟩, -, -⟩ := vreg_iff.1 k3
  have hp1 : -16 ≤ vplaces t ∧ vplaces t ≤ 16 := by unfold vplaces; omega
  have KP := Lib.hid (fun W (h : Kn w0 (.blk g (.int .i64 t.a.base :: .slice A1 t.a.digits.length c1 :: .int .i64 t.b.base :: .slice A2 t.b.digits.length c2 :: .int .i64 t.s.base :: .slice A3 t.s.digits.length c3 :: .int .i64 t.carry :: rest) T :: m) W) => l10PlacesK t A1 A2 A3 c1 c2 c3 W h n2 n4 n6)
  have hw := wrapI64 (n := t.carry + by_) (by omega)
  have hw2 := wrapI64 (n := vplaces t - 1) (by omega)
  obtain ⟨P, hP⟩ : ∃ P, vplaces t = P := ⟨_, rfl⟩
  rw [hP] at KP hw2 hp1 p1 ⊢
  obtain ⟨a1, a2, a3⟩ := hK.blkAt
  clear k1 k2 k3 f1 f2 l1 n1 n2 n3 n4 n5 n6 hP e1 e2 hv
  rcases hbt : betB (t.carry + by_) 0 (P - 1) with _ | _
  · have KI := Lib.hid (fun W => calls_val (l00In_any (t.carry + by_) 0 (P - 1) W) (congrArg Value.bool hbt))
    clear hbt
    go_enter Tryd.func155, Tryd.ntmps155
    go_wp2_with fail
    go_quiet ((first | (go_at_call 151; first | exact quiet_of_ex (KP.out _ (hK.drewN _)) | exact quiet_add_ex (KP.out _ (hK.drewN _))) | (go_at_call 128; first | exact quiet_left (KI.out _) | exact quiet_add_left (KI.out _))))
    go_wp2_with fail
    go_ret
    exact ⟨(fun h => by cases h), fun _ => ⟨rfl, hK.drewN _⟩⟩
  · have KI := Lib.hid (fun W => calls_val (l00In_any (t.carry + by_) 0 (P - 1) W) (congrArg Value.bool hbt))
    clear hbt
    go_enter Tryd.func155, Tryd.ntmps155
    go_wp2_with fail
    go_quiet ((first | (go_at_call 151; first | exact quiet_of_ex (KP.out _ (hK.drewN _)) | exact quiet_add_ex (KP.out _ (hK.drewN _))) | (go_at_call 128; first | exact quiet_left (KI.out _) | exact quiet_add_left (KI.out _))))
    go_wp2_with fail
    go_ret
    exact ⟨fun _ => ⟨rfl, (hK.drewN _).st 6 _⟩, (fun h => by cases h)⟩
end Go.Proofs.YtcapccadpbiecaaDoor

namespace Go.Proofs.YtcapccadpbiecaaDoor
open Go.RowKit Go.Sort
set_option maxRecDepth 100000 in
set_option maxHeartbeats 1600000 in
theorem l10Move_any (p : Addr) (b : Int) (A : Option Addr) (c : Nat) (ds : List Int) (x : Int) (w : World) (hp : RegAt w p b A ds.length c) (hr : RI w A ds.length ds) (hv : vreg b ds = true) (hpw : pw b ds.length ≤ 1000000000001) (hx0 : -1000000000001 ≤ x) (hx1 : x ≤ 1000000000001) :
    Calls Tryd.prog 203 #[.pointer (some p), .int .i64 x] w fun e w' => ∃ A' c', e = .returned (.tuple #[.agg #[.int .i64 b, .slice A' (shiftD b ds x).length c'], .bool (shiftB b ds x)]) ∧ Kn w [rowI A' c' (shiftD b ds x)] w' := by
  obtain ⟨⟨b1, b2⟩, ⟨n1, n2⟩, hd, hl⟩ := vreg_iff.1 hv
  have hp1 := pw_pos b b1 ds.length
  have hv0 := (valL_bd b b1 ds (fun d h => (hd d h).1)).1
  have KN := (fun W => l10Power_any b ds.length W b1 b2 (by omega))
  have hpc : powS b ds.length = pw b ds.length := by unfold powS; omega
  rw [hpc] at KN
  have KV := (fun W (hW : Below w.heap.size w W) => l02Value_any b A ds.length c ds W b1 b2 hd (hr.below hW) n2)
  have hsd : shiftD b ds x = digD b ds.length (((valL b ds + x).tmod (pw b ds.length) + pw b ds.length).tmod (pw b ds.length)) := rfl
  have hsb : shiftB b ds x = (decide (valL b ds + x < 0) || decide (pw b ds.length ≤ valL b ds + x)) := rfl
  obtain ⟨N, hN⟩ : ∃ N, pw b ds.length = N := ⟨_, rfl⟩
  obtain ⟨V, hV⟩ : ∃ V, valL b ds = V := ⟨_, rfl⟩
  rw [hN] at KN hsd hsb hpw hp1
  rw [hV] at KV hsd hsb hv0 hl
  obtain ⟨S, hS⟩ : ∃ S, V + x = S := ⟨_, rfl⟩
  rw [hS] at hsd hsb
  have hSb : -1000000000001 ≤ S ∧ S ≤ 2000000000001 := by omega
  have hm1 : -N < S.tmod N ∧ S.tmod N < N := by
    have h1 := Int.tmod_lt_of_pos S (show 0 < N by omega)
    have h2 := Int.lt_tmod_of_pos S (show 0 < N by omega)
    omega
  have hm2 : 0 ≤ (S.tmod N + N).tmod N ∧ (S.tmod N + N).tmod N < N := ⟨Int.tmod_nonneg _ (by omega), Int.tmod_lt_of_pos _ (by omega)⟩
  have hwr : IntKind.i64.wrap (S.tmod N + N) = S.tmod N + N := wrapI64 (by omega)
  have hwn : IntKind.i64.wrap (N - 1) = N - 1 := wrapI64 (by omega)
  have nz1 : N ≠ 0 := by omega
  have nz2 : (N == 0) = false := by simp; omega
  have nz3 : ¬ N = 0 := by omega
  have KW := (fun W => l02NewV_any b ds.length ((S.tmod N + N).tmod N) W b1 b2 (by omega) hm2.1 (by omega))
  rw [← hsd] at KW
  obtain ⟨es, hes⟩ : ∃ es, shiftD b ds x = es := ⟨_, rfl⟩
  rw [hes] at KW ⊢
  obtain ⟨bell, hbl⟩ : ∃ e, shiftB b ds x = e := ⟨_, rfl⟩
  have HSB := Lib.hid (show (!betB S 0 (N - 1)) = bell by
    rw [← hbl, hsb]
    rcases hb : betB S 0 (N - 1) with _ | _
    · have := betB_false.1 hb
      simp; omega
    · have := betB_iff.1 hb
      simp; omega)
  rw [hbl]
  have KI := Lib.hid (fun W => l00In_any S 0 (N - 1) W)
  have KN := Lib.hid KN
  have KV := Lib.hid KV
  have KW := Lib.hid KW
  have hSe : IntKind.i64.wrap (V + x) = S := by rw [hS]; exact wrapI64 (by omega)
  have HSE := Lib.hid hS
  have hV2 : -9223372036854775808 ≤ V + x ∧ V + x ≤ 9223372036854775807 := by omega
  have HP := Lib.hid (fun W (hW : Below w.heap.size w W) => hp.below hW)
  clear hsd hsb hes hbl hr hv hd hl hpc hN hV hS hp hSe
  go_enter Tryd.func203, Tryd.ntmps203
  go_wp2_with (first
    | (refine wpList.kn ((Kn.nil w).al [.int .i64 0, .slice none 0 0] 35) ?_; intro w2 hK2; obtain ⟨x1, x2⟩ := HP.out _ hK2.below)
    | (go_at_call 113; refine (KN.out _).mono ?_; rintro e w' ⟨rfl, rfl⟩))
  go_quiet ((go_at_call 186; exact quiet_left (KV.out _ (hK2.drewN _).below)))
  clear x1 x2
  have hK3 := hK2.drewN nq
  generalize w2.drewN nq = w3 at hK3 ⊢
  rw [HSE.out]
  have hq := HP.out _ hK3.drew.below
  have HG := Lib.hid (show _ ∧ _ from hq)
  have hq0 := HP.out _ (hK3.al [.int .i64 0, .slice none 0 0] 35).drew.below
  have HA := Lib.hid (show _ ∧ _ from hq0)
  have HS := HG
  clear hq hq0
  go_wp2_with fail
  go_cut [9] (fun pp wx => ∃ (g : Nat) (A' : Option Addr) (c' : Nat), pp = .pointer (some ⟨g, 0, none⟩) ∧ Kn w [.blk g [.int .i64 b, .slice A' es.length c'] 35, rowI A' c' es, .blk w.heap.size [.int .i64 0, .slice none 0 0] 35] wx)
  case first =>
    go_region_held3 (fun W => W.cell? p = some (.int .i64 b) ∧ W.cell? ⟨p.block, p.off + 1, none⟩ = some (.slice A ds.length c))
      (first | with_reducible exact HG.out | with_reducible exact HA.out | with_reducible exact HS.out | exact HG.out | exact HA.out | exact HS.out) (first
      | (go_at_call 183; (with_reducible refine (KW.out _).mono ?_); rintro e w4 ⟨A', c', rfl, hK⟩; clear HG HA; first
        | (have hK4 := hK3.drew.join hK; have hq := HP.out _ hK4.below; have HG := Lib.hid (show _ ∧ _ from hq); have hq1 := HP.out _ (hK4.al [.int .i64 0, .slice none 0 0] 35).below; have HA := Lib.hid (show _ ∧ _ from hq1); have hK5 := hK4.al [.int .i64 b, .slice A' es.length c'] 35; have hq2 := HP.out _ hK5.below; have HS := Lib.hid (show _ ∧ _ from hq2))
        | (have hK4 := (hK3.al [.int .i64 0, .slice none 0 0] 35).drew.join hK; have hq := HP.out _ hK4.below; have HG := Lib.hid (show _ ∧ _ from hq); obtain ⟨g1, f1, l1⟩ := hK4.drop.blkAt; have HA := HG; have hK5 := (hK4.sw1.st 0 (.int .i64 b)).st 1 (.slice A' es.length c'); have hq2 := HP.out _ hK5.below; have HS := Lib.hid (show _ ∧ _ from hq2))))
    all_goals
      go_wp2_with fail
      go_meet
      exact ⟨_, _, _, rfl, hK5⟩
  case rest =>
    obtain ⟨g, A', c', rfl, hK5⟩ := hcut
    clear HG HA HS KN KV KW hK2 hK3
    obtain ⟨a1, a2, a3, d1, d2, d3, -⟩ := hK5.cells
    go_wp2_with fail
    have HG := Lib.hid (box2 hK5.drew)
    have hK6 := ((hK5.sw2.st 0 (.int .i64 b)).st 1 (.slice A' es.length c')).drew
    have HS := Lib.hid (box2 hK6.drop)
    go_region_held3 (fun W => W.cell? ⟨g, 0, none⟩ = some (.int .i64 b) ∧ W.cell? ⟨g, 1, none⟩ = some (.slice A' es.length c'))
      (first | with_reducible exact HG.out | with_reducible exact HS.out | exact HG.out) (first
      | (go_at_call 128; (with_reducible refine (KI.out _).mono ?_); rintro e w7 ⟨rfl, rfl⟩))
    all_goals
      go_wp2_with fail
      refine bodyPost_ret (v := .tuple #[.agg #[.int .i64 b, .slice A' es.length c'], .bool bell]) (by simp [results, Tryd.results203, go_sem, d1]; first | exact HSB.out | (have := HSB.out; simp_all)) rfl ⟨A', c', rfl, ?_⟩
      exact hK6.drop.drop
end Go.Proofs.YtcapccadpbiecaaDoor

namespace Go.Proofs.YtcapccadpbiecaaDoor
open Go.RowKit Go.Sort
/-- the machine in block g, and its numbers -/
def MB (w0 : World) (g : Nat) (rest : List Value) (T : TypeId) (k : Tri) (m : List Ent) (w : World) : Prop := ∃ B1 d1 B2 d2 B3 d3, Kn w0 (.blk g (.int .i64 k.a.base :: .slice B1 k.a.digits.length d1 :: .int .i64 k.b.base :: .slice B2 k.b.digits.length d2 :: .int .i64 k.s.base :: .slice B3 k.s.digits.length d3 :: .int .i64 k.carry :: rest) T :: rowI B3 d3 k.s.digits :: rowI B2 d2 k.b.digits :: rowI B1 d1 k.a.digits :: m) w
set_option maxRecDepth 100000 in
set_option maxHeartbeats 1600000 in
theorem l10TurnK {w0 : World} {m : List Ent} {rest : List Value} {T : TypeId} {g : Nat} (t : Tri) (sign : Int) (w : World) (hM : MB w0 g rest T t m w) (hv : vmach t = true) (hs : sign = 1 ∨ sign = -1) :
    Calls Tryd.prog 154 #[.pointer (some ⟨g, 0, none⟩), .int .i64 sign] w fun e w' => e = .returned (.bool (turnT t sign).2) ∧ MB w0 g rest T (turnT t sign).1 m w' := by
  obtain ⟨A1, c1, A2, c2, A3, c3, hK⟩ := hM
  obtain ⟨k1, k2, k3, e1, e2, f1, f2, l1, p0, p1⟩ := vmach_all hv
  obtain ⟨u1, u2, u3, u4⟩ := turn_bd hv
  obtain ⟨⟨b1, b2⟩, ⟨n1, n2⟩, hd1, -⟩ := vreg_iff.1 k1
  obtain ⟨⟨b3, b4⟩, ⟨n3, n4⟩, hd2, -⟩ := vreg_iff.1 k2
  obtain ⟨⟨b5, b6⟩, ⟨n5, n6⟩, hd3, -⟩ := vreg_iff.1 k3
  have HT := Lib.hid (show turnT t sign = (⟨t.a, ⟨t.b.base, shiftD t.b.base t.b.digits (sign * (valL t.a.base t.a.digits * pw t.b.base t.carry.toNat))⟩, ⟨t.s.base, shiftD t.s.base t.s.digits (sign * pw t.b.base t.carry.toNat)⟩, t.carry⟩, shiftB t.b.base t.b.digits (sign * (valL t.a.base t.a.digits * pw t.b.base t.carry.toNat))) from rfl)
  have KP := (fun W => l10Power_any t.a.base t.carry.toNat W b1 b2 (by unfold vplaces at p1; omega))
  have hpc : powS t.a.base t.carry.toNat = pw t.b.base t.carry.toNat := by rw [e1]; unfold powS; omega
  rw [hpc, show ((t.carry.toNat : Nat) : Int) = t.carry by omega] at KP
  have KV := (fun W (hW : Kn w0 (.blk g (.int .i64 t.a.base :: .slice A1 t.a.digits.length c1 :: .int .i64 t.b.base :: .slice A2 t.b.digits.length c2 :: .int .i64 t.s.base :: .slice A3 t.s.digits.length c3 :: .int .i64 t.carry :: rest) T :: rowI A3 c3 t.s.digits :: rowI A2 c2 t.b.digits :: rowI A1 c1 t.a.digits :: m) W) => l02Value_any t.a.base A1 t.a.digits.length c1 t.a.digits W b1 b2 hd1 hW.drop.drop.drop.riv n2)
  obtain ⟨U, hU⟩ : ∃ U, pw t.b.base t.carry.toNat = U := ⟨_, rfl⟩
  obtain ⟨V, hV⟩ : ∃ V, valL t.a.base t.a.digits = V := ⟨_, rfl⟩
  rw [hU] at KP HT u1 u2 u3 u4
  rw [hV] at KV HT u3 u4
  obtain ⟨X, hX⟩ : ∃ X, sign * (V * U) = X := ⟨_, rfl⟩
  obtain ⟨Y, hY⟩ : ∃ Y, sign * U = Y := ⟨_, rfl⟩
  rw [hX, hY] at HT
  have hXb : -1000000000001 ≤ X ∧ X ≤ 1000000000001 := by rcases hs with rfl | rfl <;> omega
  have hYb : -1000000000001 ≤ Y ∧ Y ≤ 1000000000001 := by rcases hs with rfl | rfl <;> omega
  have hYX : Y * V = X := by rw [← hX, ← hY, Int.mul_assoc, Int.mul_comm U V]
  have w1' : IntKind.i64.wrap (sign * U) = Y := by rw [hY]; exact wrapI64 (by omega)
  have w2' : IntKind.i64.wrap (Y * V) = X := by rw [hYX]; exact wrapI64 (by omega)
  have KM2 := (fun W (hW : Kn w0 (.blk g (.int .i64 t.a.base :: .slice A1 t.a.digits.length c1 :: .int .i64 t.b.base :: .slice A2 t.b.digits.length c2 :: .int .i64 t.s.base :: .slice A3 t.s.digits.length c3 :: .int .i64 t.carry :: rest) T :: rowI A3 c3 t.s.digits :: rowI A2 c2 t.b.digits :: rowI A1 c1 t.a.digits :: m) W) => l10Move_any ⟨g, 2, none⟩ t.b.base A2 c2 t.b.digits X W ⟨hW.blkAt.1 2, hW.blkAt.1 3⟩ hW.drop.drop.riv k2 f1 hXb.1 hXb.2)
  have KM3 := (fun W (hW : Kn w0 (.blk g (.int .i64 t.a.base :: .slice A1 t.a.digits.length c1 :: .int .i64 t.b.base :: .slice A2 t.b.digits.length c2 :: .int .i64 t.s.base :: .slice A3 t.s.digits.length c3 :: .int .i64 t.carry :: rest) T :: rowI A3 c3 t.s.digits :: rowI A2 c2 t.b.digits :: rowI A1 c1 t.a.digits :: m) W) => l10Move_any ⟨g, 4, none⟩ t.s.base A3 c3 t.s.digits Y W ⟨hW.blkAt.1 4, hW.blkAt.1 5⟩ hW.drop.riv k3 f2 hYb.1 hYb.2)
  obtain ⟨es, hes⟩ : ∃ es, shiftD t.b.base t.b.digits X = es := ⟨_, rfl⟩
  obtain ⟨fs, hfs⟩ : ∃ fs, shiftD t.s.base t.s.digits Y = fs := ⟨_, rfl⟩
  obtain ⟨bell, hbl⟩ : ∃ e, shiftB t.b.base t.b.digits X = e := ⟨_, rfl⟩
  obtain ⟨bell2, hbl2⟩ : ∃ e, shiftB t.s.base t.s.digits Y = e := ⟨_, rfl⟩
  rw [hes, hbl] at KM2
  rw [hfs, hbl2] at KM3
  rw [hes, hfs, hbl] at HT
  rw [HT.out]
  have KP := Lib.hid KP
  have KV := Lib.hid KV
  have KM2 := Lib.hid KM2
  have KM3 := Lib.hid KM3
  have HW1 := Lib.hid w1'
  have HW2 := Lib.hid w2'
  have HY := Lib.hid hY
  have hYo : -9223372036854775808 ≤ sign * U ∧ sign * U ≤ 9223372036854775807 := by rw [hY]; omega
  have hXo : -9223372036854775808 ≤ sign * U * V ∧ sign * U * V ≤ 9223372036854775807 := by rw [hY, hYX]; omega
  clear hpc hU hV hX hY hYX w1' w2' hes hfs hbl hbl2 hd1 hd2 hd3 hv k1 k2 k3 e1 e2 hs
  obtain ⟨a1, a2, a3⟩ := hK.blkAt
  go_enter Tryd.func154, Tryd.ntmps154
  go_wp2_with fail
  go_quiet ((go_at_call 113; exact quiet_left (KP.out _)))
  have hK1 := hK.drewN nq
  generalize w.drewN nq = w1 at hK1 ⊢
  clear hK a1 a2 a3
  obtain ⟨a1, a2, a3⟩ := hK1.blkAt
  go_wp2_with fail
  have HG := Lib.hid (box2 hK1.drew)
  have HA := Lib.hid (box2 (hK1.al [.int .i64 0, .slice none 0 0] 35).drew.drop)
  have HS := HG
  go_cut [6, 7] (fun pp oo wx => ∃ (g6 : Nat) (A' : Option Addr) (c' : Nat), pp = .pointer (some ⟨g6, 0, none⟩) ∧ oo = .bool bell ∧ Kn w0 (.blk g6 [.int .i64 t.b.base, .slice A' es.length c'] 35 :: rowI A' c' es :: .blk g (.int .i64 t.a.base :: .slice A1 t.a.digits.length c1 :: .int .i64 t.b.base :: .slice A2 t.b.digits.length c2 :: .int .i64 t.s.base :: .slice A3 t.s.digits.length c3 :: .int .i64 t.carry :: rest) T :: rowI A3 c3 t.s.digits :: rowI A2 c2 t.b.digits :: rowI A1 c1 t.a.digits :: m) wx)
  case first =>
    go_region_held3 (fun W => W.cell? ⟨g, 0, none⟩ = some (.int .i64 t.a.base) ∧ W.cell? ⟨g, 1, none⟩ = some (.slice A1 t.a.digits.length c1))
      (first | with_reducible exact HG.out | with_reducible exact HA.out | with_reducible exact HS.out | exact HG.out | exact HA.out | exact HS.out) (first
      | (go_at_call 186; first | ((with_reducible refine (KV.out _ hK1.drew).mono ?_); rintro e w7 ⟨rfl, rfl⟩) | ((with_reducible refine (KV.out _ (hK1.al [.int .i64 0, .slice none 0 0] 35).drew.drop).mono ?_); rintro e w7 ⟨rfl, rfl⟩))
      | (go_at_call 203; rw [HW1.out, HW2.out]; clear HG HA; first
        | ((with_reducible refine (KM2.out _ hK1.drew).mono ?_); rintro e w4 ⟨A', c', rfl, hK⟩; have hK4 := hK1.drew.join hK; have HG := Lib.hid (box2 hK4.drop); have HA := Lib.hid (box2 (hK4.al [.int .i64 0, .slice none 0 0] 35).drop.drop); have hK5 := hK4.al [.int .i64 t.b.base, .slice A' es.length c'] 35; have HS := Lib.hid (box2 hK5.drop.drop))
        | ((refine (KM2.out _ (hK1.al [.int .i64 0, .slice none 0 0] 35).drew.drop).mono ?_); rintro e w4 ⟨A', c', rfl, hK⟩; have hK4 := (hK1.al [.int .i64 0, .slice none 0 0] 35).drew.join hK; have HG := Lib.hid (box2 hK4.drop.drop); obtain ⟨g1, f1, l1⟩ := hK4.drop.blkAt; have HA := HG; have hK5 := (hK4.sw1.st 0 (.int .i64 t.b.base)).st 1 (.slice A' es.length c'); have HS := Lib.hid (box2 hK5.drop.drop))))
    all_goals
      go_wp2_with fail
      go_meet
      exact ⟨_, _, _, rfl, rfl, hK5⟩
  case rest =>
    obtain ⟨g6, A', c', rfl, rfl, hK5⟩ := hcut
    clear HG HA HS KP KV KM2 hK1 a1 a2 a3
    obtain ⟨x1, x2, x3, a1, a2, a3, -⟩ := hK5.cells
    go_wp2_with fail
    rw [HY.out]
    refine (KM3.out _ hK5.drop.drop).mono ?_; rintro e w4 ⟨A2', c2', rfl, hK⟩
    have hK6 := hK5.join hK
    clear x1 x2 x3 a1 a2 a3
    obtain ⟨x1, x2, x3, a1, a2, a3, -⟩ := hK6.cells
    have hK7 := ((((hK6.sw3.st 2 (.int .i64 t.b.base)).st 3 (.slice A' es.length c')).st 4 (.int .i64 t.s.base)).st 5 (.slice A2' fs.length c2')).al [.int .i64 t.s.base, .slice A2' fs.length c2'] 35
    go_wp2_with fail
    go_ret
    refine ⟨rfl, A1, c1, A', c', A2', c2', ?_⟩
    refine Kn.only hK7 (by repeat (first | exact List.Sublist.refl _ | apply List.Sublist.cons_cons | apply List.Sublist.cons))
end Go.Proofs.YtcapccadpbiecaaDoor

namespace Go.Proofs.YtcapccadpbiecaaDoor
open Go.RowKit Go.Sort
theorem MB.congr {w0 w : World} {g : Nat} {rest : List Value} {T : TypeId} {k k' : Tri} {m : List Ent} (h : MB w0 g rest T k m w) (e : k = k') : MB w0 g rest T k' m w := e ▸ h
theorem l10ShiftM {w0 : World} {m : List Ent} {rest : List Value} {T : TypeId} {g : Nat} (t : Tri) (k by_ : Int) (w : World) (hM : MB w0 g rest T t m w) (hv : vmach t = true) (hb : (k = 3 ∧ by_ = 1) ∨ (k = 4 ∧ by_ = -1)) :
    Calls Tryd.prog 155 #[.pointer (some ⟨g, 0, none⟩), .int .i64 by_] w fun e w' => e = .returned (.bool (strokeT k t).2) ∧ MB w0 g rest T (strokeT k t).1 m w' := by
  obtain ⟨A1, c1, A2, c2, A3, c3, hK⟩ := hM
  obtain ⟨-, -, -, -, -, -, -, -, p0, p1⟩ := vmach_all hv
  refine (l10ShiftK t A1 A2 A3 c1 c2 c3 by_ w hK hv (by omega)).mono ?_
  rintro e w' ⟨h1, h2⟩
  rcases hbt : betB (t.carry + by_) 0 (vplaces t - 1) with _ | _
  · obtain ⟨rfl, hK'⟩ := h2 hbt
    have := betB_false.1 hbt
    have hs : strokeT k t = (t, true) := by
      rcases hb with ⟨rfl, rfl⟩ | ⟨rfl, rfl⟩
      · unfold strokeT; rw [if_neg (by decide), if_neg (by decide), if_pos rfl, if_pos (by omega)]
      · unfold strokeT; rw [if_neg (by decide), if_neg (by decide), if_neg (by decide), if_pos rfl, if_pos (by omega)]
    rw [hs]
    exact ⟨rfl, A1, c1, A2, c2, A3, c3, hK'⟩
  · obtain ⟨rfl, hK'⟩ := h1 hbt
    have := betB_iff.1 hbt
    have hs : strokeT k t = ({ t with carry := t.carry + by_ }, false) := by
      rcases hb with ⟨rfl, rfl⟩ | ⟨rfl, rfl⟩
      · unfold strokeT; rw [if_neg (by decide), if_neg (by decide), if_pos rfl, if_neg (by omega)]
      · unfold strokeT; rw [if_neg (by decide), if_neg (by decide), if_neg (by decide), if_pos rfl, if_neg (by omega)]; rfl
    rw [hs]
    exact ⟨rfl, A1, c1, A2, c2, A3, c3, hK'⟩
set_option maxRecDepth 100000 in
set_option maxHeartbeats 1600000 in
theorem l10DoK {w0 : World} {m : List Ent} {rest : List Value} {T : TypeId} {g : Nat} (t : Tri) (k : Int) (w : World) (hM : MB w0 g rest T t m w) (hv : vmach t = true) (hk : 1 ≤ k ∧ k ≤ 6) :
    Calls Tryd.prog 83 #[.pointer (some ⟨g, 0, none⟩), .int .i64 k] w fun e w' => e = .returned (.bool (strokeT k t).2) ∧ MB w0 g rest T (strokeT k t).1 m w' := by
  have hk' : k = 1 ∨ k = 2 ∨ k = 3 ∨ k = 4 ∨ k = 5 ∨ k = 6 := by omega
  clear hk
  rcases hk' with rfl | rfl | rfl | rfl | rfl | rfl
  · have KT := Lib.hid (l10TurnK t 1 w hM hv (.inl rfl))
    obtain ⟨r, hr⟩ : ∃ r, strokeT 1 t = r := ⟨_, rfl⟩
    have HR := Lib.hid (show turnT t 1 = r by rw [← hr]; rfl)
    rw [hr]
    clear hr hM hv
    go_enter Tryd.func83, Tryd.ntmps83
    go_wp2_with (go_at_call 154; refine KT.out.mono ?_; rw [HR.out]; rintro e w' ⟨rfl, hM⟩)
    go_ret
    exact ⟨rfl, hM⟩
  · have KT := Lib.hid (l10TurnK t (-1) w hM hv (.inr rfl))
    obtain ⟨r, hr⟩ : ∃ r, strokeT 2 t = r := ⟨_, rfl⟩
    have HR := Lib.hid (show turnT t (-1) = r by rw [← hr]; rfl)
    rw [hr]
    clear hr hM hv
    go_enter Tryd.func83, Tryd.ntmps83
    go_wp2_with (go_at_call 154; refine KT.out.mono ?_; rw [HR.out]; rintro e w' ⟨rfl, hM⟩)
    go_ret
    exact ⟨rfl, hM⟩
  · have KT := (l10ShiftM t 3 1 w hM hv (.inl ⟨rfl, rfl⟩))
    obtain ⟨r, hr⟩ : ∃ r, strokeT 3 t = r := ⟨_, rfl⟩
    rw [hr] at KT ⊢
    have KT := Lib.hid KT
    clear hr hM hv
    go_enter Tryd.func83, Tryd.ntmps83
    go_wp2_with (go_at_call 155; refine KT.out.mono ?_; rintro e w' ⟨rfl, hM⟩)
    go_ret
    exact ⟨rfl, hM⟩
  · have KT := (l10ShiftM t 4 (-1) w hM hv (.inr ⟨rfl, rfl⟩))
    obtain ⟨r, hr⟩ : ∃ r, strokeT 4 t = r := ⟨_, rfl⟩
    rw [hr] at KT ⊢
    have KT := Lib.hid KT
    clear hr hM hv
    go_enter Tryd.func83, Tryd.ntmps83
    go_wp2_with (go_at_call 155; refine KT.out.mono ?_; rintro e w' ⟨rfl, hM⟩)
    go_ret
    exact ⟨rfl, hM⟩
  · obtain ⟨k1, k2, k3, -⟩ := vmach_all hv
    obtain ⟨-, ⟨n3, n4⟩, -, -⟩ := vreg_iff.1 k2
    obtain ⟨-, ⟨n5, n6⟩, -, -⟩ := vreg_iff.1 k3
    have hS : strokeT 5 t = (⟨t.a, ⟨t.b.base, List.replicate t.b.digits.length 0⟩, ⟨t.s.base, List.replicate t.s.digits.length 0⟩, t.carry⟩, false) := by unfold strokeT; simp [digD_zero]
    rw [hS]
    obtain ⟨A1, c1, A2, c2, A3, c3, hK⟩ := hM
    clear hS hv k1 k2 k3
    obtain ⟨a1, a2, a3⟩ := hK.blkAt
    go_enter Tryd.func83, Tryd.ntmps83
    go_wp2_with fail
    refine (l10ZeroK (cs := (.int .i64 t.a.base :: .slice A1 t.a.digits.length c1 :: .int .i64 t.b.base :: .slice A2 t.b.digits.length c2 :: .int .i64 t.s.base :: .slice A3 t.s.digits.length c3 :: .int .i64 t.carry :: rest)) (o := 2) A2 c2 t.b.digits w hK.sw2 rfl (by omega) (by omega)).mono ?_; rintro e w1 ⟨rfl, hK1⟩
    go_wp2_with fail
    refine (l10ZeroK (cs := (.int .i64 t.a.base :: .slice A1 t.a.digits.length c1 :: .int .i64 t.b.base :: .slice A2 t.b.digits.length c2 :: .int .i64 t.s.base :: .slice A3 t.s.digits.length c3 :: .int .i64 t.carry :: rest)) (o := 4) A3 c3 t.s.digits w1 (hK1.sw1.sw2) rfl (by omega) (by omega)).mono ?_; rintro e w2 ⟨rfl, hK2⟩
    go_wp2_with fail
    go_ret
    refine ⟨rfl, A1, c1, A2, c2, A3, c3, ?_⟩
    simp only [List.length_replicate]
    exact hK2.sw1
  · obtain ⟨k1, k2, k3, -⟩ := vmach_all hv
    obtain ⟨-, ⟨n1, n2⟩, -, -⟩ := vreg_iff.1 k1
    have hS : strokeT 6 t = ({ t with a := ⟨t.a.base, List.replicate t.a.digits.length 0⟩ }, false) := by unfold strokeT; simp [digD_zero]
    rw [hS]
    obtain ⟨A1, c1, A2, c2, A3, c3, hK⟩ := hM
    clear hS hv k1 k2 k3
    go_enter Tryd.func83, Tryd.ntmps83
    go_wp2_with fail
    refine (l10ZeroK (cs := (.int .i64 t.a.base :: .slice A1 t.a.digits.length c1 :: .int .i64 t.b.base :: .slice A2 t.b.digits.length c2 :: .int .i64 t.s.base :: .slice A3 t.s.digits.length c3 :: .int .i64 t.carry :: rest)) (o := 0) A1 c1 t.a.digits w hK.sw3 rfl (by omega) (by omega)).mono ?_; rintro e w1 ⟨rfl, hK1⟩
    go_wp2_with fail
    go_ret
    refine ⟨rfl, A1, c1, A2, c2, A3, c3, ?_⟩
    simp only [List.length_replicate]
    exact hK1.sw3.sw3.sw3
end Go.Proofs.YtcapccadpbiecaaDoor

namespace Go.Proofs.YtcapccadpbiecaaDoor
open Go.RowKit Go.Sort
end Go.Proofs.YtcapccadpbiecaaDoor
