import Derived.Test.YtcngeifkddhkmaaI5
namespace Go.Proofs.Ytcngeifkddhkmaa
open Go.RowKit Go.Sort
def cellsIns (xs : List Ins) : List Value := xs.flatMap fun x => [.int .i64 x.op, .int .i64 x.arg]
theorem cellsIns_len (xs : List Ins) : (cellsIns xs).length = xs.length * 2 := by
  induction xs with
  | nil => rfl
  | cons x xs ih => unfold cellsIns at *; rw [List.flatMap_cons, List.length_append, ih]; simp; omega
theorem cellsIns_snoc (xs : List Ins) (x : Ins) : cellsIns (xs ++ [x]) = cellsIns xs ++ [.int .i64 x.op, .int .i64 x.arg] := by simp [cellsIns]
theorem cellsIns_get : ∀ (xs : List Ins) (k : Nat) (h : k < xs.length), (cellsIns xs)[k * 2]? = some (.int .i64 xs[k].op) ∧ (cellsIns xs)[k * 2 + 1]? = some (.int .i64 xs[k].arg)
  | [], k, h => by simp at h
  | x :: xs, 0, h => by simp [cellsIns]
  | x :: xs, k + 1, h => by
    have h1 := cellsIns_get xs k (by simpa using h)
    have h2 : cellsIns (x :: xs) = .int .i64 x.op :: .int .i64 x.arg :: cellsIns xs := by simp [cellsIns]
    rw [h2, show (k + 1) * 2 = k * 2 + 1 + 1 by omega]
    simp only [List.getElem?_cons_succ, List.getElem_cons_succ]
    exact h1
theorem cellsIns_one (xs : List Ins) : ∀ u ∈ cellsIns xs, u.oneCell' = true := by
  intro u hu
  obtain ⟨x, -, h⟩ := List.mem_flatMap.1 hu
  simp at h
  rcases h with rfl | rfl <;> rfl
def rowIns (v : Value) (xs : List Ins) : Ent := .row v 151 2 xs.length (cellsIns xs)
theorem tpIns : TP 96 151 (.agg #[.int .i64 0, .int .i64 0]) 2 16 := ⟨Try.underlying96, by kernel_rfl, rfl, by decide⟩
theorem Kn.rlIns {w0 w : World} {m : List Ent} {A : Option Addr} {n c : Nat} {xs : List Ins} (h : Kn w0 (rowIns (.slice A n c) xs :: m) w) : n = xs.length ∧ RL InsM 2 w A n xs := by
  have h0 : w.ownsRow 0 151 2 (.slice A n c) xs.length (cellsIns xs) := h.at0
  rcases h0.2 with ⟨hv, hn⟩ | ⟨g, cap, cur, hv, -, hg, -⟩
  · injection hv with h1 h2 h3
    exact ⟨by omega, by omega, fun h => by omega⟩
  · injection hv with h1 h2 h3
    refine ⟨h2, h2.symm, fun h => ⟨_, h1, (Array.getElem?_eq_some_iff.1 hg).1, fun k hk => ?_⟩⟩
    obtain ⟨c1, c2⟩ := cellsIns_get xs k hk
    rw [h1] at h0
    have d1 := h0.cells (g := g) rfl _ _ c1
    have d2 := h0.cells (g := g) rfl _ _ c2
    refine ⟨d1, ?_⟩
    rw [add_zero_block] at d2 ⊢
    exact d2
theorem row_form {w : World} {b : Nat} {e : TypeId} {size n : Nat} {v : Value} {xs : List Value} (h : w.ownsRow b e size v n xs) : ∃ A c, v = .slice A n c := by
  rcases h.2 with ⟨rfl, h2⟩ | ⟨g, cap, cur, rfl, -⟩
  · exact ⟨none, 0, by rw [h2]⟩
  · exact ⟨_, _, rfl⟩
theorem decL_snoc (f : Nat) : ∀ (k : Nat) (bs : List UInt8), decL f (k + 1) bs = (decL f k bs).bind fun p => (decI f p.2).map fun q => (p.1 ++ [q.1], q.2)
  | 0, bs => by
    simp only [decL, Option.bind_some, Option.map_some]
    cases decI f bs <;> rfl
  | k + 1, bs => by
    rw [decL]
    cases h : decI f bs with
    | none => simp [decL, h]
    | some p =>
      simp only [Option.bind_some]
      rw [decL_snoc f k p.2]
      simp only [decL, h, Option.bind_some]
      cases h2 : decL f k p.2 with
      | none => rfl
      | some q =>
        simp only [Option.bind_some, Option.map_some]
        cases h3 : decI f q.2 with
        | none => rfl
        | some r => rfl
theorem decL_none (f k : Nat) (bs : List UInt8) (h : decL f k bs = none) : ∀ j, decL f (k + j) bs = none
  | 0 => h
  | j + 1 => by rw [← Nat.add_assoc, decL_snoc, decL_none f k bs h j]; rfl
theorem decL_stop {f k n : Nat} {bs : List UInt8} (h : decL f (k + 1) bs = none) (hk : k < n) : decL f n bs = none := by
  have := decL_none f (k + 1) bs h (n - (k + 1))
  rwa [show k + 1 + (n - (k + 1)) = n by omega] at this
theorem decV_le : ∀ (k : Nat) (bs : List UInt8) (p : Nat × List UInt8), decV k bs = some p → p.2.length ≤ bs.length
  | 0, _, _, h => by cases h
  | _ + 1, [], _, h => by cases h
  | k + 1, b :: tl, p, h => by
    rw [decV] at h
    split at h
    · injection h with h; rw [← h]; simp
    · obtain ⟨q, hq, rfl⟩ := Option.map_eq_some_iff.1 h
      have := decV_le k tl q hq
      rw [List.length_cons]; exact Nat.le_succ_of_le this
theorem decI_le {f : Nat} {bs rs : List UInt8} {x : Ins} (h : decI f bs = some (x, rs)) : rs.length ≤ bs.length := by
  cases bs with
  | nil => cases h
  | cons b tl =>
    simp only [decI] at h
    obtain ⟨q, hq, h2⟩ := Option.map_eq_some_iff.1 h
    have h3 := decV_le f tl q hq
    injection h2 with _ h2
    rw [← h2, List.length_cons]; exact Nat.le_succ_of_le h3
def unpProg (bs : List UInt8) : List Ins := (unpP bs).getD []
def unpPCode (bs : List UInt8) : Int := if (unpP bs).isSome then 0 else 8
theorem unpP_none {bs : List UInt8} (h : unpP bs = none) : unpProg bs = [] ∧ unpPCode bs = 8 := by simp [unpProg, unpPCode, h]
theorem unpP_some {bs : List UInt8} {r : List Ins} (h : unpP bs = some r) : unpProg bs = r ∧ unpPCode bs = 0 := by simp [unpProg, unpPCode, h]
theorem Kn.nilIns {w0 w : World} {m : List Ent} (h : Kn w0 m w) : Kn w0 (rowIns (.slice none 0 0) [] :: m) w := h.nilRow _ _
set_option maxRecDepth 100000 in
set_option maxHeartbeats 400000 in
theorem UnpackProgram_any (s : ByteArray) (w : World) (hs : s.size ≤ 1048576) :
    Calls Try.prog 69 #[.string s] w fun e w' => ∃ A c, e = .returned (.tuple #[.slice A (unpProg (strB s)).length c, .int .i64 (unpPCode (strB s))]) ∧ Kn w [rowIns (.slice A (unpProg (strB s)).length c) (unpProg (strB s))] w' := by
  by_cases h0 : 2 ≤ s.size
  · obtain ⟨h1, hc⟩ := strB_cons2 h0
    obtain ⟨b0, hb0⟩ : ∃ b, s[0] = b := ⟨_, rfl⟩
    obtain ⟨p, hp⟩ : ∃ b, s[1] = b := ⟨_, rfl⟩
    obtain ⟨r0, hr0⟩ : ∃ l, (strB s).drop 2 = l := ⟨_, rfl⟩
    rw [hb0, hp, hr0] at hc
    have hl0 : r0.length ≤ 1048576 := by rw [← hr0, List.length_drop, strB_len]; omega
    have hx := strB_drop s 2
    rw [hr0] at hx
    obtain ⟨x0, hx0⟩ : ∃ x, s.extract 2 s.size = x := ⟨_, rfl⟩
    rw [hx0] at hx
    obtain ⟨cnt, hcnt⟩ : ∃ c, p.toNat = c := ⟨_, rfl⟩
    have HUP := Lib.hid (show unpP (strB s) = (decL 7 cnt r0).bind fun q => if vprog q.1 && decide (packP q.1 = b0 :: p :: r0) then some q.1 else none by rw [hc, ← hcnt]; rfl)
    have hc2 : cnt < 256 := by rw [← hcnt]; exact p.toNat_lt
    have HC := Lib.hid hc
    have HX := Lib.hid hx0
    have hi1 : (1 : Int) < (s.size : Int) := by omega
    have hi2 : (2 : Int) ≤ (s.size : Int) := by omega
    have hi3 : ¬ (s.size : Int) < 2 := by omega
    have HXB := Lib.hid hx
    clear hc hb0 hr0 hx hx0
    go_enter Try.func69, Try.ntmps69
    go_upto_region 3 with fail
    go_cut [4, 5] (fun vv rr wx => rr = .string x0 ∧ Kn w [rowIns vv []] wx)
    case first =>
      have hK0 := (((Kn.nil w).al [] 151).litRow (n := 0) (size := 2) rfl (by decide)).drew
      go_region
      all_goals
        go_wp2_with fail
        go_meet
        rw [HX.out]
        exact ⟨rfl, hK0⟩
    case rest =>
    rename_i v4
    obtain ⟨rfl, hK0⟩ := hcut
    go_wp2_with fail
    go_loopw [4, 5, 19] (fun vv rr kk wr => ∃ (k : Nat) (xs : List Ins) (r : ByteArray), k ≤ cnt ∧ kk = .int .u8 (k : Int) ∧ rr = .string r ∧ decL 7 k r0 = some (xs, strB r) ∧ xs.length = k ∧ r.size ≤ 1048576 ∧ Kn w [rowIns vv xs] wr) (fun _ _ k _ => cnt - (intOf k).toNat)
    case atStart => exact ⟨0, [], x0, Nat.zero_le _, rfl, rfl, by rw [HXB.out]; rfl, rfl, by rw [← strB_len, HXB.out]; exact hl0, hK0⟩
    case round =>
      rename_i vv _ _
      obtain ⟨k, xs, r, hk, rfl, rfl, hd, hxl, hrs, hK⟩ := hrel
      have HD := Lib.hid hd
      have HSN := Lib.hid (show decL 7 (k + 1) r0 = (decI 7 (strB r)).map fun q => (xs ++ [q.1], q.2) by rw [decL_snoc, hd]; rfl)
      have HXL := Lib.hid hxl
      have hxb : xs.length ≤ 256 := by omega
      clear hd hK0 hxl
      by_cases hkn : k < cnt
      · have y1 : IntKind.u8.wrap ((k : Int) + 1) = (k : Int) + 1 := wrapB (by omega)
        have i1 : (k : Int) < (p.toNat : Int) := by omega
        have KT := Lib.hid (fun W => takeInstr_any r W hrs)
        rcases hdi : decI 7 (strB r) with _ | ⟨x, rs⟩
        · have HTI := Lib.hid (ti_none hdi)
          have HU := Lib.hid (unpP_none (bs := strB s) (by rw [HUP.out, decL_stop (by rw [HSN.out, hdi]; rfl) hkn]; rfl))
          have KT := KT.out wr
          rw [HTI.out.1, HTI.out.2.1, HTI.out.2.2] at KT
          have KT := Lib.hid KT
          clear hdi
          go_wp2_with fail
          refine KT.out.mono ?_; rintro e w2 ⟨r2, rfl, hr2, hw⟩
          have hK2 := hK.keep hw
          clear hw
          go_wp2_with fail
          refine bodyPost_ret (v := .tuple #[.slice none 0 0, .int .i64 8]) (by simp [results, Try.results69, go_sem]) rfl ⟨none, 0, by rw [HU.out.1, HU.out.2]; rfl, ?_⟩
          rw [HU.out.1]
          exact (hK2.al_ _).bare.nilIns
        · have HTI := Lib.hid (ti_some hdi)
          have HS2 : Hid (decL 7 (k + 1) r0 = some (xs ++ [x], rs)) := by simp only [Hid]; rw [HSN.out, hdi]; rfl
          have hrl : rs.length ≤ (strB r).length := decI_le hdi
          have KT := KT.out wr
          rw [HTI.out.1, HTI.out.2.1, HTI.out.2.2] at KT
          have KT := Lib.hid KT
          clear hdi
          go_wp2_with fail
          refine KT.out.mono ?_; rintro e w2 ⟨r2, rfl, hr2, hw⟩
          have hK2 := hK.keep hw
          clear hw
          have HR2 := Lib.hid hr2
          have hr2s : r2.size ≤ 1048576 := by rw [← strB_len, hr2]; rw [strB_len] at hrl; omega
          clear hr2
          have hKx := hK2.al [.int .i64 x.op, .int .i64 x.arg] 151
          go_wp2_with (first | (refine wpList.kn hKx ?_; clear hKx; intro w3 hK3; obtain ⟨a1, a2, a3, -⟩ := hK3.cells) | (at_builtin; refine kn_app tpIns rfl _ _ rfl _ xs.length (cellsIns xs) rfl rfl ((hK3.sw1).al [.int .i64 x.op, .int .i64 x.arg] 151) rfl (by simp [Value.oneCell']) (by omega) (by omega) ?_; intro v5 w6 hK4))
          go_roundw
          case rel => exact ⟨k + 1, xs ++ [x], r2, by omega, by go_num, rfl, by rw [HR2.out]; exact HS2.out, by rw [List.length_append, HXL.out]; rfl, hr2s, by
            have h := hK4.drop1
            unfold rowIns
            rw [cellsIns_snoc, List.length_append]; exact h⟩
          case measure => simp [intOf]; omega
      · have i1 : ¬ (k : Int) < (p.toNat : Int) := by omega
        have HD2 : Hid (decL 7 cnt r0 = some (xs, strB r)) := by simp only [Hid]; rw [← HD.out]; congr 1; omega
        obtain ⟨A, c, rfl⟩ := row_form hK.at0
        obtain ⟨-, hrl⟩ := hK.rlIns
        rcases hv : vprog xs with _ | _
        · have HU := Lib.hid (unpP_none (bs := strB s) (by rw [HUP.out, HD2.out]; simp [hv]))
          have KP := Lib.hid (PackProgram_false A xs.length c xs wr hrl (by omega) hv)
          clear hrl hv
          go_wp2_with fail
          refine KP.out.mono ?_; rintro e w2 ⟨rfl, hw⟩
          have hK2 := hK.keep hw
          clear hw
          go_wp2_with fail
          refine bodyPost_ret (v := .tuple #[.slice none 0 0, .int .i64 8]) (by simp [results, Try.results69, go_sem]) rfl ⟨none, 0, by rw [HU.out.1, HU.out.2]; rfl, ?_⟩
          rw [HU.out.1]
          exact hK2.bare.nilIns
        · have KP := Lib.hid (PackProgram_true A xs.length c xs wr hrl hv)
          have HV := Lib.hid hv
          clear hrl hv
          rcases hq : (packP xs == s.toList) with _ | _
          · have HU := Lib.hid (unpP_none (bs := strB s) (by rw [HUP.out, HD2.out]; rw [strB_toList, HC.out, beq_eq_false_iff_ne] at hq; simp [hq]))
            go_wp2_with fail
            refine KP.out.mono ?_; rintro e w2 ⟨rfl, hw⟩
            have hK2 := hK.keep hw
            clear hw
            go_wp2_with fail
            refine bodyPost_ret (v := .tuple #[.slice none 0 0, .int .i64 8]) (by simp [results, Try.results69, go_sem]) rfl ⟨none, 0, by rw [HU.out.1, HU.out.2]; rfl, ?_⟩
            rw [HU.out.1]
            exact hK2.bare.nilIns
          · have HU := Lib.hid (unpP_some (bs := strB s) (r := xs) (by rw [HUP.out, HD2.out]; rw [strB_toList, HC.out, beq_iff_eq] at hq; simp [hq, HV.out]))
            go_wp2_with fail
            refine KP.out.mono ?_; rintro e w2 ⟨rfl, hw⟩
            have hK2 := hK.keep hw
            clear hw
            go_wp2_with fail
            refine bodyPost_ret (v := .tuple #[.slice A xs.length c, .int .i64 0]) (by simp [results, Try.results69, go_sem]) rfl ⟨A, c, by rw [HU.out.1, HU.out.2], ?_⟩
            rw [HU.out.1]
            exact hK2
  · have HU := Lib.hid (unpP_none (bs := strB s) (by
      have hl := strB_len s
      cases h : strB s with
      | nil => rfl
      | cons a l =>
        cases l with
        | nil => rfl
        | cons b l => rw [h] at hl; simp at hl; omega))
    have hi3 : (s.size : Int) < 2 := by omega
    go_enter Try.func69, Try.ntmps69
    go_wp2_with fail
    refine bodyPost_ret (v := .tuple #[.slice none 0 0, .int .i64 8]) (by simp [results, Try.results69, go_sem]) rfl ⟨none, 0, by rw [HU.out.1, HU.out.2]; rfl, ?_⟩
    rw [HU.out.1]
    exact (Kn.nil w).bare.nilIns
end Go.Proofs.Ytcngeifkddhkmaa
