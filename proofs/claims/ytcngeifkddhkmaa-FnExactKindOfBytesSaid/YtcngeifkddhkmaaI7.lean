import Derived.Test.YtcngeifkddhkmaaI6
namespace Go.Proofs.Ytcngeifkddhkmaa
open Go.RowKit Go.Sort
theorem unpP_spec (bs : List UInt8) (cnt : UInt8) (l : List UInt8) (hb : bodyOk 80 bs = true) (hl : bodyB 80 bs = cnt :: l) :
    unpP bs = (decL 6 cnt.toNat l).bind fun q => if q.2.isEmpty && vprog q.1 && decide (packP q.1 = bs) then some q.1 else none := by
  have hbs := (body_iff 80 bs).1 hb
  rw [hl] at hbs
  cases h : (decL 6 cnt.toNat l).bind fun q => if q.2.isEmpty && vprog q.1 && decide (packP q.1 = bs) then some q.1 else none with
  | some xs =>
    obtain ⟨q, -, h2⟩ := Option.bind_eq_some_iff.1 h
    split at h2
    · rename_i h3
      injection h2 with h2
      simp only [Bool.and_eq_true, decide_eq_true_eq] at h3
      rw [h2] at h3
      exact (unpP_iff bs xs).2 ⟨h3.1.2, h3.2⟩
    · cases h2
  | none =>
    cases h2 : unpP bs with
    | none => rfl
    | some xs =>
      obtain ⟨h3, h4⟩ := (unpP_iff bs xs).1 h2
      obtain ⟨h120, hall⟩ := vprog_each h3
      have h5 : cnt :: l = UInt8.ofNat xs.length :: xs.flatMap insB := by
        have h6 : sealB (80 :: cnt :: l) = sealB (progB xs) := by rw [← hbs, ← h4]; rfl
        have h7 := sealB_inj h6
        unfold progB at h7
        injection h7
      injection h5 with h5 h6
      have hc : cnt.toNat = xs.length := by rw [h5, UInt8.toNat_ofNat']; omega
      have hd := decL_prog 6 (Nat.le_refl _) xs hall []
      rw [List.append_nil] at hd
      rw [hc, h6, hd] at h
      simp [h3, h4] at h
theorem unpP_not (bs : List UInt8) (h : bodyOk 80 bs = false ∨ bodyB 80 bs = []) : unpP bs = none := by
  cases h2 : unpP bs with
  | none => rfl
  | some xs =>
    obtain ⟨h3, h4⟩ := (unpP_iff bs xs).1 h2
    obtain ⟨k1, k2⟩ := body_of 80 (UInt8.ofNat xs.length :: xs.flatMap insB)
    have h5 : sealB (80 :: UInt8.ofNat xs.length :: xs.flatMap insB) = bs := h4
    rw [h5] at k1 k2
    rcases h with h | h
    · rw [k1] at h; cases h
    · rw [k2] at h; cases h
set_option maxRecDepth 100000 in
set_option maxHeartbeats 1000000 in
theorem specUnpackProgram_any (s : ByteArray) (w : World) (hs : s.size ≤ 1048576) :
    Calls Try.prog 66 #[.string s] w fun e w' => ∃ A c, e = .returned (.tuple #[.slice A (unpProg (strB s)).length c, .int .i64 (unpPCode (strB s))]) ∧ Kn w [rowIns (.slice A (unpProg (strB s)).length c) (unpProg (strB s))] w' := by
  have HS := Lib.hid (unpP_spec (strB s))
  have HN := Lib.hid (unpP_not (strB s))
  have hbl : (bodyB 80 (strB s)).length ≤ 1048576 := by
    unfold bodyB; have := strB_len s
    split
    · rw [List.length_take, List.length_drop]; omega
    · simp
  have KB := fun W => l27Body_any s 80 W hs
  obtain ⟨ok, hok⟩ : ∃ b, bodyOk 80 (strB s) = b := ⟨_, rfl⟩
  obtain ⟨body, hbd⟩ : ∃ b, bodyB 80 (strB s) = b := ⟨_, rfl⟩
  rw [hok, hbd] at HS HN KB
  rw [hbd] at hbl
  have KB := Lib.hid KB
  clear hok hbd
  go_enter Try.func66, Try.ntmps66
  go_wp2_with fail
  refine (KB.out w).mono ?_; rintro e w2 ⟨r, rfl, hr, hw⟩
  have hK2 := (Kn.nil w).keep hw
  clear hw
  cases ok with
  | false =>
    have HU := Lib.hid (unpP_none (HN.out (.inl rfl)))
    go_wp2_with fail
    refine bodyPost_ret (v := .tuple #[.slice none 0 0, .int .i64 8]) (by simp [results, Try.results66, go_sem]) rfl ⟨none, 0, by rw [HU.out.1, HU.out.2]; rfl, ?_⟩
    rw [HU.out.1]
    exact hK2.bare.nilIns
  | true =>
    cases hbc : body with
    | nil =>
      have HU := Lib.hid (unpP_none (HN.out (.inr hbc)))
      have hem : r.toList.isEmpty = true := by rw [strB_toList, hr, hbc]; rfl
      clear hbc
      go_wp2_with fail
      refine bodyPost_ret (v := .tuple #[.slice none 0 0, .int .i64 8]) (by simp [results, Try.results66, go_sem]) rfl ⟨none, 0, by rw [HU.out.1, HU.out.2]; rfl, ?_⟩
      rw [HU.out.1]
      exact hK2.bare.nilIns
    | cons p l =>
      have hem : r.toList.isEmpty = false := by rw [strB_toList, hr, hbc]; rfl
      have HS := Lib.hid (HS.out p l rfl hbc)
      rw [hbc] at hr hbl
      have hrs : 0 < r.size := by rw [← strB_len, hr]; simp
      have hr1 : r[0] = p := by have h := strB_cons hrs; rw [hr] at h; injection h with h _; exact h.symm
      obtain ⟨x0, hx0⟩ : ∃ x, r.extract 1 r.size = x := ⟨_, rfl⟩
      have hx : strB x0 = l := by rw [← hx0, strB_tail, hr]; rfl
      have hl0 : l.length ≤ 1048576 := by simp at hbl; omega
      have HX := Lib.hid hx0
      have HXB := Lib.hid hx
      obtain ⟨cnt, hcnt⟩ : ∃ c, p.toNat = c := ⟨_, rfl⟩
      have hc2 : cnt < 256 := by rw [← hcnt]; exact p.toNat_lt
      have HS := HS.out
      rw [hcnt] at HS
      have HUP := Lib.hid HS
      have hi1 : (1 : Int) ≤ (r.size : Int) := by omega
      have hi0 : (0 : Int) < (r.size : Int) := by omega
      clear hbc hr hx hx0 hbl HS
      have hK3 := (hK2.al [] 151).litRow (n := 0) (size := 2) rfl (by decide)
      go_wp2_with fail
      go_loopw [6, 7, 8] (fun vv rr kk wr => ∃ (k : Nat) (xs : List Ins) (r2 : ByteArray), k ≤ cnt ∧ kk = .int .i64 ((cnt - k : Nat) : Int) ∧ rr = .string r2 ∧ decL 6 k l = some (xs, strB r2) ∧ xs.length = k ∧ r2.size ≤ 1048576 ∧ Kn w [rowIns vv xs] wr) (fun _ _ k _ => (intOf k).toNat)
      case atStart =>
        rw [HX.out]
        exact ⟨0, [], x0, Nat.zero_le _, rfl, rfl, by rw [HXB.out]; rfl, rfl, by rw [← strB_len, HXB.out]; exact hl0, hK3⟩
      case round =>
        rename_i vv _ _
        obtain ⟨k, xs, r2, hk, rfl, rfl, hd, hxl, hrs2, hK⟩ := hrel
        have HD := Lib.hid hd
        have HSN := Lib.hid (show decL 6 (k + 1) l = (decI 6 (strB r2)).map fun q => (xs ++ [q.1], q.2) by rw [decL_snoc, hd]; rfl)
        have HXL := Lib.hid hxl
        have hxb : xs.length ≤ 256 := by omega
        clear hd hK3 hxl
        by_cases hkn : k < cnt
        · have i1 : (0 : Int) < ((cnt - k : Nat) : Int) := by omega
          by_cases hr0 : 0 < r2.size
          · have hem2 : r2.toList.isEmpty = false := by rw [strB_toList, strB_cons hr0]; rfl
            have hcb := strB_cons hr0
            obtain ⟨b, hb⟩ : ∃ b, r2[0] = b := ⟨_, rfl⟩
            rw [hb] at hcb
            have hb2 : b.toNat < 256 := b.toNat_lt
            obtain ⟨x1, hx1⟩ : ∃ x, r2.extract 1 r2.size = x := ⟨_, rfl⟩
            have hx1b : strB x1 = (strB r2).drop 1 := by rw [← hx1, strB_tail]
            have hx1s : x1.size = r2.size - 1 := by rw [← hx1, extract_size]
            have KN := Lib.hid (fun W => l27Number_any x1 W (by omega))
            have j1 : (1 : Int) ≤ (r2.size : Int) := by omega
            have j0 : (0 : Int) < (r2.size : Int) := by omega
            have HX1 := Lib.hid hx1
            have HDI : Hid (decI 6 (strB r2) = (decV 6 (strB x1)).map fun q => (⟨b.toNat, q.1⟩, q.2)) := by
              simp only [Hid]; rw [hx1b, hcb]; rfl
            have HX1B := Lib.hid hx1b
            clear hcb hx1 hx1b
            go_wp2_with fail
            rw [HX1.out]
            refine (KN.out wr).mono ?_; rintro e w3 ⟨n, u, rfl, hor, rfl⟩
            rcases hor with ⟨hd1, rfl⟩ | ⟨u1, u2, hd1⟩
            · have HU := Lib.hid (unpP_none (bs := strB s) (by rw [HUP.out, decL_stop (by rw [HSN.out, HDI.out, hd1]; rfl) hkn]; rfl))
              clear hd1
              go_wp2_with fail
              refine bodyPost_ret (v := .tuple #[.slice none 0 0, .int .i64 8]) (by simp [results, Try.results66, go_sem]) rfl ⟨none, 0, by rw [HU.out.1, HU.out.2]; rfl, ?_⟩
              rw [HU.out.1]
              exact hK.bare.nilIns
            · have HS2 : Hid (decL 6 (k + 1) l = some (xs ++ [⟨b.toNat, n⟩], (strB x1).drop u)) := by simp only [Hid]; rw [HSN.out, HDI.out, hd1]; rfl
              have hun : u ≠ 0 := by omega
              have hub : ((u : Int) == 0) = false := by rw [beq_eq_false_iff_ne]; omega
              have j3 : (1 : Int) + (u : Int) ≤ (r2.size : Int) := by omega
              have j4 : IntKind.i64.wrap (1 + (u : Int)) = 1 + (u : Int) := wrapI (by omega)
              clear hd1
              go_wp2_with (at_builtin; refine kn_app tpIns rfl _ _ rfl _ xs.length (cellsIns xs) rfl rfl (hK.al [.int .i64 (b.toNat : Int), .int .i64 (n : Int)] 151) rfl (by simp [Value.oneCell']) (by omega) (by omega) ?_; intro v5 w6 hK4)
              go_roundw
              case rel => exact ⟨k + 1, xs ++ [⟨b.toNat, n⟩], r2.extract (1 + u) r2.size, by omega, by congr 1; omega, rfl, by rw [strB_drop, HS2.out, HX1B.out, List.drop_drop], by rw [List.length_append, HXL.out]; rfl, by rw [extract_size]; omega, by
                unfold rowIns
                rw [cellsIns_snoc, List.length_append]; exact hK4⟩
              case measure => simp [intOf]; omega
          · have hz := size_zero (show r2.size = 0 by omega)
            have HU := Lib.hid (unpP_none (bs := strB s) (by rw [HUP.out, decL_stop (by rw [HSN.out, strB_nil (show r2.size = 0 by omega)]; rfl) hkn]; rfl))
            subst hz
            go_wp2_with fail
            refine bodyPost_ret (v := .tuple #[.slice none 0 0, .int .i64 8]) (by simp [results, Try.results66, go_sem]) rfl ⟨none, 0, by rw [HU.out.1, HU.out.2]; rfl, ?_⟩
            rw [HU.out.1]
            exact hK.bare.nilIns
        · have i1 : ¬ (0 : Int) < ((cnt - k : Nat) : Int) := by omega
          have HD2 : Hid (decL 6 cnt l = some (xs, strB r2)) := by simp only [Hid]; rw [← HD.out]; congr 1; omega
          have HEM := Lib.hid (show r2.toList.isEmpty = (strB r2).isEmpty by rw [strB_toList])
          obtain ⟨A, c, rfl⟩ := row_form hK.at0
          obtain ⟨-, hrl⟩ := hK.rlIns
          rcases he : r2.toList.isEmpty with _ | _
          · have HU := Lib.hid (unpP_none (bs := strB s) (by rw [HUP.out, HD2.out]; have h1 := HEM.out; rw [he] at h1; have h2 : strB r2 ≠ [] := (by intro h; rw [h] at h1; cases h1); simp [h2]))
            go_wp2_with fail
            refine bodyPost_ret (v := .tuple #[.slice none 0 0, .int .i64 8]) (by simp [results, Try.results66, go_sem]) rfl ⟨none, 0, by rw [HU.out.1, HU.out.2]; rfl, ?_⟩
            rw [HU.out.1]
            exact hK.bare.nilIns
          · rcases hv : vprog xs with _ | _
            · have HU := Lib.hid (unpP_none (bs := strB s) (by rw [HUP.out, HD2.out]; simp [hv]))
              have KO := Lib.hid (calls_val (l11Ok_any A xs.length c xs wr hrl (by omega)) (congrArg Value.bool hv))
              clear hrl hv
              go_wp2_with fail
              refine KO.out.mono ?_; rintro e w3 ⟨rfl, q, rfl⟩
              have hK5 := hK.drewN q
              go_wp2_with fail
              refine bodyPost_ret (v := .tuple #[.slice none 0 0, .int .i64 8]) (by simp [results, Try.results66, go_sem]) rfl ⟨none, 0, by rw [HU.out.1, HU.out.2]; rfl, ?_⟩
              rw [HU.out.1]
              exact hK5.bare.nilIns
            · have KO := Lib.hid (calls_val (l11Ok_any A xs.length c xs wr hrl (by omega)) (congrArg Value.bool hv))
              have HV := Lib.hid hv
              clear hv
              rcases hq : (packP xs == s.toList) with _ | _
              · have HU := Lib.hid (unpP_none (bs := strB s) (by rw [HUP.out, HD2.out]; rw [strB_toList, beq_eq_false_iff_ne] at hq; simp; exact fun _ _ => hq))
                go_wp2_with fail
                refine KO.out.mono ?_; rintro e w3 ⟨rfl, q, rfl⟩
                have hK5 := hK.drewN q
                go_wp2_with fail
                refine (l27Program_any A xs.length c xs (wr.drewN q) hrl HV.out).mono ?_; rintro e w3 ⟨rfl, hw⟩
                have hK6 := hK5.keep hw
                clear hw
                go_wp2_with fail
                refine bodyPost_ret (v := .tuple #[.slice none 0 0, .int .i64 8]) (by simp [results, Try.results66, go_sem]) rfl ⟨none, 0, by rw [HU.out.1, HU.out.2]; rfl, ?_⟩
                rw [HU.out.1]
                exact hK6.bare.nilIns
              · have HU := Lib.hid (unpP_some (bs := strB s) (r := xs) (by rw [HUP.out, HD2.out]; have h1 := HEM.out; rw [he] at h1; rw [strB_toList, beq_iff_eq] at hq; simp [List.isEmpty_iff.1 h1.symm, hq, HV.out]))
                go_wp2_with fail
                refine KO.out.mono ?_; rintro e w3 ⟨rfl, q, rfl⟩
                have hK5 := hK.drewN q
                go_wp2_with fail
                refine (l27Program_any A xs.length c xs (wr.drewN q) hrl HV.out).mono ?_; rintro e w3 ⟨rfl, hw⟩
                have hK6 := hK5.keep hw
                clear hw
                go_wp2_with fail
                refine bodyPost_ret (v := .tuple #[.slice A xs.length c, .int .i64 0]) (by simp [results, Try.results66, go_sem]) rfl ⟨A, c, by rw [HU.out.1, HU.out.2], ?_⟩
                rw [HU.out.1]
                exact hK6
end Go.Proofs.Ytcngeifkddhkmaa
