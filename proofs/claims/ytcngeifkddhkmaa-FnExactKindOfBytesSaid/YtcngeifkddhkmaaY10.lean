import Derived.Test.YtcngeifkddhkmaaY9
namespace Go.Proofs.Ytcngeifkddhkmaa
open Go.RowKit Go.Sort
theorem sealB_inj {a b : List UInt8} (h : sealB a = sealB b) : a = b := by
  have hl : a.length = b.length := by have := congrArg List.length h; simpa [sealB] using this
  exact List.append_inj_left h hl
theorem tk_more (bs more : List UInt8) (h : tkOk bs = true) : tkOk (bs ++ more) = true ∧ tkReg (bs ++ more) = tkReg bs ∧ tkRest (bs ++ more) = tkRest bs ++ more := by
  cases bs with
  | nil => cases h
  | cons b tl =>
    have hle : (wdt b + 1) / 2 ≤ tl.length := of_decide_eq_true h
    have hle2 : (wdt b + 1) / 2 ≤ (tl ++ more).length := by rw [List.length_append]; omega
    refine ⟨decide_eq_true hle2, ?_, ?_⟩
    · rw [List.cons_append]; simp only [tkReg]
      rw [if_pos hle, if_pos hle2]
      congr 1
      unfold digL
      refine List.map_congr_left fun k hk => ?_
      have hk : k < wdt b := List.mem_range.1 hk
      have : (tl ++ more).getD (k / 2) 0 = tl.getD (k / 2) 0 := by simp [List.getD, List.getElem?_append_left (show k / 2 < tl.length by omega)]
      unfold digK
      rw [this]
    · rw [List.cons_append]; simp only [tkRest]
      rw [if_pos hle, if_pos hle2, List.drop_append_of_le_length hle]
theorem tkFine_ok {bs : List UInt8} (h : tkFine bs = true) : tkOk bs = true := by
  cases bs with
  | nil => cases h
  | cons b tl => simp only [tkFine, Bool.and_eq_true] at h; exact h.1
/-- the bytes of what is read -/
theorem tk_bytes {bs : List UInt8} (h : tkFine bs = true) : bs = regB (tkReg bs).base (tkReg bs).digits ++ tkRest bs := by
  cases bs with
  | nil => cases h
  | cons b tl =>
    simp only [tkFine, Bool.and_eq_true, decide_eq_true_eq] at h
    obtain ⟨hle, hf⟩ := h
    simp only [tkReg, tkRest]
    rw [if_pos hle, if_pos hle]
    have h2 : fineL (tl.take ((wdt b + 1) / 2)) (wdt b) = true := by
      rw [← hf]; unfold fineL
      congr 3
      have hw : 1 ≤ wdt b := by unfold wdt; omega
      simp [List.getD, List.getElem?_take, show (wdt b + 1) / 2 - 1 < (wdt b + 1) / 2 by omega]
    have h3 := regB_digL b (tl.take ((wdt b + 1) / 2)) (by rw [List.length_take]; omega) h2
    have h4 : digL (tl.take ((wdt b + 1) / 2)) (wdt b) = digL tl (wdt b) := by
      unfold digL
      refine List.map_congr_left fun k hk => ?_
      have hk : k < wdt b := List.mem_range.1 hk
      have : (tl.take ((wdt b + 1) / 2)).getD (k / 2) 0 = tl.getD (k / 2) 0 := by simp [List.getD, List.getElem?_take, show k / 2 < (wdt b + 1) / 2 by omega]
      unfold digK
      rw [this]
    rw [h4] at h3
    rw [h3, List.cons_append, List.take_append_drop]
theorem unpR_spec (bs : List UInt8) : unpR bs = if bodyOk 82 bs && tkFine (bodyB 82 bs) && (tkRest (bodyB 82 bs)).isEmpty && (tkReg (bodyB 82 bs)).ok then some (tkReg (bodyB 82 bs)) else none := by
  by_cases h : (bodyOk 82 bs && tkFine (bodyB 82 bs) && (tkRest (bodyB 82 bs)).isEmpty && (tkReg (bodyB 82 bs)).ok) = true
  · rw [if_pos h]
    simp only [Bool.and_eq_true] at h
    obtain ⟨⟨⟨h1, h2⟩, h3⟩, h4⟩ := h
    obtain ⟨body, hbd⟩ : ∃ b, bodyB 82 bs = b := ⟨_, rfl⟩
    have hb := (body_iff 82 bs).1 h1
    rw [hbd] at hb h2 h3 h4 ⊢
    have h5 := tk_bytes h2
    rw [List.isEmpty_iff.1 h3, List.append_nil] at h5
    have hs : bs = 82 :: (body ++ [UInt8.ofNat (sumB (82 :: body) / 256).toNat, UInt8.ofNat (sumB (82 :: body) % 256).toNat]) := by rw [hb]; rfl
    obtain ⟨m1, m2, -⟩ := tk_more body [UInt8.ofNat (sumB (82 :: body) / 256).toNat, UInt8.ofNat (sumB (82 :: body) % 256).toNat] (tkFine_ok h2)
    have hp : packR (tkReg body).base (tkReg body).digits = bs := by unfold packR; rw [← h5]; exact hb.symm
    rw [hs]
    simp only [unpR]
    rw [m1, m2, h4, ← hs, hp]; simp
  · rw [if_neg h]
    cases bs with
    | nil => rfl
    | cons b tl =>
      simp only [unpR]
      rw [if_neg]
      intro h2
      simp only [Bool.and_eq_true, decide_eq_true_eq] at h2
      obtain ⟨⟨h1, h3⟩, h4⟩ := h2
      apply h
      obtain ⟨R, hR⟩ : ∃ R, tkReg tl = R := ⟨_, rfl⟩
      rw [hR] at h3 h4
      rw [← h4]
      obtain ⟨k1, k2⟩ := body_of 82 (regB R.base R.digits)
      obtain ⟨j1, j2, j3, j4⟩ := tk_regB R.base R.digits [] h3
      rw [List.append_nil] at j1 j2 j3 j4
      unfold packR
      rw [k1, k2, j2, j3, j4]
      simp [show (⟨R.base, R.digits⟩ : Reg).ok = true from h3]
set_option maxRecDepth 100000 in
set_option maxHeartbeats 1600000 in
theorem specUnpackRegister_any (s : ByteArray) (w : World) (hs : s.size ≤ 1048576) :
    Calls Try.prog 64 #[.string s] w fun e w' => ∃ A c, e = .returned (.tuple #[.agg #[.int .i64 (unpReg (strB s)).base, .slice A (unpReg (strB s)).digits.length c], .int .i64 (unpCode (strB s))]) ∧
      OwnI w' w.heap.size (.slice A (unpReg (strB s)).digits.length c) (unpReg (strB s)).digits ∧ Below w.heap.size w w' := by
  have HU := Lib.hid (unpR_spec (strB s))
  have KB := Lib.hid (fun W => l27Body_any s 82 W hs)
  obtain ⟨body, hbd⟩ : ∃ b, bodyB 82 (strB s) = b := ⟨_, rfl⟩
  obtain ⟨ok, hok⟩ : ∃ b, bodyOk 82 (strB s) = b := ⟨_, rfl⟩
  rw [hbd, hok] at HU KB
  have hbl : body.length ≤ 1048576 := by
    rw [← hbd]; unfold bodyB; have := strB_len s
    split
    · rw [List.length_take, List.length_drop]; omega
    · simp
  obtain ⟨R, hR⟩ : ∃ R, tkReg body = R := ⟨_, rfl⟩
  have hlen := tkReg_len body
  obtain ⟨fine, hfine⟩ : ∃ b, tkFine body = b := ⟨_, rfl⟩
  obtain ⟨rest, hrest⟩ : ∃ b, tkRest body = b := ⟨_, rfl⟩
  rw [hR, hfine, hrest] at HU
  rw [hR] at hlen
  have HX := Lib.hid (And.intro hR (And.intro hfine hrest))
  clear hbd hok hR hfine hrest
  go_enter Try.func64, Try.ntmps64
  go_wp2_with fail
  refine Calls.kn ((Kn.nil w).al [.int .i64 0, .slice none 0 0] 26) ?_; intro w1 hK1
  refine (KB.out w1).mono ?_; rintro e w2 ⟨r, rfl, hr, hw⟩
  have hK2 := hK1.keep hw
  have hrs : r.size ≤ 140737488355328 := by rw [← strB_len, hr]; omega
  have KT := fun W => l27Register_any r W hrs
  rw [hr, HX.out.1, HX.out.2.1, HX.out.2.2] at KT
  have KT := Lib.hid KT
  clear hK1 hw
  go_wp2_with fail
  have KT := Lib.hid (fun (Q : Ending → World → Prop) (h : ∀ A c r w3, strB r = rest → OwnI w3 w2.heap.size (.slice A R.digits.length c) R.digits → Below w2.heap.size w2 w3 → Q (.returned (.tuple #[.agg #[.int .i64 R.base, .slice A R.digits.length c], .string r, .bool fine])) w3) => (KT.out w2).mono (R' := Q) (by rintro e w3 ⟨A, c, r, rfl, h1, h2, h3⟩; exact h A c r w3 h1 h2 h3))
  cases ok with
  | false =>
    have HU := Lib.hid (unp_none (bs := strB s) (by rw [HU.out]; rfl))
    refine KT.out _ ?_
    intro A c r2 w3 hr2 ho hw
    have hK3 := hK2.addI hw ho
    have hem2 : r2.toList.isEmpty = rest.isEmpty := by rw [strB_toList, hr2]
    try (rw [hem] at hem2)
    clear hw hr hrs ho hr2 hK2
    go_wp2_with (first | (refine wpList.kn (hK3.al [.int .i64 0, .slice none 0 0] 26) ?_; intro w4 hK4; obtain ⟨c2, f2, l2, -⟩ := hK4.cells) | (refine wpList.kn ((hK4.st 0 _).st 1 _) ?_; intro w5 hK5; clear hK4 c2 f2 l2; obtain ⟨c2, f2, l2, c1, f1, l1, -⟩ := hK5.cells))
    refine bodyPost_ret (v := .tuple #[.agg #[.int .i64 0, .slice none 0 0], .int .i64 8]) (by simp [results, Try.results64, go_sem, c1, f1]) rfl ⟨none, 0, by rw [HU.out.1, HU.out.2]; rfl, by rw [HU.out.1]; exact OwnI.nil _ _, ?_⟩
    exact ((hK5.sw2.st 0 _).st 1 _).below
  | true =>
    cases fine with
    | false =>
      have HU := Lib.hid (unp_none (bs := strB s) (by rw [HU.out]; rfl))
      refine KT.out _ ?_
      intro A c r2 w3 hr2 ho hw
      have hK3 := hK2.addI hw ho
      have hem2 : r2.toList.isEmpty = rest.isEmpty := by rw [strB_toList, hr2]
      try (rw [hem] at hem2)
      clear hw hr hrs ho hr2 hK2
      go_wp2_with (first | (refine wpList.kn (hK3.al [.int .i64 0, .slice none 0 0] 26) ?_; intro w4 hK4; obtain ⟨c2, f2, l2, -⟩ := hK4.cells) | (refine wpList.kn ((hK4.st 0 _).st 1 _) ?_; intro w5 hK5; clear hK4 c2 f2 l2; obtain ⟨c2, f2, l2, c1, f1, l1, -⟩ := hK5.cells))
      refine bodyPost_ret (v := .tuple #[.agg #[.int .i64 0, .slice none 0 0], .int .i64 8]) (by simp [results, Try.results64, go_sem, c1, f1]) rfl ⟨none, 0, by rw [HU.out.1, HU.out.2]; rfl, by rw [HU.out.1]; exact OwnI.nil _ _, ?_⟩
      exact ((hK5.sw2.st 0 _).st 1 _).below
    | true =>
      rcases he : rest.isEmpty with _ | _
      · have HU := Lib.hid (unp_none (bs := strB s) (by rw [HU.out, he]; rfl))
        have hem := he
        clear he
        refine KT.out _ ?_
        intro A c r2 w3 hr2 ho hw
        have hK3 := hK2.addI hw ho
        have hem2 : r2.toList.isEmpty = rest.isEmpty := by rw [strB_toList, hr2]
        try (rw [hem] at hem2)
        clear hw hr hrs ho hr2 hK2
        go_wp2_with (first | (refine wpList.kn (hK3.al [.int .i64 0, .slice none 0 0] 26) ?_; intro w4 hK4; obtain ⟨c2, f2, l2, -⟩ := hK4.cells) | (refine wpList.kn ((hK4.st 0 _).st 1 _) ?_; intro w5 hK5; clear hK4 c2 f2 l2; obtain ⟨c2, f2, l2, c1, f1, l1, -⟩ := hK5.cells))
        refine bodyPost_ret (v := .tuple #[.agg #[.int .i64 0, .slice none 0 0], .int .i64 8]) (by simp [results, Try.results64, go_sem, c1, f1]) rfl ⟨none, 0, by rw [HU.out.1, HU.out.2]; rfl, by rw [HU.out.1]; exact OwnI.nil _ _, ?_⟩
        exact ((hK5.sw2.st 0 _).st 1 _).below
      · have hem := he
        rcases hk : R.ok with _ | _
        · have HU := Lib.hid (unp_none (bs := strB s) (by rw [HU.out, he, hk]; rfl))
          have HK := Lib.hid hk
          clear he hk
          refine KT.out _ ?_
          intro A c r2 w3 hr2 ho hw
          have hK3 := hK2.addI hw ho
          have hem2 : r2.toList.isEmpty = rest.isEmpty := by rw [strB_toList, hr2]
          try (rw [hem] at hem2)
          clear hw hr hrs ho hr2 hK2
          go_wp2_with (first | (refine wpList.kn (hK3.al [.int .i64 0, .slice none 0 0] 26) ?_; intro w4 hK4; obtain ⟨c2, f2, l2, -⟩ := hK4.cells) | (refine wpList.kn ((hK4.st 0 _).st 1 _) ?_; intro w5 hK5; clear hK4 c2 f2 l2; obtain ⟨c2, f2, l2, c1, f1, l1, -⟩ := hK5.cells))
          refine (l02Ok_reg ⟨w3.heap.size, 0, none⟩ R w5 ⟨A, c, ⟨by rw [c2]; rfl, by rw [c2]; rfl⟩, hK5.drop.ownI.ri⟩ (by unfold SmallReg; omega) _ HK.out).mono ?_; rintro e w6 ⟨rfl, m, rfl⟩
          replace hK5 := hK5.drewN m
          go_wp2_with fail
          refine bodyPost_ret (v := .tuple #[.agg #[.int .i64 0, .slice none 0 0], .int .i64 8]) (by simp [results, Try.results64, go_sem, c1, f1]) rfl ⟨none, 0, by rw [HU.out.1, HU.out.2]; rfl, by rw [HU.out.1]; exact OwnI.nil _ _, ?_⟩
          exact ((hK5.sw2.st 0 _).st 1 _).below
        · have HU := Lib.hid (unp_some (bs := strB s) (r := R) (by rw [HU.out, he, hk]; rfl))
          have HK := Lib.hid hk
          clear he hk
          refine KT.out _ ?_
          intro A c r2 w3 hr2 ho hw
          have hK3 := hK2.addI hw ho
          have hem2 : r2.toList.isEmpty = rest.isEmpty := by rw [strB_toList, hr2]
          try (rw [hem] at hem2)
          clear hw hr hrs ho hr2 hK2
          go_wp2_with (first | (refine wpList.kn (hK3.al [.int .i64 0, .slice none 0 0] 26) ?_; intro w4 hK4; obtain ⟨c2, f2, l2, -⟩ := hK4.cells) | (refine wpList.kn ((hK4.st 0 _).st 1 _) ?_; intro w5 hK5; clear hK4 c2 f2 l2; obtain ⟨c2, f2, l2, c1, f1, l1, -⟩ := hK5.cells))
          refine (l02Ok_reg ⟨w3.heap.size, 0, none⟩ R w5 ⟨A, c, ⟨by rw [c2]; rfl, by rw [c2]; rfl⟩, hK5.drop.ownI.ri⟩ (by unfold SmallReg; omega) _ HK.out).mono ?_; rintro e w6 ⟨rfl, m, rfl⟩
          replace hK5 := hK5.drewN m
          go_wp2_with fail
          have hK6 := (hK5.sw2.st 0 (.int .i64 R.base)).st 1 (.slice A R.digits.length c)
          refine bodyPost_ret (v := .tuple #[.agg #[.int .i64 R.base, .slice A R.digits.length c], .int .i64 0]) (by simp [results, Try.results64, go_sem, c1, f1]) rfl ⟨A, c, by rw [HU.out.1, HU.out.2], by rw [HU.out.1]; exact hK6.sw2.ownI, hK6.below⟩
end Go.Proofs.Ytcngeifkddhkmaa
