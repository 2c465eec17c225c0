import Derived.Test.YtcngeifkddhkmaaY4
import Derived.Test.YtcngeifkddhkmaaG3
namespace Go.Proofs.Ytcngeifkddhkmaa
open Go.RowKit Go.Sort
/-- digit k of packed digits -/
def digK (tl : List UInt8) (k : Nat) : Int := if k % 2 = 0 then ((tl.getD (k / 2) 0).toNat / 16 : Nat) else ((tl.getD (k / 2) 0).toNat % 16 : Nat)
def digL (tl : List UInt8) (n : Nat) : List Int := (List.range n).map (digK tl)
theorem digL_succ (tl : List UInt8) (n : Nat) : digL tl (n + 1) = digL tl n ++ [digK tl n] := by simp [digL, List.range_succ]
theorem digL_len (tl : List UInt8) (n : Nat) : (digL tl n).length = n := by simp [digL]
/-- base and width that the first byte tells -/
def bas (b : UInt8) : Nat := b.toNat / 16 + 1
def wdt (b : UInt8) : Nat := b.toNat % 16 + 1
theorem strB_drop (s : ByteArray) (k : Nat) : strB (s.extract k s.size) = (strB s).drop k := by
  have h : (s.extract k s.size).data = s.data.extract k s.size := by simp
  unfold strB
  rw [h, Array.toList_extract, List.extract_eq_take_drop]
  rw [List.take_of_length_le]
  rw [List.length_drop, Array.length_toList]
  exact Nat.le_refl _
theorem size_zero {s : ByteArray} (h : s.size = 0) : s = ⟨#[]⟩ := by
  cases s with
  | mk a =>
    congr 1
    exact Array.eq_empty_of_size_eq_zero h
theorem str_nonempty {s : ByteArray} (h : 0 < s.size) : s.toList.isEmpty = false := by
  rw [ByteArray.toList_eq]
  cases he : s.data.toList with
  | nil =>
    have : s.data.toList.length = 0 := by rw [he]; rfl
    have h2 : s.data.toList.length = s.size := by rw [Array.length_toList]; rfl
    omega
  | cons a l => rfl
set_option maxRecDepth 100000 in
set_option maxHeartbeats 1600000 in
theorem takeRegister_short (s : ByteArray) (w : World) (hs : s.size ≤ 140737488355328) (h : s.size = 0 ∨ ∃ h0 : 0 < s.size, s.size < 1 + (wdt s[0] + 1) / 2) :
    Calls Try.prog 128 #[.string s] w fun e w' => e = .returned (.tuple #[.agg #[.int .i64 0, .slice none 0 0], .string ⟨#[]⟩, .bool false]) ∧ Below w.heap.size w w' := by
  have hb0 : Below w.heap.size w (w.alloc (.cells #[.int .i64 0, .slice none 0 0] 26)) := (Below.refl _ _).alloc (Nat.le_refl _) _
  rcases h with h | ⟨h0, h⟩
  · have he := size_zero h
    subst he
    go_enter Try.func128, Try.ntmps128
    go_wp2_with fail
    refine bodyPost_ret (v := .tuple #[.agg #[.int .i64 0, .slice none 0 0], .string ⟨#[]⟩, .bool false]) (by simp [results, Try.results128, go_sem]) rfl ⟨rfl, hb0⟩
  · have hE := str_nonempty h0
    obtain ⟨b, hb⟩ : ∃ b, s[0] = b := ⟨_, rfl⟩
    obtain ⟨v, hv⟩ : ∃ v, b.toNat = v := ⟨_, rfl⟩
    have hb2 : v < 256 := by rw [← hv]; exact UInt8.toNat_lt _
    unfold wdt at h
    rw [hb, hv] at h
    have u1 : IntKind.u8.wrap ((v : Int) / 16) = (v : Int) / 16 := wrapB (by omega)
    have u2 : IntKind.u8.wrap ((v : Int) % 16) = (v : Int) % 16 := wrapB (by omega)
    have u3 : IntKind.i64.wrap ((v : Int) / 16) = (v : Int) / 16 := wrapI (by omega)
    have u4 : IntKind.i64.wrap ((v : Int) % 16) = (v : Int) % 16 := wrapI (by omega)
    have u5 : IntKind.i64.wrap ((v : Int) / 16 + 1) = (v : Int) / 16 + 1 := wrapI (by omega)
    have u6 : IntKind.i64.wrap ((v : Int) % 16 + 1) = (v : Int) % 16 + 1 := wrapI (by omega)
    have hi : (0 : Int) < (s.size : Int) := by omega
    go_enter Try.func128, Try.ntmps128
    go_wp2_with fail
    go_region
    have hlt : (s.size : Int) < 1 + ((v : Int) % 16 + 1 + 1) / 2 := by omega
    go_wp2_with fail
    refine bodyPost_ret (v := .tuple #[.agg #[.int .i64 0, .slice none 0 0], .string ⟨#[]⟩, .bool false]) (by simp [results, Try.results128, go_sem]) rfl ⟨rfl, ?_⟩
    exact (hb0.alloc (by simp) _).drew
set_option maxRecDepth 100000 in
set_option maxHeartbeats 3200000 in
theorem takeRegister_ok (s : ByteArray) (w : World) (hs : s.size ≤ 140737488355328) (h0 : 0 < s.size) (h : 1 + (wdt s[0] + 1) / 2 ≤ s.size) :
    Calls Try.prog 128 #[.string s] w fun e w' => ∃ A' c' r, e = .returned (.tuple #[.agg #[.int .i64 (bas s[0] : Int), .slice A' (wdt s[0]) c'], .string r, .bool true]) ∧ strB r = (strB s).drop (1 + (wdt s[0] + 1) / 2) ∧ OwnI w' w.heap.size (.slice A' (wdt s[0]) c') (digL ((strB s).drop 1) (wdt s[0])) ∧ Below w.heap.size w w' := by
  have hb0 : Below w.heap.size w (w.alloc (.cells #[.int .i64 0, .slice none 0 0] 26)) := (Below.refl _ _).alloc (Nat.le_refl _) _
  have hE := str_nonempty h0
  obtain ⟨b, hb⟩ : ∃ b, s[0] = b := ⟨_, rfl⟩
  obtain ⟨v, hv⟩ : ∃ v, b.toNat = v := ⟨_, rfl⟩
  have hb2 : v < 256 := by rw [← hv]; exact UInt8.toNat_lt _
  have HBA := Lib.hid (show (bas b : Int) = (v : Int) / 16 + 1 by unfold bas; rw [hv]; omega)
  have HWD := Lib.hid (show (wdt b : Int) = (v : Int) % 16 + 1 by unfold wdt; rw [hv]; omega)
  have HWN := Lib.hid (show wdt b = v % 16 + 1 by unfold wdt; rw [hv])
  rw [hb] at h ⊢
  have u1 : IntKind.u8.wrap ((v : Int) / 16) = (v : Int) / 16 := wrapB (by omega)
  have u2 : IntKind.u8.wrap ((v : Int) % 16) = (v : Int) % 16 := wrapB (by omega)
  have u3 : IntKind.i64.wrap ((v : Int) / 16) = (v : Int) / 16 := wrapI (by omega)
  have u4 : IntKind.i64.wrap ((v : Int) % 16) = (v : Int) % 16 := wrapI (by omega)
  have u5 : IntKind.i64.wrap ((v : Int) / 16 + 1) = (v : Int) / 16 + 1 := wrapI (by omega)
  have u6 : IntKind.i64.wrap ((v : Int) % 16 + 1) = (v : Int) % 16 + 1 := wrapI (by omega)
  have hi : (0 : Int) < (s.size : Int) := by omega
  have hnlt : ¬ (s.size : Int) < 1 + ((v : Int) % 16 + 1 + 1) / 2 := by have := HWN.out; omega
  obtain ⟨wd, hwd⟩ : ∃ wd : Nat, (v : Int) % 16 + 1 = (wd : Int) := ⟨v % 16 + 1, by omega⟩
  have HWE := Lib.hid (show wdt b = wd by have := HWN.out; omega)
  have hwd16 : wd ≤ 16 := by omega
  have hwd1 : 1 ≤ wd := by omega
  have hlen : 1 + (wd + 1) / 2 ≤ s.size := by have := HWE.out; rw [this] at h; exact h
  clear h
  rw [HWE.out]
  obtain ⟨bs, hbs⟩ : ∃ bs, (v : Int) / 16 + 1 = bs := ⟨_, rfl⟩
  have HBE := Lib.hid (show (bas b : Int) = bs by rw [HBA.out]; exact hbs)
  rw [HBE.out]
  rw [hbs] at u5
  have HSL := Lib.hid (strB_len s)
  obtain ⟨tl, htl⟩ : ∃ tl, tl = (strB s).drop 1 := ⟨_, rfl⟩
  have HTL := Lib.hid htl
  rw [← htl]
  clear htl
  go_enter Try.func128, Try.ntmps128
  go_wp2_with fail
  go_region
  go_wp2_with fail
  go_loopw [32] (fun kk wr => ∃ (k : Nat) (x : Value), k ≤ wd ∧ kk = .int .i64 k ∧ SumAt wr (w.heap.size + 1) bs x (digL tl k) ∧ Below (w.heap.size + 1) (w.alloc (.cells #[.int .i64 0, .slice none 0 0] 26)) wr) (fun kk _ => wd - (intOf kk).toNat)
  case atStart =>
    refine ⟨0, .slice none 0 0, Nat.zero_le _, rfl, ⟨?_, OwnI.nil _ _⟩, ?_⟩
    · first
        | exact heap_alloc_new _ _
        | (show ((w.alloc (.cells #[.int .i64 0, .slice none 0 0] 26)).alloc (.cells #[.int .i64 bs, .slice none 0 0] 26)).heap[w.heap.size + 1]? = _
           rw [show w.heap.size + 1 = (w.alloc (.cells #[.int .i64 0, .slice none 0 0] 26)).heap.size by simp]
           exact heap_alloc_new _ _)
    · exact ((Below.refl _ _).alloc (by simp) _).drew
  case round =>
    obtain ⟨k, x, hk, rfl, hS, hbr⟩ := hrel
    have HS := Lib.hid hS
    have HBR := Lib.hid hbr
    obtain ⟨s1, s2, s3⟩ := hS.cells
    have hGl := hS.lt
    have hO := Lib.hid hS.2
    clear hS hbr
    by_cases hkn : k < wd
    · have hk1 : (k : Int) < (wd : Int) := by omega
      have hix : 1 + k / 2 < s.size := by omega
      obtain ⟨q, hq⟩ : ∃ q : UInt8, s[1 + k / 2] = q := ⟨_, rfl⟩
      obtain ⟨z, hz⟩ : ∃ z : Nat, q.toNat = z := ⟨_, rfl⟩
      have hz2 : z < 256 := by rw [← hz]; exact UInt8.toNat_lt _
      have hxi : (1 : Int) + (k : Int) / 2 < (s.size : Int) := by omega
      have hxn : ((1 : Int) + (k : Int) / 2).toNat = 1 + k / 2 := by omega
      have HDK : Hid (digK tl k = if k % 2 = 0 then ((z / 16 : Nat) : Int) else ((z % 16 : Nat) : Int)) := by
        simp only [Hid, digK]
        rw [show (tl.getD (k / 2) 0).toNat = z by
          rw [HTL.out, ← hz, ← hq, strB_get s hix]
          rw [List.getD, List.getElem?_drop, List.getElem?_eq_getElem (show 1 + k / 2 < (strB s).length by rw [HSL.out]; exact hix)]; rfl]
      rcases Nat.mod_two_eq_zero_or_one k with hm | hm
      · have hme : ((k : Int) % 2 == 0) = true := by rw [beq_iff_eq]; omega
        have hme2 : (k : Int) % 2 = 0 := by omega
        have hzz : (z : Int) / 16 % 16 = (z : Int) / 16 := by omega
        have HY : Hid (digK tl k = (z : Int) / 16) := by simp only [Hid]; rw [HDK.out, if_pos hm]; omega
        have hdl := digL_len tl k
        have HOB := Lib.hid (hO.out.below ((Below.refl wr.heap.size wr).alloc (Nat.le_refl _) (.cells #[.int .i64 ((z : Int) / 16)] 2)))
        go_wp2_with (at_builtin; refine app1I rfl _ _ rfl (w.heap.size + 1 + 1) _ (digL tl k) rfl HOB.out wr.heap.size ((z : Int) / 16) rfl (heap_alloc_new _ _) (by omega) (by simp; omega) ?_; intro v5 w6 hown5 hg5 hv5; obtain ⟨A5, c5, rfl, -⟩ := OwnI.reads hown5; obtain ⟨t1, t2, t3, t4⟩ := SumAt.far HS.out hg5)
        obtain ⟨hS3, hB3⟩ := SumAt.step (x := ((z : Int) / 16)) HS.out hg5 (by have h := hown5; unfold OwnI at h; rw [List.length_append, List.map_append] at h; exact h)
        rw [show (digL tl k).length + [((z : Int) / 16)].length = k + 1 by rw [hdl]; rfl] at hS3 hB3
        have HS3 := Lib.hid (show SumAt _ (w.heap.size + 1) bs _ (digL tl (k + 1)) by rw [digL_succ, HY.out]; exact hS3)
        have HB3 := Lib.hid (HBR.out.trans (hB3 _ (Nat.le_refl _)))
        clear hS3 hB3 hown5 hg5 hv5 t1 t2 t3 t4
        go_roundw
        case rel => exact ⟨k + 1, _, by omega, by go_num, HS3.out, HB3.out⟩
        case measure => simp [intOf]; omega
      · have hme : ((k : Int) % 2 == 0) = false := by rw [beq_eq_false_iff_ne]; omega
        have hme2 : ¬ (k : Int) % 2 = 0 := by omega
        have HY : Hid (digK tl k = (z : Int) % 16) := by simp only [Hid]; rw [HDK.out, if_neg (by omega)]; omega
        have hdl := digL_len tl k
        have HOB := Lib.hid (hO.out.below ((Below.refl wr.heap.size wr).alloc (Nat.le_refl _) (.cells #[.int .i64 ((z : Int) % 16)] 2)))
        go_wp2_with (at_builtin; refine app1I rfl _ _ rfl (w.heap.size + 1 + 1) _ (digL tl k) rfl HOB.out wr.heap.size ((z : Int) % 16) rfl (heap_alloc_new _ _) (by omega) (by simp; omega) ?_; intro v5 w6 hown5 hg5 hv5; obtain ⟨A5, c5, rfl, -⟩ := OwnI.reads hown5; obtain ⟨t1, t2, t3, t4⟩ := SumAt.far HS.out hg5)
        obtain ⟨hS3, hB3⟩ := SumAt.step (x := ((z : Int) % 16)) HS.out hg5 (by have h := hown5; unfold OwnI at h; rw [List.length_append, List.map_append] at h; exact h)
        rw [show (digL tl k).length + [((z : Int) % 16)].length = k + 1 by rw [hdl]; rfl] at hS3 hB3
        have HS3 := Lib.hid (show SumAt _ (w.heap.size + 1) bs _ (digL tl (k + 1)) by rw [digL_succ, HY.out]; exact hS3)
        have HB3 := Lib.hid (HBR.out.trans (hB3 _ (Nat.le_refl _)))
        clear hS3 hB3 hown5 hg5 hv5 t1 t2 t3 t4
        go_roundw
        case rel => exact ⟨k + 1, _, by omega, by go_num, HS3.out, HB3.out⟩
        case measure => simp [intOf]; omega
    · have HK : Hid (k = wd) := by simp only [Hid]; omega
      have q0 : wr.cell? ⟨w.heap.size, 0, none⟩ = some (.int .i64 0) := by rw [HBR.out.cell (by simp)]; go_simp
      have q1 : wr.cell? ⟨w.heap.size, 1, none⟩ = some (.slice none 0 0) := by rw [HBR.out.cell (by simp)]; go_simp
      have q2 : wr.frozen? ⟨w.heap.size, 0, none⟩ = false := by rw [HBR.out.frozen (by simp)]; go_simp
      have q3 : wr.frozen? ⟨w.heap.size, 1, none⟩ = false := by rw [HBR.out.frozen (by simp)]; go_simp
      obtain ⟨A', c', e, -, -⟩ := hO.out.reads
      subst e
      rw [digL_len, HK.out] at s2
      have hO2 := hO.out
      rw [digL_len, HK.out] at hO2
      have HO2 := Lib.hid hO2
      clear hO2 HS hO
      have hgl1 : w.heap.size + 1 ≠ w.heap.size := by omega
      have x1 : IntKind.i64.wrap ((wd : Int) + 1) = (wd : Int) + 1 := wrapI (by omega)
      have x2 : IntKind.i64.wrap (((wd : Int) + 1) / 2) = ((wd : Int) + 1) / 2 := wrapI (by omega)
      have x3 : IntKind.i64.wrap (1 + ((wd : Int) + 1) / 2) = 1 + ((wd : Int) + 1) / 2 := wrapI (by omega)
      have x4 : (1 : Int) + ((wd : Int) + 1) / 2 ≤ (s.size : Int) := by omega
      go_wp2_with fail
      go_region
      all_goals
        go_wp2_with fail
        have hb9 : Below w.heap.size w (((wr.setCell ⟨w.heap.size, 0, none⟩ (.int .i64 bs)).setCell ⟨w.heap.size, 1, none⟩ (.slice A' wd c')).drew) :=
          (((hb0.trans (HBR.out.mono (by omega))).setCell (by show w.heap.size ≤ w.heap.size; omega) _).setCell (by show w.heap.size ≤ w.heap.size; omega) _).drew
        refine bodyPost_ret (v := .tuple #[.agg #[.int .i64 bs, .slice A' wd c'], .string (s.extract (1 + (wd + 1) / 2) s.size), .bool true]) (by simp [results, Try.results128, go_sem, q0, q1, q2, q3]) rfl ⟨A', c', _, rfl, ?_, ?_, hb9⟩
        · exact strB_drop s _
        · exact ((((HO2.out.setBelow (by show w.heap.size < w.heap.size + 1 + 1; omega) _).setBelow (by show w.heap.size < w.heap.size + 1 + 1; omega) _)).mono (by omega)).drew
end Go.Proofs.Ytcngeifkddhkmaa
