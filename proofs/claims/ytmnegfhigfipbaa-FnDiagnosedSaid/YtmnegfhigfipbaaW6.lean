import Derived.Test.YtmnegfhigfipbaaW5
namespace Go.Proofs.Ytmnegfhigfipbaa
open Go.RowKit Go.Sort
set_option maxRecDepth 100000 in
set_option maxHeartbeats 3200000 in
theorem l20Pairs_any (base : Int) (width : Nat) (w : World) (hb : 2 ≤ base) (hb2 : base ≤ 16) (hw : width ≤ 16) (h1 : 0 < width) :
    Calls Try.prog 90 #[.int .i64 base, .int .i64 width] w fun e w' => ∃ v ts, e = .returned v ∧ PL w' w.heap.size v ts ∧ ts.length = width * 2 ∧ (∀ t ∈ ts, PairOK base width t) ∧ Below w.heap.size w w' := by
  go_enter Try.func90, Try.ntmps90
  go_wp2_with fail
  refine (l20Pair_none base width w hb hb2 hw h1).mono ?_; rintro e w1 ⟨A, c, B, d, ds, es, rfl, o1, o2, D1, D2, hw1⟩
  have hz1 := hw1.size
  go_wp2_with fail
  go_loopw [6, 5] (fun kk out wr => ∃ (k : Nat) (ts : List Tri), k ≤ width ∧ 0 ≤ k ∧ kk = .int .i64 k ∧ PL wr w.heap.size out ts ∧ ts.length = k + 1 ∧ (∀ t ∈ ts, PairOK base width t) ∧ Below w.heap.size w wr) (fun kk _ _ => width - (intOf kk).toNat)
  case atStart =>
    refine ⟨0, [⟨⟨base, ds⟩, ⟨base, es⟩, ⟨0, []⟩, 0⟩], Nat.zero_le _, Nat.le_refl _, rfl, ?_, rfl, fun t ht => by rw [List.mem_singleton.1 ht]; exact ⟨rfl, D1, rfl, D2, rfl, rfl⟩, hw1.alloc hz1 _⟩
    have hba : Below w1.heap.size w1 (w1.alloc (.cells #[.int .i64 base, .slice A width c, .int .i64 base, .slice B width d, .int .i64 0, .slice none 0 0, .int .i64 0] 62)) := (Below.refl _ _).alloc (Nat.le_refl _) _
    refine ⟨tcells ⟨⟨base, ds⟩, ⟨base, es⟩, ⟨0, []⟩, 0⟩ A c B d none 0, ?_, fun i hi => ?_⟩
    · simp only [tcells, D1.1, D2.1]
      exact own_lit (n := 1) (cs := #[.int .i64 base, .slice A width c, .int .i64 base, .slice B width d, .int .i64 0, .slice none 0 0, .int .i64 0]) (heap_alloc_new _ _) hz1 rfl (by decide)
    · obtain rfl : i = 0 := by simp at hi; omega
      have p1 : OwnD w1 w.heap.size (some w1.heap.size) (.slice A ds.length c) ds := ⟨by rw [D1.1]; exact o1, fun k hk => ⟨fun e => by injection e with e; have := (own_lt o1 k (by rw [D1.1] at hk; exact hk)).2; omega, (own_lt o1 k (by rw [D1.1] at hk; exact hk)).2⟩⟩
      have p2 : OwnD w1 w.heap.size (some w1.heap.size) (.slice B es.length d) es := ⟨by rw [D2.1]; exact o2, fun k hk => ⟨fun e => by injection e with e; have := (own_lt o2 k (by rw [D2.1] at hk; exact hk)).2; omega, (own_lt o2 k (by rw [D2.1] at hk; exact hk)).2⟩⟩
      have hk : ∀ g, w.heap.size ≤ g → g < w1.heap.size → some g ≠ some w1.heap.size → (w1.alloc (.cells #[.int .i64 base, .slice A width c, .int .i64 base, .slice B width d, .int .i64 0, .slice none 0 0, .int .i64 0] 62)).heap[g]? = w1.heap[g]? ∧ some g ≠ some w1.heap.size := fun g _ hg hne => ⟨hba.block g hg, hne⟩
      exact ⟨A, c, B, d, none, 0, ⟨rfl, rfl, rfl, rfl, rfl, rfl, rfl⟩, p1.kept hba.size hk, p2.kept hba.size hk, OwnD.nil _ _ _⟩
  case round =>
    obtain ⟨k, ts, hk, hklo, rfl, hpl, hlen, hok, hbr⟩ := hrel
    have HOK := Lib.hid hok
    have HLEN := Lib.hid hlen
    have HBR := Lib.hid hbr
    have hwz := hbr.size
    clear hok hbr hlen
    by_cases hkn : k < width
    · have hk1 : (k : Int) < (width : Int) := by omega
      obtain ⟨xs, hO, hI⟩ := hpl
      have HI := Lib.hid hI; clear hI
      have hlo := own_lt hO
      have HLO := Lib.hid hlo; clear hlo
      go_wp2_with fail
      refine (l20Pair_at base width k wr hb hb2 hw hkn).mono ?_; rintro e w1 ⟨A, c, B, d, ds, es, rfl, o1, o2, D1, D2, hw1⟩
      have hz1 := hw1.size
      have hb5 := hw1.alloc hz1 (.cells #[.int .i64 base, .slice A width c, .int .i64 base, .slice B width d, .int .i64 0, .slice none 0 0, .int .i64 0] 62)
      have HB5 := Lib.hid hb5
      have HO1 := Lib.hid (o1.below ((Below.refl _ _).alloc (Nat.le_refl _) (.cells #[.int .i64 base, .slice A width c, .int .i64 base, .slice B width d, .int .i64 0, .slice none 0 0, .int .i64 0] 62)))
      have HO2 := Lib.hid (o2.below ((Below.refl _ _).alloc (Nat.le_refl _) (.cells #[.int .i64 base, .slice A width c, .int .i64 base, .slice B width d, .int .i64 0, .slice none 0 0, .int .i64 0] 62)))
      have HD1 := Lib.hid D1
      have HD2 := Lib.hid D2
      have hlen := HLEN.out
      clear hw1 o1 o2 D1 D2 hb5
      go_wp2_with (at_builtin; refine appG tpT rfl _ _ rfl w.heap.size _ ts.length xs rfl (ownsRow_below hO HB5.out) ⟨w1.heap.size, 0, none⟩ 1 1 [.int .i64 base, .slice A width c, .int .i64 base, .slice B width d, .int .i64 0, .slice none 0 0, .int .i64 0] rfl rfl (World.news_of_block (heap_alloc_new _ _)) (by simp [Value.oneCell']) (by omega) (by omega) (by simp; omega) ?_; intro v5 w6 hown5 hg5 hv5)
      have hps := pl_push (t := ⟨⟨base, ds⟩, ⟨base, es⟩, ⟨0, []⟩, 0⟩) (X1 := A) (x1 := c) (X2 := B) (x2 := d) (X3 := none) (x3 := 0) (ownsRow_below hO HB5.out)
        (fun i hi => (HI.out i hi).kept HB5.out.size (fun g _ hg hne => ⟨HB5.out.block g hg, hne⟩)) (ownD_of (b0 := wr.heap.size) (by show OwnI _ _ (.slice A ds.length c) _; rw [HD1.out.1]; exact HO1.out) hwz (fun k hk => (HLO.out k hk).2)) (ownD_of (b0 := wr.heap.size) (by show OwnI _ _ (.slice B es.length d) _; rw [HD2.out.1]; exact HO2.out) hwz (fun k hk => (HLO.out k hk).2)) (OwnD.nil _ _ _)
        (by simp only [tcells, HD1.out.1, HD2.out.1]; exact hown5) hg5 hv5
      have hbf := (HBR.out.trans (HB5.out.mono hwz)).grown hg5 (by simp; omega) (fun k hk => (HLO.out k hk).1)
      have HPS := Lib.hid hps; clear hps
      have HBF := Lib.hid hbf; clear hbf hown5
      go_roundw
      case rel => exact ⟨k + 1, _, by omega, by omega, by go_num, HPS.out, by rw [List.length_append, List.length_cons, List.length_nil]; omega, fun t ht => by
        rcases List.mem_append.1 ht with ht | ht
        · exact HOK.out t ht
        · rw [List.mem_singleton.1 ht]; exact ⟨rfl, HD1.out, rfl, HD2.out, rfl, rfl⟩, HBF.out⟩
      case measure => simp [intOf]; omega
    · have HK : Hid (k = width) := by simp only [Hid]; omega
      have HPL := Lib.hid hpl; clear hpl
      have hk0 := hklo
      go_wp2_with fail
      obtain ⟨wo, rfl⟩ : ∃ wo : World, wo = wr := ⟨_, rfl⟩
      go_loopw [7, 5] (fun kk out wr => ∃ (k : Nat) (ts : List Tri), k ≤ width ∧ 1 ≤ k ∧ kk = .int .i64 k ∧ PL wr w.heap.size out ts ∧ ts.length = k + width ∧ (∀ t ∈ ts, PairOK base width t) ∧ Below w.heap.size w wr) (fun kk _ _ => width - (intOf kk).toNat)
      case atStart => exact ⟨1, ts, by omega, Nat.le_refl _, rfl, HPL.out, by rw [HLEN.out, HK.out]; omega, HOK.out, HBR.out⟩
      case round =>
        clear hwz
        obtain ⟨k, ts, hk, hklo, rfl, hpl, hlen, hok, hbr⟩ := hrel
        have HOK := Lib.hid hok
        have HLEN := Lib.hid hlen
        have HBR := Lib.hid hbr
        have hwz := hbr.size
        clear hok hbr hlen
        by_cases hkn : k < width
        · have hk1 : (k : Int) < (width : Int) := by omega
          obtain ⟨xs, hO, hI⟩ := hpl
          have HI := Lib.hid hI; clear hI
          have hlo := own_lt hO
          have HLO := Lib.hid hlo; clear hlo
          go_wp2_with fail
          refine (l20Pair_late base width k wr hb hb2 hw hkn hklo).mono ?_; rintro e w1 ⟨A, c, B, d, ds, es, rfl, o1, o2, D1, D2, hw1⟩
          have hz1 := hw1.size
          have hb5 := hw1.alloc hz1 (.cells #[.int .i64 base, .slice A width c, .int .i64 base, .slice B width d, .int .i64 0, .slice none 0 0, .int .i64 0] 62)
          have HB5 := Lib.hid hb5
          have HO1 := Lib.hid (o1.below ((Below.refl _ _).alloc (Nat.le_refl _) (.cells #[.int .i64 base, .slice A width c, .int .i64 base, .slice B width d, .int .i64 0, .slice none 0 0, .int .i64 0] 62)))
          have HO2 := Lib.hid (o2.below ((Below.refl _ _).alloc (Nat.le_refl _) (.cells #[.int .i64 base, .slice A width c, .int .i64 base, .slice B width d, .int .i64 0, .slice none 0 0, .int .i64 0] 62)))
          have HD1 := Lib.hid D1
          have HD2 := Lib.hid D2
          have hlen := HLEN.out
          clear hw1 o1 o2 D1 D2 hb5
          go_wp2_with (at_builtin; refine appG tpT rfl _ _ rfl w.heap.size _ ts.length xs rfl (ownsRow_below hO HB5.out) ⟨w1.heap.size, 0, none⟩ 1 1 [.int .i64 base, .slice A width c, .int .i64 base, .slice B width d, .int .i64 0, .slice none 0 0, .int .i64 0] rfl rfl (World.news_of_block (heap_alloc_new _ _)) (by simp [Value.oneCell']) (by omega) (by omega) (by simp; omega) ?_; intro v5 w6 hown5 hg5 hv5)
          have hps := pl_push (t := ⟨⟨base, ds⟩, ⟨base, es⟩, ⟨0, []⟩, 0⟩) (X1 := A) (x1 := c) (X2 := B) (x2 := d) (X3 := none) (x3 := 0) (ownsRow_below hO HB5.out)
            (fun i hi => (HI.out i hi).kept HB5.out.size (fun g _ hg hne => ⟨HB5.out.block g hg, hne⟩)) (ownD_of (b0 := wr.heap.size) (by show OwnI _ _ (.slice A ds.length c) _; rw [HD1.out.1]; exact HO1.out) hwz (fun k hk => (HLO.out k hk).2)) (ownD_of (b0 := wr.heap.size) (by show OwnI _ _ (.slice B es.length d) _; rw [HD2.out.1]; exact HO2.out) hwz (fun k hk => (HLO.out k hk).2)) (OwnD.nil _ _ _)
            (by simp only [tcells, HD1.out.1, HD2.out.1]; exact hown5) hg5 hv5
          have hbf := (HBR.out.trans (HB5.out.mono hwz)).grown hg5 (by simp; omega) (fun k hk => (HLO.out k hk).1)
          have HPS := Lib.hid hps; clear hps
          have HBF := Lib.hid hbf; clear hbf hown5
          go_roundw
          case rel => exact ⟨k + 1, _, by omega, by omega, by go_num, HPS.out, by rw [List.length_append, List.length_cons, List.length_nil]; omega, fun t ht => by
            rcases List.mem_append.1 ht with ht | ht
            · exact HOK.out t ht
            · rw [List.mem_singleton.1 ht]; exact ⟨rfl, HD1.out, rfl, HD2.out, rfl, rfl⟩, HBF.out⟩
          case measure => simp [intOf]; omega
        · have HF : Hid (ts.length = width * 2) := by simp only [Hid]; have := HLEN.out; omega
          have HPL2 := Lib.hid hpl; clear hpl
          obtain ⟨AO, cO, rfl, -⟩ := HPL2.out.rl
          go_wp2
          go_ret
          exact ⟨_, ts, rfl, HPL2.out, HF.out, HOK.out, HBR.out⟩
end Go.Proofs.Ytmnegfhigfipbaa
