import Derived.Test.YtcngeifkddhkmaaI7
namespace Go.Proofs.Ytcngeifkddhkmaa
open Go.RowKit Go.Sort
/-- what bytes are -/
def kindB (bs : List UInt8) : ByteArray := if (unpR bs).isSome then ⟨#[114, 101, 103, 105, 115, 116, 101, 114]⟩ else if (unpM bs).isSome then ⟨#[109, 97, 99, 104, 105, 110, 101]⟩ else if (unpP bs).isSome then ⟨#[112, 114, 111, 103, 114, 97, 109]⟩ else ⟨#[]⟩
theorem code8 {α : Type} (o : Option α) : ((if o.isSome then (0 : Int) else 8) == 0) = o.isSome := by cases o <;> rfl
set_option maxRecDepth 100000 in
set_option maxHeartbeats 1000000 in
theorem KindOfBytes_any (s : ByteArray) (w : World) (hs : s.size ≤ 1048576) :
    Calls Try.prog 26 #[.string s] w fun e w' => e = .returned (.string (kindB (strB s))) ∧ Below w.heap.size w w' := by
  have K1 := Lib.hid (fun W => UnpackRegister_any s W hs)
  have K2 := Lib.hid (fun W => UnpackMachine_any s W hs)
  have K3 := Lib.hid (fun W => UnpackProgram_any s W hs)
  have HK := Lib.hid (show kindB (strB s) = _ from rfl)
  go_enter Try.func26, Try.ntmps26
  go_wp2_with fail
  refine (K1.out w).mono ?_; rintro e w1 ⟨A, c, rfl, ho, hw⟩
  have hK1 := (Kn.nil w).keep hw
  clear ho hw
  unfold unpCode
  rcases h1 : (unpR (strB s)).isSome with _ | _
  · have H1 := Lib.hid h1; clear h1
    go_wp2_with fail
    refine Calls.kn (hK1.al_ _) ?_; intro w2 hK2
    refine (K2.out w2).mono ?_; rintro e w3 ⟨A1, c1, A2, c2, A3, c3, rfl, hK⟩
    have hK3 := hK2.join hK
    clear hK
    unfold unpMCode
    rcases h2 : (unpM (strB s)).isSome with _ | _
    · have H2 := Lib.hid h2; clear h2
      go_wp2_with fail
      refine Calls.kn (hK3.bare.al_ _) ?_; intro w4 hK4
      refine (K3.out w4).mono ?_; rintro e w5 ⟨A4, c4, rfl, hK⟩
      have hK5 := (hK4.join hK).bare
      clear hK
      unfold unpPCode
      rcases h3 : (unpP (strB s)).isSome with _ | _
      all_goals
        have H3 := Lib.hid h3; clear h3
        go_wp2_with fail
        go_ret
        exact ⟨by unfold kindB; rw [H1.out, H2.out, H3.out]; rfl, hK5.below⟩
    · have H2 := Lib.hid h2; clear h2
      go_wp2_with fail
      go_ret
      exact ⟨by unfold kindB; rw [H1.out, H2.out]; rfl, (hK3.bare.al_ _).below⟩
  · have H1 := Lib.hid h1; clear h1
    go_wp2_with fail
    go_ret
    exact ⟨by unfold kindB; rw [H1.out]; rfl, (hK1.al_ _).below⟩
set_option maxRecDepth 100000 in
set_option maxHeartbeats 1000000 in
theorem specKindOfBytes_any (s : ByteArray) (w : World) (hs : s.size ≤ 1048576) :
    Calls Try.prog 25 #[.string s] w fun e w' => e = .returned (.string (kindB (strB s))) ∧ Below w.heap.size w w' := by
  have K1 := Lib.hid (fun W => specUnpackRegister_any s W hs)
  have K2 := Lib.hid (fun W => specUnpackMachine_any s W hs)
  have K3 := Lib.hid (fun W => specUnpackProgram_any s W hs)
  go_enter Try.func25, Try.ntmps25
  go_wp2_with fail
  refine (K1.out w).mono ?_; rintro e w1 ⟨A, c, rfl, ho, hw⟩
  have hK1 := (Kn.nil w).keep hw
  clear ho hw
  unfold unpCode
  rcases h1 : (unpR (strB s)).isSome with _ | _
  all_goals
    have H1 := Lib.hid h1; clear h1
    go_wp2_with fail
    refine Calls.kn (hK1.al_ _) ?_; intro w2 hK2
    refine (K2.out w2).mono ?_; rintro e w3 ⟨A1, c1, A2, c2, A3, c3, rfl, hK⟩
    have hK3 := hK2.join hK
    clear hK
    unfold unpMCode
    rcases h2 : (unpM (strB s)).isSome with _ | _
    all_goals
      have H2 := Lib.hid h2; clear h2
      go_wp2_with fail
      refine Calls.kn (hK3.bare.al_ _) ?_; intro w4 hK4
      refine (K3.out w4).mono ?_; rintro e w5 ⟨A4, c4, rfl, hK⟩
      have hK5 := (hK4.join hK).bare
      clear hK
      unfold unpPCode
      rcases h3 : (unpP (strB s)).isSome with _ | _
      all_goals
        have H3 := Lib.hid h3; clear h3
        go_wp2_with fail
        go_ret
        exact ⟨by unfold kindB; rw [H1.out, H2.out, H3.out]; rfl, hK5.below⟩
theorem law_KindOfBytes (s : ByteArray) (w : World) (_hs : s.size ≤ 9223372036854775807) :
    Calls Try.prog 4 #[.string s] w fun e w' => e = .returned (.bool true) ∧ Below w.heap.size w w' := by
  by_cases h : s.size ≤ 1048576
  · have K1 := Lib.hid (fun W => KindOfBytes_any s W h)
    have K2 := Lib.hid (fun W => specKindOfBytes_any s W h)
    have i1 : ¬ (1048576 : Int) < (s.size : Int) := by omega
    obtain ⟨t, ht⟩ : ∃ t, kindB (strB s) = t := ⟨_, rfl⟩
    rw [ht] at K1 K2
    clear ht
    go_enter Try.func4, Try.ntmps4
    go_wp2_with fail
    refine (K2.out w).mono ?_; rintro e w1 ⟨rfl, hw1⟩
    go_wp2_with fail
    refine (K1.out w1).mono ?_; rintro e w2 ⟨rfl, hw2⟩
    go_wp2_with fail
    go_ret
    exact ⟨rfl, hw1.trans (hw2.mono hw1.size)⟩
  · have i1 : (1048576 : Int) < (s.size : Int) := by omega
    go_enter Try.func4, Try.ntmps4
    go_wp2_with fail
    go_ret
    exact ⟨rfl, Below.refl _ _⟩
end Go.Proofs.Ytcngeifkddhkmaa
