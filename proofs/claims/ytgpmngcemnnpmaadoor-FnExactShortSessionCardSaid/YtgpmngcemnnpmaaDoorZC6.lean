/- Part 6: lemmas and contracts of the claim's functions. -/
import Derived.Test.YtgpmngcemnnpmaaDoorZC1
import Derived.Test.YtgpmngcemnnpmaaDoorZC2
import Derived.Test.YtgpmngcemnnpmaaDoorZC3
import Derived.Test.YtgpmngcemnnpmaaDoorZC4
import Derived.Test.YtgpmngcemnnpmaaDoorZC5
namespace Go.Proofs.YtgpmngcemnnpmaaDoor
open Go.RowKit Go.Sort
theorem lineI_any {F : List Ent} {w0 : World} {g k : Nat} (s : SS) (i : Int) (L : ByteArray) (w : World) (hS : SesI F w0 g s w) (hg : s.Good k) (hk : k ≤ 1000000) (hL : L.size ≤ 1048576) (ht : TB w0) :
    Calls Tryd.prog 120 #[.pointer (some ⟨g, 0, none⟩), .int .i64 i, .string L] w fun e w' => e = .returned (.int .i64 (lineS s i (strB L)).2) ∧ SesI F w0 g (lineS s i (strB L)).1 w' := by
  rcases he : s.ended with _ | _
  · by_cases hq : kindOf (strB L) = 0
    · rcases h1 : begins setB (strB L) with _ | _
      · rcases h2 : begins showB (strB L) with _ | _
        · exact lineI_end s i L w hS he hq hL h1 h2
        · exact lineI_show s i L w hS hg he hq hL h2 ht
      · exact lineI_set s i L w hS hg he hq hL h1 ht
    · refine (lineI_stroke s i L w hS hg hk he hq).mono ?_
      rintro e w' ⟨rfl, h⟩
      refine ⟨?_, h⟩
      unfold lineS
      rw [if_neg (by rw [he]; decide), if_pos hq]
  · exact lineI_ended s i L w hS he
def startW : ByteArray := ⟨#[115, 116, 97, 114, 116, 32]⟩
theorem rdM_nil : rdM [] = none := rfl
/-- what a session begins with -/
def startOk (b : List UInt8) : Bool := begins startB b && (rdM (b.drop 6)).isSome
theorem runS_cons (b : List UInt8) (t : List (List UInt8)) : runS (b :: t) = if startOk b then goS ⟨rdMach (b.drop 6), rdMach (b.drop 6), [], [], false⟩ 1 t else (zSS, 0, 1) := rfl
theorem goS_cons (s : SS) (i : Int) (b : List UInt8) (t : List (List UInt8)) : goS s i (b :: t) = if (lineS s i b).2 ≠ 0 then ((lineS s i b).1, i, (lineS s i b).2) else goS (lineS s i b).1 (i + 1) t := rfl
theorem goS_nil (s : SS) (i : Int) : goS s i [] = if s.ended then (s, -1, 0) else (s, i, 5) := rfl
theorem sesI_zero {w w1 : World} (h : Kn w [.blk (w.heap.size + 1 + 1) [.int .i64 0, .slice none 0 0, .int .i64 0, .slice none 0 0, .int .i64 0, .slice none 0 0, .int .i64 0, .int .i64 0, .slice none 0 0, .int .i64 0, .slice none 0 0, .int .i64 0, .slice none 0 0, .int .i64 0, .slice (some ⟨w.heap.size, 0, none⟩) 0 0, .slice (some ⟨w.heap.size + 1, 0, none⟩) 0 0, .bool false] 104, .blk (w.heap.size + 1) [] 2, .blk w.heap.size [] 2] w1) : SesI [] w (w.heap.size + 1 + 1) zSS w1 := by
  have h1 := (h.front 1 rfl).litRow (n := 0) (size := 1) rfl (by decide)
  have h2 := (h1.front 2 rfl).litRow (n := 0) (size := 1) rfl (by decide)
  have h3 := h2.nilRow 2 1
  exact ⟨none, 0, none, 0, none, 0, none, 0, none, 0, none, 0, some ⟨w.heap.size, 0, none⟩, 0, some ⟨w.heap.size + 1, 0, none⟩, 0, [rowI none 0 []], h3.sel [3, 1, 2, 0] 99 (by decide) (by decide), ⟨⟨by simp [zSS, zTri], by simp [zSS, zTri], by simp [zSS, zTri]⟩, fun e h => by cases h⟩, ⟨by simp [zSS, zTri], by simp [zSS, zTri], by simp [zSS, zTri]⟩⟩
theorem sesI_start {w w1 : World} {t : Tri} {A1 A2 A3 : Option Addr} {c1 c2 c3 g8 : Nat} {l8 : List Value} {T8 : TypeId} (h : Kn w [.blk (w.heap.size + 1 + 1) [.int .i64 t.a.base, .slice A1 t.a.digits.length c1, .int .i64 t.b.base, .slice A2 t.b.digits.length c2, .int .i64 t.s.base, .slice A3 t.s.digits.length c3, .int .i64 t.carry, .int .i64 t.a.base, .slice A1 t.a.digits.length c1, .int .i64 t.b.base, .slice A2 t.b.digits.length c2, .int .i64 t.s.base, .slice A3 t.s.digits.length c3, .int .i64 t.carry, .slice (some ⟨w.heap.size, 0, none⟩) 0 0, .slice (some ⟨w.heap.size + 1, 0, none⟩) 0 0, .bool false] 104, .blk g8 l8 T8, rowI A3 c3 t.s.digits, rowI A2 c2 t.b.digits, rowI A1 c1 t.a.digits, .blk (w.heap.size + 1) [] 2, .blk w.heap.size [] 2] w1) : SesI [] w (w.heap.size + 1 + 1) ⟨t, t, [], [], false⟩ w1 := by
  have h1 := (h.front 5 rfl).litRow (n := 0) (size := 1) rfl (by decide)
  have h2 := (h1.front 6 rfl).litRow (n := 0) (size := 1) rfl (by decide)
  exact ⟨A1, c1, A2, c2, A3, c3, A1, c1, A2, c2, A3, c3, some ⟨w.heap.size, 0, none⟩, 0, some ⟨w.heap.size + 1, 0, none⟩, 0, [rowI A3 c3 t.s.digits, rowI A2 c2 t.b.digits, rowI A1 c1 t.a.digits], h2.sel [2, 0, 1, 4, 5, 6] 99 (by decide) (by decide), ⟨⟨by simp, by simp, by simp⟩, fun e h => by cases h⟩, ⟨by simp, by simp, by simp⟩⟩
theorem SesI.below {F : List Ent} {w0 w : World} {g : Nat} {s : SS} (h : SesI F w0 g s w) : Below w0.heap.size w0 w := by
  obtain ⟨U1, u1, U2, u2, U3, u3, A1, c1, A2, c2, A3, c3, SA, sc, BA, bc, m, hK, -, -⟩ := h
  exact hK.below
theorem SesI.endedAt {F : List Ent} {w0 w : World} {g : Nat} {s : SS} (h : SesI F w0 g s w) : w.cell? ⟨g, 16, none⟩ = some (.bool s.ended) := by
  obtain ⟨U1, u1, U2, u2, U3, u3, A1, c1, A2, c2, A3, c3, SA, sc, BA, bc, m, hK, -, -⟩ := h
  exact hK.blkAt.1 16
set_option maxRecDepth 100000 in
set_option maxHeartbeats 6400000 in
theorem runSession_any (A : Option Addr) (n c : Nat) (ss : List ByteArray) (w : World) (hr : RL StrM 1 w A n ss) (hn : n ≤ 100) (hsz : ∀ s ∈ ss, s.size ≤ 1048576) (ht : TB w) :
    Calls Tryd.prog 98 #[.slice A n c] w fun e w' => ∃ g, e = .returned (.tuple #[.pointer (some ⟨g, 0, none⟩), .int .i64 (runS (ss.map strB)).2.1, .int .i64 (runS (ss.map strB)).2.2]) ∧ SesI [] w g (runS (ss.map strB)).1 w' := by
  have hl := hr.1
  obtain ⟨RES, hRES⟩ : ∃ r, runS (ss.map strB) = r := ⟨_, rfl⟩
  rw [hRES]
  have HRES := Lib.hid hRES
  clear hRES
  have HR := Lib.hid (fun W (hW : Below w.heap.size w W) => hr.below steady_StrM hW)
  have HTB := Lib.hid (fun W (hW : Below w.heap.size w W) => TB.below ht hW)
  have HZ := Lib.hid hsz
  have HT := Lib.hid ht
  have hK0 := (((Kn.nil w).al [] 2).al [] 2).al [.int .i64 0, .slice none 0 0, .int .i64 0, .slice none 0 0, .int .i64 0, .slice none 0 0, .int .i64 0, .int .i64 0, .slice none 0 0, .int .i64 0, .slice none 0 0, .int .i64 0, .slice none 0 0, .int .i64 0, .slice (some ⟨w.heap.size, 0, none⟩) 0 0, .slice (some ⟨w.heap.size + 1, 0, none⟩) 0 0, .bool false] 104
  simp only [World.size_alloc] at hK0
  clear hsz hr ht
  match ss, hl with
  | [], hl =>
    have hn0 : n = 0 := hl.symm
    subst hn0
    have HQ := Lib.hid (show RES = (zSS, 0, 1) by rw [← HRES.out]; rfl)
    go_enter Tryd.func98, Tryd.ntmps98
    go_wp2_with fail
    refine bodyPost.kn hK0 ?_; intro w1 hK1
    go_ret3
    rw [HQ.out]
    exact ⟨_, rfl, sesI_zero hK1⟩
  | L :: tl, hl =>
    have hL := HZ.out L (List.mem_cons_self ..)
    have hn0 : 0 < n := by rw [← hl]; simp
    have hn1 : ((n : Int) == 0) = false := by rw [beq_eq_false_iff_ne]; omega
    have hn2 : (0 : Int) < (n : Int) := by omega
    obtain ⟨R, hR⟩ : ∃ R, restB startW L = R := ⟨_, rfl⟩
    obtain ⟨okb, hokb⟩ : ∃ b, begins startB (strB L) = b := ⟨_, rfl⟩
    have hRs : R.size ≤ 1048576 := by
      rw [← hR]; unfold restB; split
      · rw [extract_size]; omega
      · decide
    have HBH := (fun W => behind_any L startW W (by omega) (by decide))
    rw [hR, show begins (strB startW) (strB L) = okb from hokb] at HBH
    have HRM := (fun W hW => ReadMachine_any R W hRs hW)
    obtain ⟨t, htr⟩ : ∃ t, rdMach (strB R) = t := ⟨_, rfl⟩
    obtain ⟨rd, hrd⟩ : ∃ b, (rdM (strB R)).isSome = b := ⟨_, rfl⟩
    rw [htr, hrd] at HRM
    have HOK := Lib.hid (show startOk (strB L) = (okb && rd) by
      unfold startOk
      rw [hokb]
      cases okb
      · rfl
      · rw [← hrd, ← hR, restB_yes (p := startW) hokb]
        show (true && _) = _
        rw [show startW.size = 6 from rfl, strB_drop])
    have HST := Lib.hid (show okb = true → t = rdMach ((strB L).drop 6) from fun h => by
      rw [← htr, ← hR, restB_yes (p := startW) (hokb.trans h), show startW.size = 6 from rfl, strB_drop])
    replace HBH := Lib.hid HBH
    replace HRM := Lib.hid HRM
    have HGT := Lib.hid (show rd = true → vmach t = true from fun h => by rw [← htr]; exact rdm_good (hrd.trans h))
    have HL := Lib.hid hl
    clear hR hokb htr hrd hl
    go_enter Tryd.func98, Tryd.ntmps98
    go_upto_region 2 with fail
    refine Code.wp.kn hK0 ?_; intro w1 hK1
    obtain ⟨ad, hA, hlt, hkl, hx⟩ := (HR.out w1 hK1.below).at_ hn0
    have hx0 : w1.cell? ad = some (.string L) := by have h : w1.cell? (ad.add (0 * 1)) = some (.string L) := hx; rw [show ad.add (0 * 1) = ad from by cases ad; simp [Addr.add]] at h; exact h
    subst hA
    clear hK0 hx hkl
    go_wp2_with fail
    refine (HBH.out _).mono ?_; rintro e w2 ⟨rfl, rfl⟩
    go_wp2_with fail
    refine (HRM.out _ (HTB.out _ hK1.below)).mono ?_; rintro e w3 ⟨A1, c1, A2, c2, A3, c3, rfl, hKn⟩
    have hK2 := hK1.join hKn
    clear hK1 hKn hx0
    obtain ⟨a1, a2, a3, -⟩ := hK2.cells
    rcases hok : (okb && rd) with _ | _
    · have HQ : Hid (RES = (zSS, 0, 1)) := by
        simp only [Hid]
        rw [← HRES.out, List.map_cons, runS_cons, HOK.out, hok, if_neg (by decide)]
      have hK3 := (hK2.sel [3, 4, 5] 99 (by decide) (by decide)).al_ (.cells #[.int .i64 t.a.base, .slice A1 t.a.digits.length c1, .int .i64 t.b.base, .slice A2 t.b.digits.length c2, .int .i64 t.s.base, .slice A3 t.s.digits.length c3, .int .i64 t.carry] 95)
      clear hK2
      rcases okb with _ | _
      · go_wp2_with fail
        go_ret3
        rw [HQ.out]
        exact ⟨_, rfl, sesI_zero hK3⟩
      · rcases rd with _ | _
        · go_wp2_with fail
          go_ret3
          rw [HQ.out]
          exact ⟨_, rfl, sesI_zero hK3⟩
        · cases hok
    · obtain ⟨rfl, rfl⟩ : okb = true ∧ rd = true := by simpa using hok
      have HQ : Hid (RES = goS ⟨t, t, [], [], false⟩ 1 (tl.map strB)) := by
        simp only [Hid]
        rw [← HRES.out, List.map_cons, runS_cons, HOK.out, if_pos (by decide), ← HST.out rfl]
      have hvt := HGT.out rfl
      clear hok
      go_upto_region 8 with fail
      refine Code.wp.kn (hK2.al [.int .i64 t.a.base, .slice A1 t.a.digits.length c1, .int .i64 t.b.base, .slice A2 t.b.digits.length c2, .int .i64 t.s.base, .slice A3 t.s.digits.length c3, .int .i64 t.carry] 95) ?_; intro w4 hK4
      obtain ⟨g8, hg8⟩ : ∃ g, w3.heap.size = g := ⟨_, rfl⟩
      rw [hg8] at hK4 ⊢
      clear hg8 hK2 a1 a2 a3
      obtain ⟨b1, b2, b3, a1, a2, a3, -⟩ := hK4.cells
      have HG := Lib.hid (box7at hK4.drew 0 rfl)
      have hKa := (((((((hK4.front 4 rfl).st 0 (.int .i64 t.a.base)).st 1 (.slice A1 t.a.digits.length c1)).st 2 (.int .i64 t.b.base)).st 3 (.slice A2 t.b.digits.length c2)).st 4 (.int .i64 t.s.base)).st 5 (.slice A3 t.s.digits.length c3)).st 6 (.int .i64 t.carry)
      have HA := Lib.hid (box7at hKa.drew 1 rfl)
      have hKb := ((((((hKa.st 7 (.int .i64 t.a.base)).st 8 (.slice A1 t.a.digits.length c1)).st 9 (.int .i64 t.b.base)).st 10 (.slice A2 t.b.digits.length c2)).st 11 (.int .i64 t.s.base)).st 12 (.slice A3 t.s.digits.length c3)).st 13 (.int .i64 t.carry)
      have HS := Lib.hid (box7at hKb.drew 1 rfl)
      go_region_held3 (fun W => W.cell? ⟨g8, 0, none⟩ = some (.int .i64 t.a.base) ∧ W.cell? ⟨g8, 1, none⟩ = some (.slice A1 t.a.digits.length c1) ∧ W.cell? ⟨g8, 2, none⟩ = some (.int .i64 t.b.base) ∧ W.cell? ⟨g8, 3, none⟩ = some (.slice A2 t.b.digits.length c2) ∧ W.cell? ⟨g8, 4, none⟩ = some (.int .i64 t.s.base) ∧ W.cell? ⟨g8, 5, none⟩ = some (.slice A3 t.s.digits.length c3) ∧ W.cell? ⟨g8, 6, none⟩ = some (.int .i64 t.carry))
        (first | with_reducible exact HG.out | with_reducible exact HA.out | with_reducible exact HS.out) (fail)
      all_goals
        clear HG HA HS b1 b2 b3 a1 a2 a3
        go_upto_region 9 with fail
        refine Code.wp.kn hKb.drew ?_; intro w5 hK5
        have hS0 := sesI_start hK5
        have hg0 : (SS.mk t t [] [] false).Good 1 := ⟨hvt, hvt, by simp, by simp⟩
        obtain ⟨RR, hRR⟩ : ∃ r, goS ⟨t, t, [], [], false⟩ 1 (tl.map strB) = r := ⟨_, rfl⟩
        rw [hRR] at HQ
        clear hKa hKb hK4 hK5
        go_wp2_with fail
        go_loopw [10, 11] (fun ii _ wr => ∃ (k : Nat) (s : SS), 1 ≤ k ∧ k ≤ n ∧ ii = .int .i64 k ∧ SesI [] w (w.heap.size + 1 + 1) s wr ∧ s.Good k ∧ goS s k (((L :: tl).map strB).drop k) = RR) (fun ii _ _ => n - (intOf ii).toNat)
        case atStart => exact ⟨1, _, Nat.le_refl _, hn0, rfl, hS0, hg0, hRR⟩
        case round =>
          clear hS0 hg0 hRR
          obtain ⟨k, s, k1, kn, rfl, hS, hg, hgo⟩ := hrel
          have hb := hS.below
          by_cases hkn : k < n
          · obtain ⟨ad', hA, hlt', hkl, hx⟩ := (HR.out wr hb).at_ hkn
            have hx0 : wr.cell? (ad'.add k) = some (.string (L :: tl)[k]) := by have h : wr.cell? (ad'.add (k * 1)) = some (.string (L :: tl)[k]) := hx; rw [Nat.mul_one] at h; exact h
            have hLk := HZ.out _ (List.getElem_mem hkl)
            have hdr : ((L :: tl).map strB).drop k = strB (L :: tl)[k] :: ((L :: tl).map strB).drop (k + 1) := by
              rw [List.drop_eq_getElem_cons (by rw [List.length_map]; exact hkl), List.getElem_map]
            obtain ⟨Lk, hLe⟩ : ∃ x, (L :: tl)[k] = x := ⟨_, rfl⟩
            rw [hLe] at hx0 hLk hdr
            rw [hdr, goS_cons] at hgo
            injection hA with hA
            subst hA
            have hgn := lineS_good (i := k) (bs := strB Lk) hg
            have KL := (lineI_any s k Lk wr hS hg (by omega) hLk HT.out)
            obtain ⟨⟨s', cd⟩, hls⟩ : ∃ r, lineS s k (strB Lk) = r := ⟨_, rfl⟩
            rw [hls] at KL hgo hgn
            have KL := Lib.hid KL
            have HGO := Lib.hid hgo
            have HGN := Lib.hid hgn
            have hi0 : (0 : Int) ≤ (k : Int) := by omega
            have hi1 : (k : Int) < (n : Int) := by omega
            clear hls hgo hgn hS hg hx hLe hdr
            rcases hcd : (cd == 0) with _ | _
            · go_wp2_with fail
              refine KL.out.mono ?_; rintro e w6 ⟨rfl, hS6⟩
              go_wp2_with fail
              go_ret3
              have h1 := HGO.out
              rw [if_pos (by simpa using hcd)] at h1
              rw [HQ.out, ← h1]
              exact ⟨_, rfl, hS6⟩
            · obtain rfl : cd = 0 := by simpa using hcd
              go_wp2_with fail
              refine KL.out.mono ?_; rintro e w6 ⟨rfl, hS6⟩
              go_wp2_with fail
              go_roundw
              case rel =>
                have h1 := HGO.out
                rw [if_neg (by simp)] at h1
                exact ⟨k + 1, s', by omega, by omega, by go_num, hS6, HGN.out, h1⟩
              case measure => simp [intOf]; omega
          · obtain rfl : k = n := by omega
            have hi1 : ¬ (k : Int) < (k : Int) := by omega
            rw [List.drop_eq_nil_of_le (by rw [List.length_map]; have := HL.out; omega), goS_nil] at hgo
            have he := hS.endedAt
            have HGO := Lib.hid hgo
            have HS := Lib.hid hS
            clear hgo hS
            rcases hen : s.ended with _ | _
            · rw [hen] at he
              go_wp2_with fail
              go_ret3
              have h1 := HGO.out
              rw [hen, if_neg (by decide)] at h1
              rw [HQ.out, ← h1]
              exact ⟨_, rfl, HS.out⟩
            · rw [hen] at he
              go_wp2_with fail
              go_ret3
              have h1 := HGO.out
              rw [hen, if_pos rfl] at h1
              rw [HQ.out, ← h1]
              exact ⟨_, rfl, HS.out⟩
end Go.Proofs.YtgpmngcemnnpmaaDoor

namespace Go.Proofs.YtgpmngcemnnpmaaDoor
open Go.RowKit Go.Sort
theorem box7p {w0 w : World} {m : List Ent} {g : Nat} {v0 v1 p0 p1 p2 p3 p4 p5 p6 : Value} {l : List Value} {T : TypeId} (h : Kn w0 (.blk g (p0 :: p1 :: p2 :: p3 :: p4 :: p5 :: p6 :: v0 :: v1 :: l) T :: m) w) : w.cell? ⟨g, 7, none⟩ = some v0 ∧ w.cell? ⟨g, 8, none⟩ = some v1 := ⟨h.blkAt.1 7, h.blkAt.1 8⟩
theorem l10PlacesK7 {w0 : World} {m : List Ent} {rest : List Value} {p0 p1 p2 p3 p4 p5 p6 : Value} {T : TypeId} {g : Nat} (t : Tri) (A1 A2 A3 : Option Addr) (c1 c2 c3 : Nat) (w : World) (hK : Kn w0 (.blk g (p0 :: p1 :: p2 :: p3 :: p4 :: p5 :: p6 :: .int .i64 t.a.base :: .slice A1 t.a.digits.length c1 :: .int .i64 t.b.base :: .slice A2 t.b.digits.length c2 :: .int .i64 t.s.base :: .slice A3 t.s.digits.length c3 :: .int .i64 t.carry :: rest) T :: m) w) (h1 : t.a.digits.length ≤ 16) (h2 : t.b.digits.length ≤ 16) (_h3 : t.s.digits.length ≤ 16) :
    Calls Tryd.prog 158 #[.pointer (some ⟨g, 7, none⟩)] w fun e w' => e = .returned (.int .i64 (vplaces t)) ∧ ∃ q, w' = w.drewN q := by
  obtain ⟨a1, a2, a3⟩ := hK.blkAt
  clear hK
  go_enter Tryd.func158, Tryd.ntmps158
  go_wp2_with fail
  go_quiet ((go_at_call 109; exact quiet_left (l00Min_any _ _ _)))
  go_wp2
  go_ret
  exact ⟨ret_int (by unfold vplaces; omega), _, rfl⟩
set_option maxHeartbeats 1600000 in
theorem l10ShiftK7 {w0 : World} {m : List Ent} {rest : List Value} {p0 p1 p2 p3 p4 p5 p6 : Value} {T : TypeId} {g : Nat} (t : Tri) (A1 A2 A3 : Option Addr) (c1 c2 c3 : Nat) (by_ : Int) (w : World) (hK : Kn w0 (.blk g (p0 :: p1 :: p2 :: p3 :: p4 :: p5 :: p6 :: .int .i64 t.a.base :: .slice A1 t.a.digits.length c1 :: .int .i64 t.b.base :: .slice A2 t.b.digits.length c2 :: .int .i64 t.s.base :: .slice A3 t.s.digits.length c3 :: .int .i64 t.carry :: rest) T :: m) w) (hv : vmach t = true) (hb : by_ = 1 ∨ by_ = -1) :
    Calls Tryd.prog 160 #[.pointer (some ⟨g, 7, none⟩), .int .i64 by_] w fun e w' => 
      (betB (t.carry + by_) 0 (vplaces t - 1) = true → e = .returned (.bool false) ∧ Kn w0 (.blk g (p0 :: p1 :: p2 :: p3 :: p4 :: p5 :: p6 :: .int .i64 t.a.base :: .slice A1 t.a.digits.length c1 :: .int .i64 t.b.base :: .slice A2 t.b.digits.length c2 :: .int .i64 t.s.base :: .slice A3 t.s.digits.length c3 :: .int .i64 (t.carry + by_) :: rest) T :: m) w') ∧ (betB (t.carry + by_) 0 (vplaces t - 1) = false → e = .returned (.bool true) ∧ Kn w0 (.blk g (p0 :: p1 :: p2 :: p3 :: p4 :: p5 :: p6 :: .int .i64 t.a.base :: .slice A1 t.a.digits.length c1 :: .int .i64 t.b.base :: .slice A2 t.b.digits.length c2 :: .int .i64 t.s.base :: .slice A3 t.s.digits.length c3 :: .int .i64 t.carry :: rest) T :: m) w') := by
  obtain ⟨k1, k2, k3, e1, e2, f1, f2, l1, y0, y1⟩ := vmach_all hv
  obtain ⟨-, ⟨n1, n2⟩, -, -⟩ := vreg_iff.1 k1
  obtain ⟨-, ⟨n3, n4⟩, -, -⟩ := vreg_iff.1 k2
  obtain ⟨-, ⟨n5, n6⟩, -, -⟩ := vreg_iff.1 k3
  have hp1 : -16 ≤ vplaces t ∧ vplaces t ≤ 16 := by unfold vplaces; omega
  have KP := Lib.hid (fun W (h : Kn w0 (.blk g (p0 :: p1 :: p2 :: p3 :: p4 :: p5 :: p6 :: .int .i64 t.a.base :: .slice A1 t.a.digits.length c1 :: .int .i64 t.b.base :: .slice A2 t.b.digits.length c2 :: .int .i64 t.s.base :: .slice A3 t.s.digits.length c3 :: .int .i64 t.carry :: rest) T :: m) W) => l10PlacesK7 t A1 A2 A3 c1 c2 c3 W h n2 n4 n6)
  have hw := wrapI64 (n := t.carry + by_) (by omega)
  have hw2 := wrapI64 (n := vplaces t - 1) (by omega)
  obtain ⟨P, hP⟩ : ∃ P, vplaces t = P := ⟨_, rfl⟩
  rw [hP] at KP hw2 hp1 y1 ⊢
  obtain ⟨a1, a2, a3⟩ := hK.blkAt
  clear k1 k2 k3 f1 f2 l1 n1 n2 n3 n4 n5 n6 hP e1 e2 hv
  rcases hbt : betB (t.carry + by_) 0 (P - 1) with _ | _
  · have KI := Lib.hid (fun W => calls_val (l00In_any (t.carry + by_) 0 (P - 1) W) (congrArg Value.bool hbt))
    clear hbt
    go_enter Tryd.func160, Tryd.ntmps160
    go_wp2_with fail
    go_quiet ((first | (go_at_call 158; first | exact quiet_of_ex (KP.out _ (hK.drewN _)) | exact quiet_add_ex (KP.out _ (hK.drewN _))) | (go_at_call 77; first | exact quiet_left (KI.out _) | exact quiet_add_left (KI.out _))))
    go_wp2_with fail
    go_ret
    exact ⟨(fun h => by cases h), fun _ => ⟨rfl, hK.drewN _⟩⟩
  · have KI := Lib.hid (fun W => calls_val (l00In_any (t.carry + by_) 0 (P - 1) W) (congrArg Value.bool hbt))
    clear hbt
    go_enter Tryd.func160, Tryd.ntmps160
    go_wp2_with fail
    go_quiet ((first | (go_at_call 158; first | exact quiet_of_ex (KP.out _ (hK.drewN _)) | exact quiet_add_ex (KP.out _ (hK.drewN _))) | (go_at_call 77; first | exact quiet_left (KI.out _) | exact quiet_add_left (KI.out _))))
    go_wp2_with fail
    go_ret
    exact ⟨fun _ => ⟨rfl, (hK.drewN _).st 13 _⟩, (fun h => by cases h)⟩
/-- the machine in block g, and its numbers -/
def MB7 (w0 : World) (g : Nat) (p0 p1 p2 p3 p4 p5 p6 : Value) (rest : List Value) (T : TypeId) (k : Tri) (m : List Ent) (w : World) : Prop := ∃ B1 d1 B2 d2 B3 d3, Kn w0 (.blk g (p0 :: p1 :: p2 :: p3 :: p4 :: p5 :: p6 :: .int .i64 k.a.base :: .slice B1 k.a.digits.length d1 :: .int .i64 k.b.base :: .slice B2 k.b.digits.length d2 :: .int .i64 k.s.base :: .slice B3 k.s.digits.length d3 :: .int .i64 k.carry :: rest) T :: rowI B3 d3 k.s.digits :: rowI B2 d2 k.b.digits :: rowI B1 d1 k.a.digits :: m) w
set_option maxRecDepth 100000 in
set_option maxHeartbeats 1600000 in
theorem l10TurnK7 {w0 : World} {m : List Ent} {rest : List Value} {p0 p1 p2 p3 p4 p5 p6 : Value} {T : TypeId} {g : Nat} (t : Tri) (sign : Int) (w : World) (hM : MB7 w0 g p0 p1 p2 p3 p4 p5 p6 rest T t m w) (hv : vmach t = true) (hs : sign = 1 ∨ sign = -1) :
    Calls Tryd.prog 159 #[.pointer (some ⟨g, 7, none⟩), .int .i64 sign] w fun e w' => e = .returned (.bool (turnT t sign).2) ∧ MB7 w0 g p0 p1 p2 p3 p4 p5 p6 rest T (turnT t sign).1 m w' := by
  obtain ⟨A1, c1, A2, c2, A3, c3, hK⟩ := hM
  obtain ⟨k1, k2, k3, e1, e2, f1, f2, l1, y0, y1⟩ := vmach_all hv
  obtain ⟨u1, u2, u3, u4⟩ := turn_bd hv
  obtain ⟨⟨b1, b2⟩, ⟨n1, n2⟩, hd1, -⟩ := vreg_iff.1 k1
  obtain ⟨⟨b3, b4⟩, ⟨n3, n4⟩, hd2, -⟩ := vreg_iff.1 k2
  obtain ⟨⟨b5, b6⟩, ⟨n5, n6⟩, hd3, -⟩ := vreg_iff.1 k3
  have HT := Lib.hid (show turnT t sign = (⟨t.a, ⟨t.b.base, shiftD t.b.base t.b.digits (sign * (valL t.a.base t.a.digits * pw t.b.base t.carry.toNat))⟩, ⟨t.s.base, shiftD t.s.base t.s.digits (sign * pw t.b.base t.carry.toNat)⟩, t.carry⟩, shiftB t.b.base t.b.digits (sign * (valL t.a.base t.a.digits * pw t.b.base t.carry.toNat))) from rfl)
  have KP := (fun W => l10Power_any t.a.base t.carry.toNat W b1 b2 (by unfold vplaces at y1; omega))
  have hpc : powS t.a.base t.carry.toNat = pw t.b.base t.carry.toNat := by rw [e1]; unfold powS; omega
  rw [hpc, show ((t.carry.toNat : Nat) : Int) = t.carry by omega] at KP
  have KV := (fun W (hW : Kn w0 (.blk g (p0 :: p1 :: p2 :: p3 :: p4 :: p5 :: p6 :: .int .i64 t.a.base :: .slice A1 t.a.digits.length c1 :: .int .i64 t.b.base :: .slice A2 t.b.digits.length c2 :: .int .i64 t.s.base :: .slice A3 t.s.digits.length c3 :: .int .i64 t.carry :: rest) T :: rowI A3 c3 t.s.digits :: rowI A2 c2 t.b.digits :: rowI A1 c1 t.a.digits :: m) W) => l02Value_any t.a.base A1 t.a.digits.length c1 t.a.digits W b1 b2 hd1 hW.drop.drop.drop.riv n2)
  obtain ⟨U, hU⟩ : ∃ U, pw t.b.base t.carry.toNat = U := ⟨_, rfl⟩
  obtain ⟨V, hV⟩ : ∃ V, valL t.a.base t.a.digits = V := ⟨_, rfl⟩
  rw [hU] at KP HT u1 u2 u3 u4
  rw [hV] at KV HT u3 u4
  obtain ⟨X, hX⟩ : ∃ X, sign * (V * U) = X := ⟨_, rfl⟩
  obtain ⟨Y, hY⟩ : ∃ Y, sign * U = Y := ⟨_, rfl⟩
  rw [hX, hY] at HT
  have hXb : -1000000000001 ≤ X ∧ X ≤ 1000000000001 := by rcases hs with rfl | rfl <;> omega
  have hYb : -1000000000001 ≤ Y ∧ Y ≤ 1000000000001 := by rcases hs with rfl | rfl <;> omega
  have hYX : Y * V = X := by rw [← hX, ← hY, Int.mul_assoc, Int.mul_comm U V]
  have w1' : IntKind.i64.wrap (sign * U) = Y := by rw [hY]; exact wrapI64 (by omega)
  have w2' : IntKind.i64.wrap (Y * V) = X := by rw [hYX]; exact wrapI64 (by omega)
  have KM2 := (fun W (hW : Kn w0 (.blk g (p0 :: p1 :: p2 :: p3 :: p4 :: p5 :: p6 :: .int .i64 t.a.base :: .slice A1 t.a.digits.length c1 :: .int .i64 t.b.base :: .slice A2 t.b.digits.length c2 :: .int .i64 t.s.base :: .slice A3 t.s.digits.length c3 :: .int .i64 t.carry :: rest) T :: rowI A3 c3 t.s.digits :: rowI A2 c2 t.b.digits :: rowI A1 c1 t.a.digits :: m) W) => l10Move_any ⟨g, 9, none⟩ t.b.base A2 c2 t.b.digits X W ⟨hW.blkAt.1 9, hW.blkAt.1 10⟩ hW.drop.drop.riv k2 f1 hXb.1 hXb.2)
  have KM3 := (fun W (hW : Kn w0 (.blk g (p0 :: p1 :: p2 :: p3 :: p4 :: p5 :: p6 :: .int .i64 t.a.base :: .slice A1 t.a.digits.length c1 :: .int .i64 t.b.base :: .slice A2 t.b.digits.length c2 :: .int .i64 t.s.base :: .slice A3 t.s.digits.length c3 :: .int .i64 t.carry :: rest) T :: rowI A3 c3 t.s.digits :: rowI A2 c2 t.b.digits :: rowI A1 c1 t.a.digits :: m) W) => l10Move_any ⟨g, 11, none⟩ t.s.base A3 c3 t.s.digits Y W ⟨hW.blkAt.1 11, hW.blkAt.1 12⟩ hW.drop.riv k3 f2 hYb.1 hYb.2)
  obtain ⟨es, hes⟩ : ∃ es, shiftD t.b.base t.b.digits X = es := ⟨_, rfl⟩
  obtain ⟨fs, hfs⟩ : ∃ fs, shiftD t.s.base t.s.digits Y = fs := ⟨_, rfl⟩
  obtain ⟨bell, hbl⟩ : ∃ e, shiftB t.b.base t.b.digits X = e := ⟨_, rfl⟩
  obtain ⟨bell2, hbl2⟩ : ∃ e, shiftB t.s.base t.s.digits Y = e := ⟨_, rfl⟩
  rw [hes, hbl] at KM2
  rw [hfs, hbl2] at KM3
  rw [hes, hfs, hbl] at HT
  rw [HT.out]
  have KP := Lib.hid KP
  have KV := Lib.hid KV
  have KM2 := Lib.hid KM2
  have KM3 := Lib.hid KM3
  have HW1 := Lib.hid w1'
  have HW2 := Lib.hid w2'
  have HY := Lib.hid hY
  have hYo : -9223372036854775808 ≤ sign * U ∧ sign * U ≤ 9223372036854775807 := by rw [hY]; omega
  have hXo : -9223372036854775808 ≤ sign * U * V ∧ sign * U * V ≤ 9223372036854775807 := by rw [hY, hYX]; omega
  clear hpc hU hV hX hY hYX w1' w2' hes hfs hbl hbl2 hd1 hd2 hd3 hv k1 k2 k3 e1 e2 hs
  obtain ⟨a1, a2, a3⟩ := hK.blkAt
  go_enter Tryd.func159, Tryd.ntmps159
  go_wp2_with fail
  go_quiet ((go_at_call 84; exact quiet_left (KP.out _)))
  have hK1 := hK.drewN nq
  generalize w.drewN nq = w1 at hK1 ⊢
  clear hK a1 a2 a3
  obtain ⟨a1, a2, a3⟩ := hK1.blkAt
  go_wp2_with fail
  have HG := Lib.hid (box7p hK1.drew)
  have HA := Lib.hid (box7p (hK1.al [.int .i64 0, .slice none 0 0] 41).drew.drop)
  have HS := HG
  go_cut [6, 7] (fun pp oo wx => ∃ (g6 : Nat) (A' : Option Addr) (c' : Nat), pp = .pointer (some ⟨g6, 0, none⟩) ∧ oo = .bool bell ∧ Kn w0 (.blk g6 [.int .i64 t.b.base, .slice A' es.length c'] 41 :: rowI A' c' es :: .blk g (p0 :: p1 :: p2 :: p3 :: p4 :: p5 :: p6 :: .int .i64 t.a.base :: .slice A1 t.a.digits.length c1 :: .int .i64 t.b.base :: .slice A2 t.b.digits.length c2 :: .int .i64 t.s.base :: .slice A3 t.s.digits.length c3 :: .int .i64 t.carry :: rest) T :: rowI A3 c3 t.s.digits :: rowI A2 c2 t.b.digits :: rowI A1 c1 t.a.digits :: m) wx)
  case first =>
    go_region_held3 (fun W => W.cell? ⟨g, 7, none⟩ = some (.int .i64 t.a.base) ∧ W.cell? ⟨g, 8, none⟩ = some (.slice A1 t.a.digits.length c1))
      (first | with_reducible exact HG.out | with_reducible exact HA.out | with_reducible exact HS.out | exact HG.out | exact HA.out | exact HS.out) (first
      | (go_at_call 124; first | ((with_reducible refine (KV.out _ hK1.drew).mono ?_); rintro e w7 ⟨rfl, rfl⟩) | ((with_reducible refine (KV.out _ (hK1.al [.int .i64 0, .slice none 0 0] 41).drew.drop).mono ?_); rintro e w7 ⟨rfl, rfl⟩))
      | (go_at_call 175; rw [HW1.out, HW2.out]; clear HG HA; first
        | ((with_reducible refine (KM2.out _ hK1.drew).mono ?_); rintro e w4 ⟨A', c', rfl, hK⟩; have hK4 := hK1.drew.join hK; have HG := Lib.hid (box7p hK4.drop); have HA := Lib.hid (box7p (hK4.al [.int .i64 0, .slice none 0 0] 41).drop.drop); have hK5 := hK4.al [.int .i64 t.b.base, .slice A' es.length c'] 41; have HS := Lib.hid (box7p hK5.drop.drop))
        | ((refine (KM2.out _ (hK1.al [.int .i64 0, .slice none 0 0] 41).drew.drop).mono ?_); rintro e w4 ⟨A', c', rfl, hK⟩; have hK4 := (hK1.al [.int .i64 0, .slice none 0 0] 41).drew.join hK; have HG := Lib.hid (box7p hK4.drop.drop); obtain ⟨g1, f1, l1⟩ := hK4.drop.blkAt; have HA := HG; have hK5 := (hK4.sw1.st 0 (.int .i64 t.b.base)).st 1 (.slice A' es.length c'); have HS := Lib.hid (box7p hK5.drop.drop))))
    all_goals
      go_wp2_with fail
      go_meet
      exact ⟨_, _, _, rfl, rfl, hK5⟩
  case rest =>
    obtain ⟨g6, A', c', rfl, rfl, hK5⟩ := hcut
    clear HG HA HS KP KV KM2 hK1 a1 a2 a3
    obtain ⟨x1, x2, x3, a1, a2, a3, -⟩ := hK5.cells
    go_wp2_with fail
    rw [HY.out]
    refine (KM3.out _ hK5.drop.drop).mono ?_; rintro e w4 ⟨A2', c2', rfl, hK⟩
    have hK6 := hK5.join hK
    clear x1 x2 x3 a1 a2 a3
    obtain ⟨x1, x2, x3, a1, a2, a3, -⟩ := hK6.cells
    have hK7 := ((((hK6.sw3.st 9 (.int .i64 t.b.base)).st 10 (.slice A' es.length c')).st 11 (.int .i64 t.s.base)).st 12 (.slice A2' fs.length c2')).al [.int .i64 t.s.base, .slice A2' fs.length c2'] 41
    go_wp2_with fail
    go_ret
    refine ⟨rfl, A1, c1, A', c', A2', c2', ?_⟩
    refine Kn.only hK7 (by repeat (first | exact List.Sublist.refl _ | apply List.Sublist.cons_cons | apply List.Sublist.cons))
theorem MB7.congr {w0 w : World} {g : Nat} {rest : List Value} {p0 p1 p2 p3 p4 p5 p6 : Value} {T : TypeId} {k k' : Tri} {m : List Ent} (h : MB7 w0 g p0 p1 p2 p3 p4 p5 p6 rest T k m w) (e : k = k') : MB7 w0 g p0 p1 p2 p3 p4 p5 p6 rest T k' m w := e ▸ h
theorem l10ShiftM7 {w0 : World} {m : List Ent} {rest : List Value} {p0 p1 p2 p3 p4 p5 p6 : Value} {T : TypeId} {g : Nat} (t : Tri) (k by_ : Int) (w : World) (hM : MB7 w0 g p0 p1 p2 p3 p4 p5 p6 rest T t m w) (hv : vmach t = true) (hb : (k = 3 ∧ by_ = 1) ∨ (k = 4 ∧ by_ = -1)) :
    Calls Tryd.prog 160 #[.pointer (some ⟨g, 7, none⟩), .int .i64 by_] w fun e w' => e = .returned (.bool (strokeT k t).2) ∧ MB7 w0 g p0 p1 p2 p3 p4 p5 p6 rest T (strokeT k t).1 m w' := by
  obtain ⟨A1, c1, A2, c2, A3, c3, hK⟩ := hM
  obtain ⟨-, -, -, -, -, -, -, -, y0, y1⟩ := vmach_all hv
  refine (l10ShiftK7 t A1 A2 A3 c1 c2 c3 by_ w hK hv (by omega)).mono ?_
  rintro e w' ⟨h1, h2⟩
  rcases hbt : betB (t.carry + by_) 0 (vplaces t - 1) with _ | _
  · obtain ⟨rfl, hK'⟩ := h2 hbt
    have := betB_false.1 hbt
    have hs : strokeT k t = (t, true) := by
      rcases hb with ⟨rfl, rfl⟩ | ⟨rfl, rfl⟩
      · unfold strokeT; rw [if_neg (by decide), if_neg (by decide), if_pos rfl, if_pos (by omega)]
      · unfold strokeT; rw [if_neg (by decide), if_neg (by decide), if_neg (by decide), if_pos rfl, if_pos (by omega)]
    rw [hs]
    exact ⟨rfl, A1, c1, A2, c2, A3, c3, hK'⟩
  · obtain ⟨rfl, hK'⟩ := h1 hbt
    have := betB_iff.1 hbt
    have hs : strokeT k t = ({ t with carry := t.carry + by_ }, false) := by
      rcases hb with ⟨rfl, rfl⟩ | ⟨rfl, rfl⟩
      · unfold strokeT; rw [if_neg (by decide), if_neg (by decide), if_pos rfl, if_neg (by omega)]
      · unfold strokeT; rw [if_neg (by decide), if_neg (by decide), if_neg (by decide), if_pos rfl, if_neg (by omega)]; rfl
    rw [hs]
    exact ⟨rfl, A1, c1, A2, c2, A3, c3, hK'⟩
set_option maxRecDepth 100000 in
set_option maxHeartbeats 1600000 in
theorem l10DoK7 {w0 : World} {m : List Ent} {rest : List Value} {p0 p1 p2 p3 p4 p5 p6 : Value} {T : TypeId} {g : Nat} (t : Tri) (k : Int) (w : World) (hM : MB7 w0 g p0 p1 p2 p3 p4 p5 p6 rest T t m w) (hv : vmach t = true) (hk : 1 ≤ k ∧ k ≤ 6) :
    Calls Tryd.prog 138 #[.pointer (some ⟨g, 7, none⟩), .int .i64 k] w fun e w' => e = .returned (.bool (strokeT k t).2) ∧ MB7 w0 g p0 p1 p2 p3 p4 p5 p6 rest T (strokeT k t).1 m w' := by
  have hk' : k = 1 ∨ k = 2 ∨ k = 3 ∨ k = 4 ∨ k = 5 ∨ k = 6 := by omega
  clear hk
  rcases hk' with rfl | rfl | rfl | rfl | rfl | rfl
  · have KT := Lib.hid (l10TurnK7 t 1 w hM hv (.inl rfl))
    obtain ⟨r, hr⟩ : ∃ r, strokeT 1 t = r := ⟨_, rfl⟩
    have HR := Lib.hid (show turnT t 1 = r by rw [← hr]; rfl)
    rw [hr]
    clear hr hM hv
    go_enter Tryd.func138, Tryd.ntmps138
    go_wp2_with (go_at_call 159; refine KT.out.mono ?_; rw [HR.out]; rintro e w' ⟨rfl, hM⟩)
    go_ret
    exact ⟨rfl, hM⟩
  · have KT := Lib.hid (l10TurnK7 t (-1) w hM hv (.inr rfl))
    obtain ⟨r, hr⟩ : ∃ r, strokeT 2 t = r := ⟨_, rfl⟩
    have HR := Lib.hid (show turnT t (-1) = r by rw [← hr]; rfl)
    rw [hr]
    clear hr hM hv
    go_enter Tryd.func138, Tryd.ntmps138
    go_wp2_with (go_at_call 159; refine KT.out.mono ?_; rw [HR.out]; rintro e w' ⟨rfl, hM⟩)
    go_ret
    exact ⟨rfl, hM⟩
  · have KT := (l10ShiftM7 t 3 1 w hM hv (.inl ⟨rfl, rfl⟩))
    obtain ⟨r, hr⟩ : ∃ r, strokeT 3 t = r := ⟨_, rfl⟩
    rw [hr] at KT ⊢
    have KT := Lib.hid KT
    clear hr hM hv
    go_enter Tryd.func138, Tryd.ntmps138
    go_wp2_with (go_at_call 160; refine KT.out.mono ?_; rintro e w' ⟨rfl, hM⟩)
    go_ret
    exact ⟨rfl, hM⟩
  · have KT := (l10ShiftM7 t 4 (-1) w hM hv (.inr ⟨rfl, rfl⟩))
    obtain ⟨r, hr⟩ : ∃ r, strokeT 4 t = r := ⟨_, rfl⟩
    rw [hr] at KT ⊢
    have KT := Lib.hid KT
    clear hr hM hv
    go_enter Tryd.func138, Tryd.ntmps138
    go_wp2_with (go_at_call 160; refine KT.out.mono ?_; rintro e w' ⟨rfl, hM⟩)
    go_ret
    exact ⟨rfl, hM⟩
  · obtain ⟨k1, k2, k3, -⟩ := vmach_all hv
    obtain ⟨-, ⟨n3, n4⟩, -, -⟩ := vreg_iff.1 k2
    obtain ⟨-, ⟨n5, n6⟩, -, -⟩ := vreg_iff.1 k3
    have hS : strokeT 5 t = (⟨t.a, ⟨t.b.base, List.replicate t.b.digits.length 0⟩, ⟨t.s.base, List.replicate t.s.digits.length 0⟩, t.carry⟩, false) := by unfold strokeT; simp [digD_zero]
    rw [hS]
    obtain ⟨A1, c1, A2, c2, A3, c3, hK⟩ := hM
    clear hS hv k1 k2 k3
    obtain ⟨a1, a2, a3⟩ := hK.blkAt
    go_enter Tryd.func138, Tryd.ntmps138
    go_wp2_with fail
    refine (l10ZeroK (cs := (p0 :: p1 :: p2 :: p3 :: p4 :: p5 :: p6 :: .int .i64 t.a.base :: .slice A1 t.a.digits.length c1 :: .int .i64 t.b.base :: .slice A2 t.b.digits.length c2 :: .int .i64 t.s.base :: .slice A3 t.s.digits.length c3 :: .int .i64 t.carry :: rest)) (o := 9) A2 c2 t.b.digits w hK.sw2 rfl (by omega) (by omega)).mono ?_; rintro e w1 ⟨rfl, hK1⟩
    go_wp2_with fail
    refine (l10ZeroK (cs := (p0 :: p1 :: p2 :: p3 :: p4 :: p5 :: p6 :: .int .i64 t.a.base :: .slice A1 t.a.digits.length c1 :: .int .i64 t.b.base :: .slice A2 t.b.digits.length c2 :: .int .i64 t.s.base :: .slice A3 t.s.digits.length c3 :: .int .i64 t.carry :: rest)) (o := 11) A3 c3 t.s.digits w1 (hK1.sw1.sw2) rfl (by omega) (by omega)).mono ?_; rintro e w2 ⟨rfl, hK2⟩
    go_wp2_with fail
    go_ret
    refine ⟨rfl, A1, c1, A2, c2, A3, c3, ?_⟩
    simp only [List.length_replicate]
    exact hK2.sw1
  · obtain ⟨k1, k2, k3, -⟩ := vmach_all hv
    obtain ⟨-, ⟨n1, n2⟩, -, -⟩ := vreg_iff.1 k1
    have hS : strokeT 6 t = ({ t with a := ⟨t.a.base, List.replicate t.a.digits.length 0⟩ }, false) := by unfold strokeT; simp [digD_zero]
    rw [hS]
    obtain ⟨A1, c1, A2, c2, A3, c3, hK⟩ := hM
    clear hS hv k1 k2 k3
    go_enter Tryd.func138, Tryd.ntmps138
    go_wp2_with fail
    refine (l10ZeroK (cs := (p0 :: p1 :: p2 :: p3 :: p4 :: p5 :: p6 :: .int .i64 t.a.base :: .slice A1 t.a.digits.length c1 :: .int .i64 t.b.base :: .slice A2 t.b.digits.length c2 :: .int .i64 t.s.base :: .slice A3 t.s.digits.length c3 :: .int .i64 t.carry :: rest)) (o := 7) A1 c1 t.a.digits w hK.sw3 rfl (by omega) (by omega)).mono ?_; rintro e w1 ⟨rfl, hK1⟩
    go_wp2_with fail
    go_ret
    refine ⟨rfl, A1, c1, A2, c2, A3, c3, ?_⟩
    simp only [List.length_replicate]
    exact hK1.sw3.sw3.sw3
end Go.Proofs.YtgpmngcemnnpmaaDoor

namespace Go.Proofs.YtgpmngcemnnpmaaDoor
open Go.RowKit Go.Sort
set_option maxRecDepth 100000 in
set_option maxHeartbeats 800000 in
theorem specReadMachine_any (s : ByteArray) (w : World) (hs : s.size ≤ 1048576) :
    Calls Tryd.prog 114 #[.string s] w fun e w' => ∃ A1 c1 A2 c2 A3 c3, e = .returned (.tuple #[.agg #[.int .i64 (rdMach (strB s)).a.base, .slice A1 (rdMach (strB s)).a.digits.length c1, .int .i64 (rdMach (strB s)).b.base, .slice A2 (rdMach (strB s)).b.digits.length c2, .int .i64 (rdMach (strB s)).s.base, .slice A3 (rdMach (strB s)).s.digits.length c3, .int .i64 (rdMach (strB s)).carry], .bool (rdM (strB s)).isSome]) ∧
      Kn w [rowI A3 c3 (rdMach (strB s)).s.digits, rowI A2 c2 (rdMach (strB s)).b.digits, rowI A1 c1 (rdMach (strB s)).a.digits] w' := by
  have HRD := Lib.hid (rdM_spec (strB s))
  have KS := fun W => l01Split_any s 32 W hs
  have e32 : (32 : UInt8).toNat = 32 := rfl
  rw [e32] at KS
  have KS := Lib.hid KS
  have hjoin : ∀ x ∈ splitB 32 (strB s), x.length ≤ 1048576 := by
    intro x hx
    have := splitB_each 32 (strB s) x hx; rw [strB_len] at this; omega
  clear e32
  go_enter Tryd.func114, Tryd.ntmps114
  go_wp2_with fail
  refine Calls.kn ((Kn.nil w).al [.int .i64 0, .slice none 0 0, .int .i64 0, .slice none 0 0, .int .i64 0, .slice none 0 0, .int .i64 0] 95) ?_; intro w1 hK1
  refine (KS.out w1).mono ?_; rintro e w2 ⟨A, c, ss, rfl, hss, hK⟩
  have hK2 := hK1.join hK
  have HSS := Lib.hid hss
  have HJ := Lib.hid hjoin
  clear hK hK1 hss hjoin
  obtain ⟨d1, d2, d3, -⟩ := hK2.cells
  have HNO : Hid (ss.length ≠ 4 → rdM (strB s) = none) := by
    intro h
    rw [HRD.out, ← HSS.out]
    match ss, h with
    | [], _ => rfl
    | [_], _ => rfl
    | [_, _], _ => rfl
    | [_, _, _], _ => rfl
    | [_, _, _, _], h => exact absurd rfl h
    | _ :: _ :: _ :: _ :: _ :: _, _ => rfl
  by_cases hl4 : ss.length = 4
  · have HYES : Hid (∃ x0 x1 x2 x3, ss = [x0, x1, x2, x3]) := by
      match ss, hl4 with
      | [x0, x1, x2, x3], _ => exact ⟨x0, x1, x2, x3, rfl⟩
    obtain ⟨x0, x1, x2, x3, rfl⟩ := HYES.out
    obtain ⟨-, g, rfl, -, hg0, hg1⟩ := hK2.rowS_at (k := 0) (by simp)
    have b0 : x0.size ≤ 1048576 := by rw [← strB_len]; exact HJ.out _ (by rw [← HSS.out]; simp)
    have b1 : x1.size ≤ 1048576 := by rw [← strB_len]; exact HJ.out _ (by rw [← HSS.out]; simp)
    have b2 : x2.size ≤ 1048576 := by rw [← strB_len]; exact HJ.out _ (by rw [← HSS.out]; simp)
    have b3 : x3.size ≤ 1048576 := by rw [← strB_len]; exact HJ.out _ (by rw [← HSS.out]; simp)
    obtain ⟨t, ht⟩ : ∃ t : Tri, (⟨rdReg (strB x0), rdReg (strB x1), rdReg (strB x2), rdN (strB x3)⟩ : Tri) = t := ⟨_, rfl⟩
    have hta : rdReg (strB x0) = t.a := by rw [← ht]
    have htb : rdReg (strB x1) = t.b := by rw [← ht]
    have hts : rdReg (strB x2) = t.s := by rw [← ht]
    have htc : rdN (strB x3) = t.carry := by rw [← ht]
    have n1 := rdReg_len (strB x0); rw [hta] at n1
    have n2 := rdReg_len (strB x1); rw [htb] at n2
    have n3 := rdReg_len (strB x2); rw [hts] at n3
    obtain ⟨ok1, hok1⟩ : ∃ b, (rdR (strB x0)).isSome = b := ⟨_, rfl⟩
    obtain ⟨ok2, hok2⟩ : ∃ b, (rdR (strB x1)).isSome = b := ⟨_, rfl⟩
    obtain ⟨ok3, hok3⟩ : ∃ b, (rdR (strB x2)).isSome = b := ⟨_, rfl⟩
    obtain ⟨ok4, hok4⟩ : ∃ b, (rdDec (strB x3)).isSome = b := ⟨_, rfl⟩
    have HRR : Hid (rdM (strB s) = if (ok1 && ok2 && ok3 && ok4) && vmach t then some t else none) := by
      simp only [Hid]
      rw [HRD.out, ← HSS.out]
      simp only [List.map_cons, List.map_nil]
      rw [hok1, hok2, hok3, hok4, ht]
    have K1 := Lib.hid (fun W => readS x0 b0 t.a hta ok1 hok1 W)
    have K2 := Lib.hid (fun W => readS x1 b1 t.b htb ok2 hok2 W)
    have K3 := Lib.hid (fun W => readS x2 b2 t.s hts ok3 hok3 W)
    have K4 := (fun W => l01Number_any x3 W (by omega))
    rw [htc, hok4] at K4
    have K4 := Lib.hid K4
    clear hl4 ht hta htb hts htc hok1 hok2 hok3 hok4
    have s0 := hK2.rowS_get (k := 0) (by simp)
    have s1 := hK2.rowS_get (k := 1) (by simp)
    have s2 := hK2.rowS_get (k := 2) (by simp)
    have s3 := hK2.rowS_get (k := 3) (by simp)
    simp only [List.getElem_cons_zero, List.getElem_cons_succ] at s0 s1 s2 s3
    clear s1 s2 s3
    go_wp2_with fail
    refine (K1.out _).mono ?_; rintro e w3 ⟨A1, c1, rfl, hK⟩
    have hK3 := hK2.join hK
    clear hK s0 d1 d2 d3
    have hK4 := (hK3.al [.int .i64 t.a.base, .slice A1 t.a.digits.length c1] 41)
    have hS := hK3.drop
    have s0 := hS.rowS_get (k := 0) (by simp)
    have s1 := hS.rowS_get (k := 1) (by simp)
    have s2 := hS.rowS_get (k := 2) (by simp)
    have s3 := hS.rowS_get (k := 3) (by simp)
    simp only [List.getElem_cons_zero, List.getElem_cons_succ] at s0 s1 s2 s3
    have hg3 : g < w3.heap.size := (World.ownsRow.lt hS.at0 g rfl).2
    clear s0 s2 s3
    go_wp2_with fail
    refine Calls.kn hK4 ?_; intro w4 hK5
    clear s1 hK4
    refine (K2.out _).mono ?_; rintro e w5 ⟨A2, c2, rfl, hK⟩
    have hK6 := hK5.join hK
    clear hK hS
    have hK7 := (hK6.al [.int .i64 t.b.base, .slice A2 t.b.digits.length c2] 41)
    have hS := hK6.drop.drop.drop
    have s0 := hS.rowS_get (k := 0) (by simp)
    have s1 := hS.rowS_get (k := 1) (by simp)
    have s2 := hS.rowS_get (k := 2) (by simp)
    have s3 := hS.rowS_get (k := 3) (by simp)
    simp only [List.getElem_cons_zero, List.getElem_cons_succ] at s0 s1 s2 s3
    have hg5 : g < w5.heap.size := (World.ownsRow.lt hS.at0 g rfl).2
    clear s0 s1 s3
    go_wp2_with fail
    refine Calls.kn hK7 ?_; intro w6 hK8
    clear s2 hK7
    refine (K3.out _).mono ?_; rintro e w7 ⟨A3, c3, rfl, hK⟩
    have hK9 := hK8.join hK
    clear hK hS
    have hK10 := (hK9.al [.int .i64 t.s.base, .slice A3 t.s.digits.length c3] 41)
    have hS := hK9.drop.drop.drop.drop.drop
    have s0 := hS.rowS_get (k := 0) (by simp)
    have s1 := hS.rowS_get (k := 1) (by simp)
    have s2 := hS.rowS_get (k := 2) (by simp)
    have s3 := hS.rowS_get (k := 3) (by simp)
    simp only [List.getElem_cons_zero, List.getElem_cons_succ] at s0 s1 s2 s3
    have hg7 : g < w7.heap.size := (World.ownsRow.lt hS.at0 g rfl).2
    clear s0 s1 s2
    go_wp2_with fail
    refine Calls.kn hK10 ?_; intro w8 hK11
    clear s3 hK10
    refine (K4.out _).mono ?_; rintro e w9 ⟨rfl, hw⟩
    have hK12 := hK11.keep hw
    clear hw hK11 hS
    obtain ⟨p1, p2, p3, q1, q2, q3, r1, r2, r3, d1, d2, d3, -⟩ := hK12.cells
    have hK13 := (((hK12.al [.int .i64 t.a.base, .slice A1 t.a.digits.length c1, .int .i64 t.b.base, .slice A2 t.b.digits.length c2, .int .i64 t.s.base, .slice A3 t.s.digits.length c3, .int .i64 t.carry] 95).drop1.drop2.drop3).sw4).drop
    cases ok1 with
    | false =>
      have HU := Lib.hid (rdm_none (bs := strB s) HRR.out)
      go_wp2_with (refine wpList.kn hK13 ?_; intro w10 hK14; clear p1 p2 p3 q1 q2 q3 r1 r2 r3 d1 d2 d3 hK12; obtain ⟨a1, a2, a3, d1, d2, d3, -⟩ := hK14.cells)
      refine bodyPost_ret (v := .tuple #[.agg #[.int .i64 0, .slice none 0 0, .int .i64 0, .slice none 0 0, .int .i64 0, .slice none 0 0, .int .i64 0], .bool false]) (by simp [results, Tryd.results114, go_sem, d1]) rfl ⟨none, 0, none, 0, none, 0, by rw [HU.out.1, HU.out.2]; rfl, ?_⟩
      rw [HU.out.1]
      exact ((((((((((hK14.sw4.st 0 (.int .i64 0)).st 1 (.slice none 0 0)).st 2 (.int .i64 0)).st 3 (.slice none 0 0)).st 4 (.int .i64 0)).st 5 (.slice none 0 0)).st 6 (.int .i64 0))).bare.nilRow _ _).nilRow _ _).nilRow _ _
    | true =>
    cases ok2 with
    | false =>
      have HU := Lib.hid (rdm_none (bs := strB s) HRR.out)
      go_wp2_with (refine wpList.kn hK13 ?_; intro w10 hK14; clear p1 p2 p3 q1 q2 q3 r1 r2 r3 d1 d2 d3 hK12; obtain ⟨a1, a2, a3, d1, d2, d3, -⟩ := hK14.cells)
      refine bodyPost_ret (v := .tuple #[.agg #[.int .i64 0, .slice none 0 0, .int .i64 0, .slice none 0 0, .int .i64 0, .slice none 0 0, .int .i64 0], .bool false]) (by simp [results, Tryd.results114, go_sem, d1]) rfl ⟨none, 0, none, 0, none, 0, by rw [HU.out.1, HU.out.2]; rfl, ?_⟩
      rw [HU.out.1]
      exact ((((((((((hK14.sw4.st 0 (.int .i64 0)).st 1 (.slice none 0 0)).st 2 (.int .i64 0)).st 3 (.slice none 0 0)).st 4 (.int .i64 0)).st 5 (.slice none 0 0)).st 6 (.int .i64 0))).bare.nilRow _ _).nilRow _ _).nilRow _ _
    | true =>
    cases ok3 with
    | false =>
      have HU := Lib.hid (rdm_none (bs := strB s) HRR.out)
      go_wp2_with (refine wpList.kn hK13 ?_; intro w10 hK14; clear p1 p2 p3 q1 q2 q3 r1 r2 r3 d1 d2 d3 hK12; obtain ⟨a1, a2, a3, d1, d2, d3, -⟩ := hK14.cells)
      refine bodyPost_ret (v := .tuple #[.agg #[.int .i64 0, .slice none 0 0, .int .i64 0, .slice none 0 0, .int .i64 0, .slice none 0 0, .int .i64 0], .bool false]) (by simp [results, Tryd.results114, go_sem, d1]) rfl ⟨none, 0, none, 0, none, 0, by rw [HU.out.1, HU.out.2]; rfl, ?_⟩
      rw [HU.out.1]
      exact ((((((((((hK14.sw4.st 0 (.int .i64 0)).st 1 (.slice none 0 0)).st 2 (.int .i64 0)).st 3 (.slice none 0 0)).st 4 (.int .i64 0)).st 5 (.slice none 0 0)).st 6 (.int .i64 0))).bare.nilRow _ _).nilRow _ _).nilRow _ _
    | true =>
    cases ok4 with
    | false =>
      have HU := Lib.hid (rdm_none (bs := strB s) HRR.out)
      go_wp2_with (refine wpList.kn hK13 ?_; intro w10 hK14; clear p1 p2 p3 q1 q2 q3 r1 r2 r3 d1 d2 d3 hK12; obtain ⟨a1, a2, a3, d1, d2, d3, -⟩ := hK14.cells)
      refine bodyPost_ret (v := .tuple #[.agg #[.int .i64 0, .slice none 0 0, .int .i64 0, .slice none 0 0, .int .i64 0, .slice none 0 0, .int .i64 0], .bool false]) (by simp [results, Tryd.results114, go_sem, d1]) rfl ⟨none, 0, none, 0, none, 0, by rw [HU.out.1, HU.out.2]; rfl, ?_⟩
      rw [HU.out.1]
      exact ((((((((((hK14.sw4.st 0 (.int .i64 0)).st 1 (.slice none 0 0)).st 2 (.int .i64 0)).st 3 (.slice none 0 0)).st 4 (.int .i64 0)).st 5 (.slice none 0 0)).st 6 (.int .i64 0))).bare.nilRow _ _).nilRow _ _).nilRow _ _
    | true =>
      go_wp2_with (refine wpList.kn hK13 ?_; intro w10 hK14; clear p1 p2 p3 q1 q2 q3 r1 r2 r3 d1 d2 d3 hK12; obtain ⟨a1, a2, a3, d1, d2, d3, -⟩ := hK14.cells)
      have KO := l10Ok_any ⟨w9.heap.size, 0, none⟩ t w10 (TriC.tri (TriC.of_block hK14.at0 hK14.drop.drop.drop.ownI.ri hK14.drop.drop.ownI.ri hK14.drop.ownI.ri)) ⟨by unfold SmallReg; omega, by unfold SmallReg; omega, by unfold SmallReg; omega⟩
      rcases hv : vmach t with _ | _
      · have HU := Lib.hid (rdm_none (bs := strB s) (by rw [HRR.out, hv]; rfl))
        rw [hv] at KO
        clear hv
        refine KO.mono ?_; rintro e w11 ⟨rfl, m, rfl⟩
        have hK16 := hK14.drewN m
        go_wp2_with fail
        refine bodyPost_ret (v := .tuple #[.agg #[.int .i64 0, .slice none 0 0, .int .i64 0, .slice none 0 0, .int .i64 0, .slice none 0 0, .int .i64 0], .bool false]) (by simp [results, Tryd.results114, go_sem, d1]) rfl ⟨none, 0, none, 0, none, 0, by rw [HU.out.1, HU.out.2]; rfl, ?_⟩
        rw [HU.out.1]
        exact ((((((((((hK16.sw4.st 0 (.int .i64 0)).st 1 (.slice none 0 0)).st 2 (.int .i64 0)).st 3 (.slice none 0 0)).st 4 (.int .i64 0)).st 5 (.slice none 0 0)).st 6 (.int .i64 0))).bare.nilRow _ _).nilRow _ _).nilRow _ _
      · have HU := Lib.hid (rdm_some (bs := strB s) (r := t) (by rw [HRR.out, hv]; rfl))
        rw [hv] at KO
        clear hv
        refine KO.mono ?_; rintro e w11 ⟨rfl, m, rfl⟩
        have hK16 := hK14.drewN m
        go_wp2_with fail
        have hK17 := (((((((hK16.sw4.st 0 (.int .i64 t.a.base)).st 1 (.slice A1 t.a.digits.length c1)).st 2 (.int .i64 t.b.base)).st 3 (.slice A2 t.b.digits.length c2)).st 4 (.int .i64 t.s.base)).st 5 (.slice A3 t.s.digits.length c3)).st 6 (.int .i64 t.carry))
        refine bodyPost_ret (v := .tuple #[.agg #[.int .i64 t.a.base, .slice A1 t.a.digits.length c1, .int .i64 t.b.base, .slice A2 t.b.digits.length c2, .int .i64 t.s.base, .slice A3 t.s.digits.length c3, .int .i64 t.carry], .bool true]) (by simp [results, Tryd.results114, go_sem, d1]) rfl ⟨A1, c1, A2, c2, A3, c3, by rw [HU.out.1, HU.out.2], ?_⟩
        rw [HU.out.1]
        exact hK17.drop.drop
  · have HU := Lib.hid (rdm_none (bs := strB s) (HNO.out hl4))
    have k1 : ((ss.length : Int) != 4) = true := by rw [bne_iff_ne]; omega
    clear hl4
    go_wp2_with fail
    refine bodyPost_ret (v := .tuple #[.agg #[.int .i64 0, .slice none 0 0, .int .i64 0, .slice none 0 0, .int .i64 0, .slice none 0 0, .int .i64 0], .bool false]) (by simp [results, Tryd.results114, go_sem, d1]) rfl ⟨none, 0, none, 0, none, 0, by rw [HU.out.1, HU.out.2]; rfl, ?_⟩
    rw [HU.out.1]
    exact ((((((((((hK2.sw1.st 0 (.int .i64 0)).st 1 (.slice none 0 0)).st 2 (.int .i64 0)).st 3 (.slice none 0 0)).st 4 (.int .i64 0)).st 5 (.slice none 0 0)).st 6 (.int .i64 0))).bare.nilRow _ _).nilRow _ _).nilRow _ _
end Go.Proofs.YtgpmngcemnnpmaaDoor

namespace Go.Proofs.YtgpmngcemnnpmaaDoor
open Go.RowKit Go.Sort
/-- a session of the reference in block g -/
def SesS (w0 : World) (g : Nat) (s : SS) (w : World) : Prop := ∃ U1 u1 U2 u2 U3 u3 A1 c1 A2 c2 A3 c3 SA sc BA bc m, Kn w0 (.blk g [.int .i64 s.start.a.base, .slice U1 s.start.a.digits.length u1, .int .i64 s.start.b.base, .slice U2 s.start.b.digits.length u2, .int .i64 s.start.s.base, .slice U3 s.start.s.digits.length u3, .int .i64 s.start.carry, .int .i64 s.m.a.base, .slice A1 s.m.a.digits.length c1, .int .i64 s.m.b.base, .slice A2 s.m.b.digits.length c2, .int .i64 s.m.s.base, .slice A3 s.m.s.digits.length c3, .int .i64 s.m.carry, .slice SA s.str.length sc, .slice BA s.bel.length bc, .bool s.ended] 97 :: rowI A3 c3 s.m.s.digits :: rowI A2 c2 s.m.b.digits :: rowI A1 c1 s.m.a.digits :: rowI SA sc s.str :: rowI BA bc s.bel :: m) w ∧ Own3 m U1 u1 U2 u2 U3 u3 s.start
theorem SesS.of {w0 w : World} {g : Nat} {s : SS} {U1 U2 U3 A1 A2 A3 SA BA : Option Addr} {u1 u2 u3 c1 c2 c3 sc bc : Nat} {m : List Ent} (hK : Kn w0 (.blk g [.int .i64 s.start.a.base, .slice U1 s.start.a.digits.length u1, .int .i64 s.start.b.base, .slice U2 s.start.b.digits.length u2, .int .i64 s.start.s.base, .slice U3 s.start.s.digits.length u3, .int .i64 s.start.carry, .int .i64 s.m.a.base, .slice A1 s.m.a.digits.length c1, .int .i64 s.m.b.base, .slice A2 s.m.b.digits.length c2, .int .i64 s.m.s.base, .slice A3 s.m.s.digits.length c3, .int .i64 s.m.carry, .slice SA s.str.length sc, .slice BA s.bel.length bc, .bool s.ended] 97 :: rowI A3 c3 s.m.s.digits :: rowI A2 c2 s.m.b.digits :: rowI A1 c1 s.m.a.digits :: rowI SA sc s.str :: rowI BA bc s.bel :: m) w) (hu : Own3 m U1 u1 U2 u2 U3 u3 s.start) : SesS w0 g s w :=
  ⟨U1, u1, U2, u2, U3, u3, A1, c1, A2, c2, A3, c3, SA, sc, BA, bc, m, hK, hu⟩
theorem lineR_ended {w0 : World} {g : Nat} (s : SS) (i : Int) (L : ByteArray) (w : World) (hS : SesS w0 g s w) (he : s.ended = true) :
    Calls Tryd.prog 116 #[.pointer (some ⟨g, 0, none⟩), .int .i64 i, .string L] w fun e w' => e = .returned (.int .i64 (lineS s i (strB L)).2) ∧ SesS w0 g (lineS s i (strB L)).1 w' := by
  rw [lineS_ended i (strB L) he]
  have HS := Lib.hid hS
  obtain ⟨U1, u1, U2, u2, U3, u3, A1, c1, A2, c2, A3, c3, SA, sc, BA, bc, m, hK, -⟩ := hS
  obtain ⟨a1, a2, a3⟩ := hK.blkAt
  clear hK
  go_enter Tryd.func116, Tryd.ntmps116
  go_wp2_with fail
  go_ret
  exact ⟨rfl, HS.out⟩
theorem nameS0 {L : ByteArray} (hq : kindOf (strB L) = 0) : Hid (∀ W, Calls Tryd.prog 96 #[.string L] W fun e w' => e = .returned (.int .i64 0) ∧ Below W.heap.size W w') := by
  have h := (fun W => l24Kind_any L W)
  rw [hq] at h
  exact h
set_option maxRecDepth 100000 in
set_option maxHeartbeats 3200000 in
theorem lineR_stroke {w0 : World} {g k : Nat} (s : SS) (i : Int) (L : ByteArray) (w : World) (hS : SesS w0 g s w) (hg : s.Good k) (hk : k ≤ 1000000) (he : s.ended = false) (hq : kindOf (strB L) ≠ 0) :
    Calls Tryd.prog 116 #[.pointer (some ⟨g, 0, none⟩), .int .i64 i, .string L] w fun e w' => e = .returned (.int .i64 0) ∧ SesS w0 g (lineS s i (strB L)).1 w' := by
  have HKN := (fun W => l24Kind_any L W)
  have hb := kindOf_bd (strB L)
  have HLS := Lib.hid (show (lineS s i (strB L)).1 = ⟨s.start, (strokeT (kindOf (strB L)) s.m).1, s.str ++ [kindOf (strB L)], if (strokeT (kindOf (strB L)) s.m).2 then s.bel ++ [i] else s.bel, s.ended⟩ by
    unfold lineS; rw [if_neg (by rw [he]; decide), if_pos hq, he])
  obtain ⟨kd, hkd⟩ : ∃ kd, kindOf (strB L) = kd := ⟨_, rfl⟩
  rw [hkd] at HKN hb hq HLS
  have hk1 : 1 ≤ kd ∧ kd ≤ 6 := by omega
  have hk2 : (0 : Int) < kd := by omega
  have KT := (fun {p0 p1 p2 p3 p4 p5 p6 : Value} {rest : List Value} {T : TypeId} {m : List Ent} W (hM : MB7 w0 g p0 p1 p2 p3 p4 p5 p6 rest T s.m m W) => l10DoK7 s.m kd W hM hg.m hk1)
  obtain ⟨⟨t, bell⟩, hr⟩ : ∃ r, strokeT kd s.m = r := ⟨_, rfl⟩
  rw [hr] at KT HLS
  obtain ⟨str', hstr⟩ : ∃ l, s.str ++ [kd] = l := ⟨_, rfl⟩
  rw [hstr] at HLS
  have HSTR := Lib.hid hstr
  replace HKN := Lib.hid HKN
  have hsl10 : s.str.length ≤ 10000000 := by have := hg.str; omega
  have hbl10 : s.bel.length ≤ 10000000 := by have := hg.bel; omega
  clear hr hkd hq hg hstr
  obtain ⟨U1, u1, U2, u2, U3, u3, A1, c1, A2, c2, A3, c3, SA, sc, BA, bc, m, hK, hu⟩ := hS
  have HU := Lib.hid hu
  clear hu
  obtain ⟨a1, a2, a3⟩ := hK.blkAt
  go_enter Tryd.func116, Tryd.ntmps116
  go_wp2_with fail
  refine (HKN.out _).mono ?_; rintro e w1 ⟨rfl, hw⟩
  have hK1 := hK.keep hw
  clear a1 a2 a3 hK hw
  obtain ⟨a1, a2, a3⟩ := hK1.blkAt
  have hA : Kn w0 (.blk w1.heap.size [.int .i64 kd] 2 :: .row (.slice SA s.str.length sc) 2 1 s.str.length (s.str.map (Value.int .i64)) :: _) _ := (hK1.front 4 rfl).al [.int .i64 kd] 2
  go_wp2_with (at_builtin; refine kn_pushI rfl _ _ rfl (.slice SA s.str.length sc) s.str rfl rfl hA hsl10 ?_; intro v2 w2 hK2; rw [HSTR.out] at hK2; obtain ⟨A5, c5, rfl⟩ := row_form hK2.at0; clear a1 a2 a3 hA hK1; obtain ⟨a1, a2, a3, -⟩ := hK2.cells)
  have hK3 := ((hK2.front 1 rfl).st 14 (.slice A5 str'.length c5)).sel [0, 2, 3, 4, 1, 5] 6 (by decide) (by decide)
  refine (KT _ ⟨A1, c1, A2, c2, A3, c3, hK3⟩).mono ?_
  rintro e w3 ⟨rfl, B1, d1, B2, d2, B3, d3, hK4⟩
  clear a1 a2 a3 hK2 hK3
  obtain ⟨a1, a2, a3, -⟩ := hK4.cells
  rcases bell with _ | _
  · go_wp2_with fail
    go_ret
    have hls := HLS.out
    simp only [Bool.false_eq_true, if_false] at hls
    rw [hls]
    exact ⟨rfl, SesS.of (s := ⟨s.start, t, str', s.bel, s.ended⟩) hK4 HU.out⟩
  · have hA : Kn w0 (.blk w3.heap.size [.int .i64 i] 2 :: .row (.slice BA s.bel.length bc) 2 1 s.bel.length (s.bel.map (Value.int .i64)) :: _) _ := (hK4.front 5 rfl).al [.int .i64 i] 2
    obtain ⟨bel', hbel⟩ : ∃ l, s.bel ++ [i] = l := ⟨_, rfl⟩
    rw [hbel] at HLS
    have HBEL := Lib.hid hbel
    clear hbel
    go_wp2_with (at_builtin; refine kn_pushI rfl _ _ rfl (.slice BA s.bel.length bc) s.bel rfl rfl hA hbl10 ?_; intro v8 w8 hK8; rw [HBEL.out] at hK8; obtain ⟨A6, c6, rfl⟩ := row_form hK8.at0; clear a1 a2 a3; obtain ⟨a1, a2, a3, -⟩ := hK8.cells)
    go_ret
    have hls := HLS.out
    simp only [if_true] at hls
    rw [hls]
    exact ⟨rfl, SesS.of (s := ⟨s.start, t, str', bel', s.ended⟩) (((hK8.front 1 rfl).st 15 (.slice A6 bel'.length c6)).sel [0, 2, 3, 4, 5, 1] 6 (by decide) (by decide)) HU.out⟩
theorem extract_eq {L : ByteArray} {p : List UInt8} (h : (L.extract 0 p.length).toList = p) (h1 : p.length < L.size) : begins p (strB L) = true := by
  rw [strB_toList, strB_extract] at h
  refine begins_iff.2 ⟨by rw [strB_len]; exact h1, ?_⟩
  simpa using h
theorem extract_beg {L : ByteArray} {p : List UInt8} (h : begins p (strB L) = true) : p.length < L.size ∧ (L.extract 0 p.length).toList = p := by
  obtain ⟨h1, h2⟩ := begins_iff.1 h
  rw [strB_len] at h1
  refine ⟨h1, ?_⟩
  rw [strB_toList, strB_extract]
  simpa using h2
theorem begins_no {L : ByteArray} {p : List UInt8} (h : begins p (strB L) = false) : L.size ≤ p.length ∨ (p.length < L.size ∧ ((L.extract 0 p.length).toList == p) = false) := by
  by_cases h1 : p.length < L.size
  · refine .inr ⟨h1, ?_⟩
    rw [beq_eq_false_iff_ne]
    intro h2
    rw [extract_eq h2 h1] at h
    cases h
  · exact .inl (by omega)
end Go.Proofs.YtgpmngcemnnpmaaDoor

namespace Go.Proofs.YtgpmngcemnnpmaaDoor
open Go.RowKit Go.Sort
set_option maxRecDepth 100000 in
set_option maxHeartbeats 3200000 in
theorem lineR_end {w0 : World} {g : Nat} (s : SS) (i : Int) (L : ByteArray) (w : World) (hS : SesS w0 g s w) (he : s.ended = false) (hq : kindOf (strB L) = 0) (h1 : strB L = endB) :
    Calls Tryd.prog 116 #[.pointer (some ⟨g, 0, none⟩), .int .i64 i, .string L] w fun e w' => e = .returned (.int .i64 (lineS s i (strB L)).2) ∧ SesS w0 g (lineS s i (strB L)).1 w' := by
  have HKN := nameS0 hq
  have HQ := Lib.hid (show lineS s i (strB L) = ({ s with ended := true }, 0) by
    unfold lineS
    rw [if_neg (by rw [he]; decide), if_neg (fun h => h hq), if_pos h1])
  have hqe : (L.toList == [101, 110, 100]) = true := by rw [strB_toList, h1]; rfl
  clear h1 hq
  obtain ⟨U1, u1, U2, u2, U3, u3, A1, c1, A2, c2, A3, c3, SA, sc, BA, bc, m, hK, hu⟩ := hS
  have HU := Lib.hid hu
  clear hu
  obtain ⟨a1, a2, a3⟩ := hK.blkAt
  go_enter Tryd.func116, Tryd.ntmps116
  go_wp2_with fail
  refine (HKN.out _).mono ?_; rintro e w1 ⟨rfl, hw⟩
  have hK1 := hK.keep hw
  clear a1 a2 a3 hK hw
  obtain ⟨a1, a2, a3⟩ := hK1.blkAt
  go_wp2_with fail
  go_ret
  rw [HQ.out]
  exact ⟨rfl, SesS.of (s := { s with ended := true }) (hK1.st 16 (.bool true)) HU.out⟩
set_option maxRecDepth 100000 in
set_option maxHeartbeats 3200000 in
theorem lineR_word {w0 : World} {g : Nat} (s : SS) (i : Int) (L : ByteArray) (w : World) (hS : SesS w0 g s w) (he : s.ended = false) (hq : kindOf (strB L) = 0) (hL : L.size ≤ 1048576) (h0 : strB L ≠ endB) (h1 : begins setB (strB L) = false) (h2 : begins showB (strB L) = false) :
    Calls Tryd.prog 116 #[.pointer (some ⟨g, 0, none⟩), .int .i64 i, .string L] w fun e w' => e = .returned (.int .i64 (lineS s i (strB L)).2) ∧ SesS w0 g (lineS s i (strB L)).1 w' := by
  have HKN := nameS0 hq
  have HQ := Lib.hid (show lineS s i (strB L) = (s, 2) by
    unfold lineS
    rw [if_neg (by rw [he]; decide), if_neg (fun h => h hq), if_neg h0, h1, h2]
    rfl)
  have hqe : (L.toList == [101, 110, 100]) = false := by rw [strB_toList, beq_eq_false_iff_ne]; exact h0
  have n1 := begins_no h1
  have n2 := begins_no h2
  clear h0 h1 h2 hq
  change L.size ≤ 4 ∨ (4 < L.size ∧ ((L.extract 0 4).toList == [115, 101, 116, 32]) = false) at n1
  change L.size ≤ 5 ∨ (5 < L.size ∧ ((L.extract 0 5).toList == [115, 104, 111, 119, 32]) = false) at n2
  rcases n1 with n1 | ⟨n1, f1⟩
  · have i1 : ¬ (4 : Int) < (L.size : Int) := by omega
    have i2 : ¬ (5 : Int) < (L.size : Int) := by omega
    clear n1 n2
    obtain ⟨U1, u1, U2, u2, U3, u3, A1, c1, A2, c2, A3, c3, SA, sc, BA, bc, m, hK, hu⟩ := hS
    have HU := Lib.hid hu
    clear hu
    obtain ⟨a1, a2, a3⟩ := hK.blkAt
    go_enter Tryd.func116, Tryd.ntmps116
    go_wp2_with fail
    refine (HKN.out _).mono ?_; rintro e w1 ⟨rfl, hw⟩
    have hK1 := hK.keep hw
    clear a1 a2 a3 hK hw
    obtain ⟨a1, a2, a3⟩ := hK1.blkAt
    go_wp2_with fail
    go_ret
    rw [HQ.out]
    exact ⟨rfl, SesS.of hK1 HU.out⟩
  · have i1 : (4 : Int) < (L.size : Int) := by omega
    have i1' : (4 : Int) ≤ (L.size : Int) := by omega
    rcases n2 with n2 | ⟨n2, f2⟩
    · have i2 : ¬ (5 : Int) < (L.size : Int) := by omega
      clear n1 n2
      obtain ⟨U1, u1, U2, u2, U3, u3, A1, c1, A2, c2, A3, c3, SA, sc, BA, bc, m, hK, hu⟩ := hS
      have HU := Lib.hid hu
      clear hu
      obtain ⟨a1, a2, a3⟩ := hK.blkAt
      go_enter Tryd.func116, Tryd.ntmps116
      go_wp2_with fail
      refine (HKN.out _).mono ?_; rintro e w1 ⟨rfl, hw⟩
      have hK1 := hK.keep hw
      clear a1 a2 a3 hK hw
      obtain ⟨a1, a2, a3⟩ := hK1.blkAt
      go_wp2_with fail
      go_ret
      rw [HQ.out]
      exact ⟨rfl, SesS.of hK1 HU.out⟩
    · have i2 : (5 : Int) < (L.size : Int) := by omega
      have i2' : (5 : Int) ≤ (L.size : Int) := by omega
      clear n1 n2
      obtain ⟨U1, u1, U2, u2, U3, u3, A1, c1, A2, c2, A3, c3, SA, sc, BA, bc, m, hK, hu⟩ := hS
      have HU := Lib.hid hu
      clear hu
      obtain ⟨a1, a2, a3⟩ := hK.blkAt
      go_enter Tryd.func116, Tryd.ntmps116
      go_wp2_with fail
      refine (HKN.out _).mono ?_; rintro e w1 ⟨rfl, hw⟩
      have hK1 := hK.keep hw
      clear a1 a2 a3 hK hw
      obtain ⟨a1, a2, a3⟩ := hK1.blkAt
      go_wp2_with fail
      go_ret
      rw [HQ.out]
      exact ⟨rfl, SesS.of hK1 HU.out⟩
set_option maxRecDepth 100000 in
set_option maxHeartbeats 3200000 in
theorem lineR_show {w0 : World} {g k : Nat} (s : SS) (i : Int) (L : ByteArray) (w : World) (hS : SesS w0 g s w) (hg : s.Good k) (he : s.ended = false) (hq : kindOf (strB L) = 0) (hL : L.size ≤ 1048576) (h2 : begins showB (strB L) = true) :
    Calls Tryd.prog 116 #[.pointer (some ⟨g, 0, none⟩), .int .i64 i, .string L] w fun e w' => e = .returned (.int .i64 (lineS s i (strB L)).2) ∧ SesS w0 g (lineS s i (strB L)).1 w' := by
  have HKN := nameS0 hq
  have h0 : strB L ≠ endB := begins_ne h2 (by decide)
  have h1 := show_not_set h2
  obtain ⟨R, hR⟩ : ∃ R, L.extract 5 L.size = R := ⟨_, rfl⟩
  have hRB : strB R = (strB L).drop 5 := by rw [← hR]; exact strB_drop L 5
  have HL := (show lineS s i (strB L) = if strB R = strB (mtextL s.m) then (s, 0) else (s, 4) by
    unfold lineS
    rw [if_neg (by rw [he]; decide), if_neg (fun h => h hq), if_neg h0, h1, h2, hRB]
    rfl)
  have hqe : (L.toList == [101, 110, 100]) = false := by rw [strB_toList, beq_eq_false_iff_ne]; exact h0
  have n1 := begins_no h1
  obtain ⟨n2, f2⟩ := extract_beg h2
  change L.size ≤ 4 ∨ (4 < L.size ∧ ((L.extract 0 4).toList == [115, 101, 116, 32]) = false) at n1
  change 5 < L.size at n2
  have f2' : ((L.extract 0 5).toList == [115, 104, 111, 119, 32]) = true := by rw [beq_iff_eq]; exact f2
  have f1 : ((L.extract 0 4).toList == [115, 101, 116, 32]) = false := by
    rcases n1 with n1 | ⟨n1, f1⟩
    · omega
    · exact f1
  have i1 : (4 : Int) < (L.size : Int) := by omega
  have i1' : (4 : Int) ≤ (L.size : Int) := by omega
  have i2 : (5 : Int) < (L.size : Int) := by omega
  have i2' : (5 : Int) ≤ (L.size : Int) := by omega
  have HMT := (fun p W hT hlt => l10Text_any p s.m W hT hlt hg.m)
  obtain ⟨T, hT⟩ : ∃ T, mtextL s.m = T := ⟨_, rfl⟩
  rw [hT] at HMT HL
  replace HMT := Lib.hid HMT
  replace HL := Lib.hid HL
  clear h0 h1 h2 hq n1 n2 f2 hRB hT hg
  rcases hqr : (R.toList == T.toList) with _ | _
  · have HQ : Hid (lineS s i (strB L) = (s, 4)) := by
      simp only [Hid]
      rw [HL.out, if_neg]
      rw [strB_toList, strB_toList, beq_eq_false_iff_ne] at hqr
      exact hqr
    obtain ⟨U1, u1, U2, u2, U3, u3, A1, c1, A2, c2, A3, c3, SA, sc, BA, bc, m, hK, hu⟩ := hS
    have HU := Lib.hid hu
    clear hu
    obtain ⟨a1, a2, a3⟩ := hK.blkAt
    go_enter Tryd.func116, Tryd.ntmps116
    go_wp2_with fail
    refine (HKN.out _).mono ?_; rintro e w1 ⟨rfl, hw⟩
    have hK1 := hK.keep hw
    clear a1 a2 a3 hK hw
    obtain ⟨a1, a2, a3⟩ := hK1.blkAt
    have HTM := Lib.hid (fun W (h : Kn w0 (.blk g [.int .i64 s.start.a.base, .slice U1 s.start.a.digits.length u1, .int .i64 s.start.b.base, .slice U2 s.start.b.digits.length u2, .int .i64 s.start.s.base, .slice U3 s.start.s.digits.length u3, .int .i64 s.start.carry, .int .i64 s.m.a.base, .slice A1 s.m.a.digits.length c1, .int .i64 s.m.b.base, .slice A2 s.m.b.digits.length c2, .int .i64 s.m.s.base, .slice A3 s.m.s.digits.length c3, .int .i64 s.m.carry, .slice SA s.str.length sc, .slice BA s.bel.length bc, .bool s.ended] 97 :: rowI A3 c3 s.m.s.digits :: rowI A2 c2 s.m.b.digits :: rowI A1 c1 s.m.a.digits :: rowI SA sc s.str :: rowI BA bc s.bel :: m) W) => TriC.tri (w := W) (b := g) (o := 7) (t := s.m) ⟨⟨h.blkAt.1 7, h.blkAt.1 8, h.blkAt.1 9, h.blkAt.1 10, h.blkAt.1 11, h.blkAt.1 12, h.blkAt.1 13⟩, (h.front 3 rfl).riv, (h.front 2 rfl).riv, (h.front 1 rfl).riv⟩)
    have hld := hK1.drew.blkAt.2.2
    go_wp2_with fail
    go_region_held3 (fun W => True) (trivial) (
      (go_at_call 140; (refine (HMT.out ⟨g, 7, none⟩ _ (HTM.out _ hK1.drew) hld).mono ?_); rintro e w2 ⟨rfl, hw⟩; have hK2 := hK1.drew.keep hw))
    all_goals
      clear a1 a2 a3
      go_wp2_with fail
      go_ret
      rw [HQ.out]
      exact ⟨rfl, SesS.of hK2 HU.out⟩
  · have HQ : Hid (lineS s i (strB L) = (s, 0)) := by
      simp only [Hid]
      rw [HL.out, if_pos]
      rw [strB_toList, strB_toList, beq_iff_eq] at hqr
      exact hqr
    obtain ⟨U1, u1, U2, u2, U3, u3, A1, c1, A2, c2, A3, c3, SA, sc, BA, bc, m, hK, hu⟩ := hS
    have HU := Lib.hid hu
    clear hu
    obtain ⟨a1, a2, a3⟩ := hK.blkAt
    go_enter Tryd.func116, Tryd.ntmps116
    go_wp2_with fail
    refine (HKN.out _).mono ?_; rintro e w1 ⟨rfl, hw⟩
    have hK1 := hK.keep hw
    clear a1 a2 a3 hK hw
    obtain ⟨a1, a2, a3⟩ := hK1.blkAt
    have HTM := Lib.hid (fun W (h : Kn w0 (.blk g [.int .i64 s.start.a.base, .slice U1 s.start.a.digits.length u1, .int .i64 s.start.b.base, .slice U2 s.start.b.digits.length u2, .int .i64 s.start.s.base, .slice U3 s.start.s.digits.length u3, .int .i64 s.start.carry, .int .i64 s.m.a.base, .slice A1 s.m.a.digits.length c1, .int .i64 s.m.b.base, .slice A2 s.m.b.digits.length c2, .int .i64 s.m.s.base, .slice A3 s.m.s.digits.length c3, .int .i64 s.m.carry, .slice SA s.str.length sc, .slice BA s.bel.length bc, .bool s.ended] 97 :: rowI A3 c3 s.m.s.digits :: rowI A2 c2 s.m.b.digits :: rowI A1 c1 s.m.a.digits :: rowI SA sc s.str :: rowI BA bc s.bel :: m) W) => TriC.tri (w := W) (b := g) (o := 7) (t := s.m) ⟨⟨h.blkAt.1 7, h.blkAt.1 8, h.blkAt.1 9, h.blkAt.1 10, h.blkAt.1 11, h.blkAt.1 12, h.blkAt.1 13⟩, (h.front 3 rfl).riv, (h.front 2 rfl).riv, (h.front 1 rfl).riv⟩)
    have hld := hK1.drew.blkAt.2.2
    go_wp2_with fail
    go_region_held3 (fun W => True) (trivial) (
      (go_at_call 140; (refine (HMT.out ⟨g, 7, none⟩ _ (HTM.out _ hK1.drew) hld).mono ?_); rintro e w2 ⟨rfl, hw⟩; have hK2 := hK1.drew.keep hw))
    all_goals
      clear a1 a2 a3
      go_wp2_with fail
      go_ret
      rw [HQ.out]
      exact ⟨rfl, SesS.of hK2 HU.out⟩
set_option maxRecDepth 100000 in
set_option maxHeartbeats 3200000 in
theorem lineR_set {w0 : World} {g k : Nat} (s : SS) (i : Int) (L : ByteArray) (w : World) (hS : SesS w0 g s w) (hg : s.Good k) (he : s.ended = false) (hq : kindOf (strB L) = 0) (hL : L.size ≤ 1048576) (h1 : begins setB (strB L) = true) :
    Calls Tryd.prog 116 #[.pointer (some ⟨g, 0, none⟩), .int .i64 i, .string L] w fun e w' => e = .returned (.int .i64 (lineS s i (strB L)).2) ∧ SesS w0 g (lineS s i (strB L)).1 w' := by
  have HKN := nameS0 hq
  have h0 : strB L ≠ endB := begins_ne h1 (by decide)
  obtain ⟨R, hR⟩ : ∃ R, L.extract 4 L.size = R := ⟨_, rfl⟩
  have hRB : strB R = (strB L).drop 4 := by rw [← hR]; exact strB_drop L 4
  have hRs : R.size ≤ 9223372036854775807 := by rw [← hR, extract_size]; omega
  have HL := (show lineS s i (strB L) = if (rdDec (strB R)).isSome && fits s.m (rdN (strB R)) then ({ s with m := setT s.m (rdN (strB R)) }, 0) else (s, 3) by
    unfold lineS fits
    rw [if_neg (by rw [he]; decide), if_neg (fun h => h hq), if_neg h0, h1, hRB]
    rfl)
  have hqe : (L.toList == [101, 110, 100]) = false := by rw [strB_toList, beq_eq_false_iff_ne]; exact h0
  obtain ⟨n2, f2⟩ := extract_beg h1
  change 4 < L.size at n2
  have f2' : ((L.extract 0 4).toList == [115, 101, 116, 32]) = true := by rw [beq_iff_eq]; exact f2
  have i1 : (4 : Int) < (L.size : Int) := by omega
  have i1' : (4 : Int) ≤ (L.size : Int) := by omega
  have HRD := (fun W => l01Number_any R W hRs)
  obtain ⟨v, hv⟩ : ∃ v, rdN (strB R) = v := ⟨_, rfl⟩
  obtain ⟨ok, hok⟩ : ∃ b, (rdDec (strB R)).isSome = b := ⟨_, rfl⟩
  rw [hv, hok] at HRD HL
  replace HRD := Lib.hid HRD
  replace HL := Lib.hid HL
  have HSV := Lib.hid (fun (A1 A2 A3 : Option Addr) (c1 c2 c3 : Nat) W r1 r2 r3 => specSetValueG s.m A1 A2 A3 c1 c2 c3 v W r1 r2 r3 hg.m)
  obtain ⟨ds, hds⟩ : ∃ ds, (setT s.m v).a.digits = ds := ⟨_, rfl⟩
  have HDS := Lib.hid hds
  have HST := Lib.hid (show setT s.m v = ⟨⟨s.m.a.base, ds⟩, s.m.b, s.m.s, s.m.carry⟩ by rw [← hds]; rfl)
  clear h0 h1 hq hRB hv hok hg hds f2 n2 hRs
  rcases ok with _ | _
  · have HQ : Hid (lineS s i (strB L) = (s, 3)) := by
      simp only [Hid]
      rw [HL.out, if_neg (by simp)]
    obtain ⟨U1, u1, U2, u2, U3, u3, A1, c1, A2, c2, A3, c3, SA, sc, BA, bc, m, hK, hu⟩ := hS
    have HU := Lib.hid hu
    clear hu
    obtain ⟨a1, a2, a3⟩ := hK.blkAt
    go_enter Tryd.func116, Tryd.ntmps116
    go_wp2_with fail
    refine (HKN.out _).mono ?_; rintro e w1 ⟨rfl, hw⟩
    have hK1 := hK.keep hw
    clear a1 a2 a3 hK hw
    obtain ⟨a1, a2, a3⟩ := hK1.blkAt
    go_wp2_with fail
    refine (HRD.out _).mono ?_; rintro e w2 ⟨rfl, hw⟩
    have hK2 := hK1.keep hw
    clear a1 a2 a3 hK1 hw
    obtain ⟨a1, a2, a3⟩ := hK2.blkAt
    go_wp2_with fail
    refine (HSV.out _ _ _ _ _ _ _ (hK2.front 3 rfl).riv (hK2.front 2 rfl).riv (hK2.front 1 rfl).riv).mono ?_; rintro e w3 (⟨hf, B1, d1, B2, d2, B3, d3, rfl, hKn⟩ | ⟨hf, rfl, hw⟩)
    · rw [HDS.out] at hKn ⊢
      have hK3 := ((hK2.join hKn).sel [3, 4, 5, 6, 7, 8] 9 (by decide) (by decide)).al_ (.cells #[.int .i64 s.m.a.base, .slice B1 ds.length d1, .int .i64 s.m.b.base, .slice B2 s.m.b.digits.length d2, .int .i64 s.m.s.base, .slice B3 s.m.s.digits.length d3, .int .i64 s.m.carry] 95)
      clear a1 a2 a3 hK2 hKn
      go_wp2_with fail
      go_ret
      rw [HQ.out]
      exact ⟨rfl, SesS.of (m := m) hK3 HU.out⟩
    · have hK3 := (hK2.keep hw).al_ (.cells #[.int .i64 0, .slice none 0 0, .int .i64 0, .slice none 0 0, .int .i64 0, .slice none 0 0, .int .i64 0] 95)
      clear a1 a2 a3 hK2 hw
      go_wp2_with fail
      go_ret
      rw [HQ.out]
      exact ⟨rfl, SesS.of hK3 HU.out⟩
  · obtain ⟨U1, u1, U2, u2, U3, u3, A1, c1, A2, c2, A3, c3, SA, sc, BA, bc, m, hK, hu⟩ := hS
    have HU := Lib.hid hu
    clear hu
    obtain ⟨a1, a2, a3⟩ := hK.blkAt
    go_enter Tryd.func116, Tryd.ntmps116
    go_wp2_with fail
    refine (HKN.out _).mono ?_; rintro e w1 ⟨rfl, hw⟩
    have hK1 := hK.keep hw
    clear a1 a2 a3 hK hw
    obtain ⟨a1, a2, a3⟩ := hK1.blkAt
    go_wp2_with fail
    refine (HRD.out _).mono ?_; rintro e w2 ⟨rfl, hw⟩
    have hK2 := hK1.keep hw
    clear a1 a2 a3 hK1 hw
    obtain ⟨a1, a2, a3⟩ := hK2.blkAt
    go_wp2_with fail
    refine (HSV.out _ _ _ _ _ _ _ (hK2.front 3 rfl).riv (hK2.front 2 rfl).riv (hK2.front 1 rfl).riv).mono ?_; rintro e w3 (⟨hf, B1, d1, B2, d2, B3, d3, rfl, hKn⟩ | ⟨hf, rfl, hw⟩)
    · have HQ : Hid (lineS s i (strB L) = ({ s with m := ⟨⟨s.m.a.base, ds⟩, s.m.b, s.m.s, s.m.carry⟩ }, 0)) := by
        simp only [Hid]
        rw [HL.out, hf, HST.out]; rfl
      rw [HDS.out] at hKn ⊢
      have hK3 : Kn w0 (.blk g [.int .i64 s.start.a.base, .slice U1 s.start.a.digits.length u1, .int .i64 s.start.b.base, .slice U2 s.start.b.digits.length u2, .int .i64 s.start.s.base, .slice U3 s.start.s.digits.length u3, .int .i64 s.start.carry, .int .i64 s.m.a.base, .slice A1 s.m.a.digits.length c1, .int .i64 s.m.b.base, .slice A2 s.m.b.digits.length c2, .int .i64 s.m.s.base, .slice A3 s.m.s.digits.length c3, .int .i64 s.m.carry, .slice SA s.str.length sc, .slice BA s.bel.length bc, .bool s.ended] 97 :: rowI B3 d3 s.m.s.digits :: rowI B2 d2 s.m.b.digits :: rowI B1 d1 ds :: rowI SA sc s.str :: rowI BA bc s.bel :: m) w3 := (hK2.join hKn).sel [3, 0, 1, 2, 7, 8] 9 (by decide) (by decide)
      clear a1 a2 a3 hK2 hKn hf
      obtain ⟨a1, a2, a3⟩ := hK3.blkAt
      go_wp2_with fail
      go_ret
      rw [HQ.out]
      exact ⟨rfl, SesS.of (s := { s with m := ⟨⟨s.m.a.base, ds⟩, s.m.b, s.m.s, s.m.carry⟩ }) (m := m) ((((((((hK3.st 7 (.int .i64 s.m.a.base)).st 8 (.slice B1 ds.length d1)).st 9 (.int .i64 s.m.b.base)).st 10 (.slice B2 s.m.b.digits.length d2)).st 11 (.int .i64 s.m.s.base)).st 12 (.slice B3 s.m.s.digits.length d3)).st 13 (.int .i64 s.m.carry)).al_ (.cells #[.int .i64 s.m.a.base, .slice B1 ds.length d1, .int .i64 s.m.b.base, .slice B2 s.m.b.digits.length d2, .int .i64 s.m.s.base, .slice B3 s.m.s.digits.length d3, .int .i64 s.m.carry] 95)) HU.out⟩
    · have HQ : Hid (lineS s i (strB L) = (s, 3)) := by
        simp only [Hid]
        rw [HL.out, hf]; rfl
      have hK3 := (hK2.keep hw).al_ (.cells #[.int .i64 0, .slice none 0 0, .int .i64 0, .slice none 0 0, .int .i64 0, .slice none 0 0, .int .i64 0] 95)
      clear a1 a2 a3 hK2 hw hf
      go_wp2_with fail
      go_ret
      rw [HQ.out]
      exact ⟨rfl, SesS.of hK3 HU.out⟩
theorem lineR_any {w0 : World} {g k : Nat} (s : SS) (i : Int) (L : ByteArray) (w : World) (hS : SesS w0 g s w) (hg : s.Good k) (hk : k ≤ 1000000) (hL : L.size ≤ 1048576) :
    Calls Tryd.prog 116 #[.pointer (some ⟨g, 0, none⟩), .int .i64 i, .string L] w fun e w' => e = .returned (.int .i64 (lineS s i (strB L)).2) ∧ SesS w0 g (lineS s i (strB L)).1 w' := by
  rcases he : s.ended with _ | _
  · by_cases hq : kindOf (strB L) = 0
    · by_cases h0 : strB L = endB
      · exact lineR_end s i L w hS he hq h0
      · rcases h1 : begins setB (strB L) with _ | _
        · rcases h2 : begins showB (strB L) with _ | _
          · exact lineR_word s i L w hS he hq hL h0 h1 h2
          · exact lineR_show s i L w hS hg he hq hL h2
        · exact lineR_set s i L w hS hg he hq hL h1
    · refine (lineR_stroke s i L w hS hg hk he hq).mono ?_
      rintro e w' ⟨rfl, h⟩
      refine ⟨?_, h⟩
      unfold lineS
      rw [if_neg (by rw [he]; decide), if_pos hq]
  · exact lineR_ended s i L w hS he
end Go.Proofs.YtgpmngcemnnpmaaDoor

namespace Go.Proofs.YtgpmngcemnnpmaaDoor
open Go.RowKit Go.Sort
theorem sesS_zero {w w1 : World} (h : Kn w [.blk (w.heap.size + 1 + 1) [.int .i64 0, .slice none 0 0, .int .i64 0, .slice none 0 0, .int .i64 0, .slice none 0 0, .int .i64 0, .int .i64 0, .slice none 0 0, .int .i64 0, .slice none 0 0, .int .i64 0, .slice none 0 0, .int .i64 0, .slice (some ⟨w.heap.size, 0, none⟩) 0 0, .slice (some ⟨w.heap.size + 1, 0, none⟩) 0 0, .bool false] 97, .blk (w.heap.size + 1) [] 2, .blk w.heap.size [] 2] w1) : SesS w (w.heap.size + 1 + 1) zSS w1 := by
  have h1 := (h.front 1 rfl).litRow (n := 0) (size := 1) rfl (by decide)
  have h2 := (h1.front 2 rfl).litRow (n := 0) (size := 1) rfl (by decide)
  have h3 := (((h2.nilRow 2 1).nilRow 2 1).nilRow 2 1).nilRow 2 1
  exact ⟨none, 0, none, 0, none, 0, none, 0, none, 0, none, 0, some ⟨w.heap.size, 0, none⟩, 0, some ⟨w.heap.size + 1, 0, none⟩, 0, [rowI none 0 []], h3.sel [6, 1, 2, 3, 4, 5, 0] 99 (by decide) (by decide), ⟨by simp [zSS, zTri], by simp [zSS, zTri], by simp [zSS, zTri]⟩⟩
theorem sesS_start {w w1 : World} {t : Tri} {A1 A2 A3 B1 B2 B3 : Option Addr} {c1 c2 c3 d1 d2 d3 g8 : Nat} {l8 : List Value} {T8 : TypeId} (h : Kn w [.blk (w.heap.size + 1 + 1) [.int .i64 t.a.base, .slice A1 t.a.digits.length c1, .int .i64 t.b.base, .slice A2 t.b.digits.length c2, .int .i64 t.s.base, .slice A3 t.s.digits.length c3, .int .i64 t.carry, .int .i64 t.a.base, .slice B1 t.a.digits.length d1, .int .i64 t.b.base, .slice B2 t.b.digits.length d2, .int .i64 t.s.base, .slice B3 t.s.digits.length d3, .int .i64 t.carry, .slice (some ⟨w.heap.size, 0, none⟩) 0 0, .slice (some ⟨w.heap.size + 1, 0, none⟩) 0 0, .bool false] 97, rowI B3 d3 t.s.digits, rowI B2 d2 t.b.digits, rowI B1 d1 t.a.digits, .blk g8 l8 T8, rowI A3 c3 t.s.digits, rowI A2 c2 t.b.digits, rowI A1 c1 t.a.digits, .blk (w.heap.size + 1) [] 2, .blk w.heap.size [] 2] w1) : SesS w (w.heap.size + 1 + 1) ⟨t, t, [], [], false⟩ w1 := by
  have h1 := (h.front 8 rfl).litRow (n := 0) (size := 1) rfl (by decide)
  have h2 := (h1.front 9 rfl).litRow (n := 0) (size := 1) rfl (by decide)
  exact ⟨A1, c1, A2, c2, A3, c3, B1, d1, B2, d2, B3, d3, some ⟨w.heap.size, 0, none⟩, 0, some ⟨w.heap.size + 1, 0, none⟩, 0, [rowI A3 c3 t.s.digits, rowI A2 c2 t.b.digits, rowI A1 c1 t.a.digits], h2.sel [2, 3, 4, 5, 0, 1, 7, 8, 9] 99 (by decide) (by decide), ⟨by simp, by simp, by simp⟩⟩
theorem SesS.below {w0 w : World} {g : Nat} {s : SS} (h : SesS w0 g s w) : Below w0.heap.size w0 w := by
  obtain ⟨U1, u1, U2, u2, U3, u3, A1, c1, A2, c2, A3, c3, SA, sc, BA, bc, m, hK, -⟩ := h
  exact hK.below
theorem SesS.endedAt {w0 w : World} {g : Nat} {s : SS} (h : SesS w0 g s w) : w.cell? ⟨g, 16, none⟩ = some (.bool s.ended) := by
  obtain ⟨U1, u1, U2, u2, U3, u3, A1, c1, A2, c2, A3, c3, SA, sc, BA, bc, m, hK, -⟩ := h
  exact hK.blkAt.1 16
set_option maxRecDepth 100000 in
set_option maxHeartbeats 6400000 in
theorem l24Run_any (A : Option Addr) (n c : Nat) (ss : List ByteArray) (w : World) (hr : RL StrM 1 w A n ss) (hn : n ≤ 100) (hsz : ∀ s ∈ ss, s.size ≤ 1048576) :
    Calls Tryd.prog 95 #[.slice A n c] w fun e w' => ∃ g, e = .returned (.tuple #[.pointer (some ⟨g, 0, none⟩), .int .i64 (runS (ss.map strB)).2.1, .int .i64 (runS (ss.map strB)).2.2]) ∧ SesS w g (runS (ss.map strB)).1 w' := by
  have hl := hr.1
  obtain ⟨RES, hRES⟩ : ∃ r, runS (ss.map strB) = r := ⟨_, rfl⟩
  rw [hRES]
  have HRES := Lib.hid hRES
  clear hRES
  have HR := Lib.hid (fun W (hW : Below w.heap.size w W) => hr.below steady_StrM hW)
  have HZ := Lib.hid hsz
  have hK0 := (((Kn.nil w).al [] 2).al [] 2).al [.int .i64 0, .slice none 0 0, .int .i64 0, .slice none 0 0, .int .i64 0, .slice none 0 0, .int .i64 0, .int .i64 0, .slice none 0 0, .int .i64 0, .slice none 0 0, .int .i64 0, .slice none 0 0, .int .i64 0, .slice (some ⟨w.heap.size, 0, none⟩) 0 0, .slice (some ⟨w.heap.size + 1, 0, none⟩) 0 0, .bool false] 97
  simp only [World.size_alloc] at hK0
  clear hsz hr
  match ss, hl with
  | [], hl =>
    have hn0 : n = 0 := hl.symm
    subst hn0
    have HQ := Lib.hid (show RES = (zSS, 0, 1) by rw [← HRES.out]; rfl)
    go_enter Tryd.func95, Tryd.ntmps95
    go_wp2_with fail
    refine bodyPost.kn hK0 ?_; intro w1 hK1
    go_ret3
    rw [HQ.out]
    exact ⟨_, rfl, sesS_zero hK1⟩
  | L :: tl, hl =>
    have hL := HZ.out L (List.mem_cons_self ..)
    have hn0 : 0 < n := by rw [← hl]; simp
    have hn1 : ((n : Int) == 0) = false := by rw [beq_eq_false_iff_ne]; omega
    have hn2 : (0 : Int) < (n : Int) := by omega
    have HL := Lib.hid hl
    have HX := Lib.hid (fun W (hW : Below w.heap.size w W) => show ∃ ad, A = some ad ∧ W.cell? ad = some (.string L) from by
      obtain ⟨ad, hA, hlt, hkl, hx⟩ := (HR.out W hW).at_ hn0
      refine ⟨ad, hA, ?_⟩
      have h : W.cell? (ad.add (0 * 1)) = some (.string L) := hx
      rw [show ad.add (0 * 1) = ad from by cases ad; simp [Addr.add]] at h
      exact h)
    clear hl
    rcases hbg : begins startB (strB L) with _ | _
    · have HQ : Hid (RES = (zSS, 0, 1)) := by
        simp only [Hid]
        rw [← HRES.out, List.map_cons, runS_cons, if_neg (by unfold startOk; rw [hbg]; simp)]
      have n1 := begins_no hbg
      change L.size ≤ 6 ∨ (6 < L.size ∧ ((L.extract 0 6).toList == [115, 116, 97, 114, 116, 32]) = false) at n1
      clear hbg
      rcases n1 with n1 | ⟨n1, f1⟩
      · have i1 : (L.size : Int) < 7 := by omega
        go_enter Tryd.func95, Tryd.ntmps95
        go_upto_region 2 with fail
        refine Code.wp.kn hK0 ?_; intro w1 hK1
        obtain ⟨ad, hA, hx0⟩ := HX.out w1 hK1.below
        subst hA
        go_wp2_with fail
        go_ret3
        rw [HQ.out]
        exact ⟨_, rfl, sesS_zero hK1⟩
      · have i1 : ¬ (L.size : Int) < 7 := by omega
        have i2 : (6 : Int) ≤ (L.size : Int) := by omega
        go_enter Tryd.func95, Tryd.ntmps95
        go_upto_region 2 with fail
        refine Code.wp.kn hK0 ?_; intro w1 hK1
        obtain ⟨ad, hA, hx0⟩ := HX.out w1 hK1.below
        subst hA
        go_wp2_with fail
        go_ret3
        rw [HQ.out]
        exact ⟨_, rfl, sesS_zero hK1⟩
    · obtain ⟨n1, f1⟩ := extract_beg hbg
      change 6 < L.size at n1
      have f1' : ((L.extract 0 6).toList == [115, 116, 97, 114, 116, 32]) = true := by rw [beq_iff_eq]; exact f1
      have i1 : ¬ (L.size : Int) < 7 := by omega
      have i2 : (6 : Int) ≤ (L.size : Int) := by omega
      obtain ⟨R, hR⟩ : ∃ R, L.extract 6 L.size = R := ⟨_, rfl⟩
      have hRB : strB R = (strB L).drop 6 := by rw [← hR]; exact strB_drop L 6
      have hRs : R.size ≤ 1048576 := by rw [← hR, extract_size]; omega
      have HRM := (fun W => specReadMachine_any R W hRs)
      have HQ0 := (show RES = if (rdM (strB R)).isSome then goS ⟨rdMach (strB R), rdMach (strB R), [], [], false⟩ 1 (tl.map strB) else (zSS, 0, 1) by
        rw [← HRES.out, List.map_cons, runS_cons]
        unfold startOk
        rw [hbg, hRB]; rfl)
      have hvt0 := rdm_good (bs := strB R)
      obtain ⟨t, htr⟩ : ∃ t, rdMach (strB R) = t := ⟨_, rfl⟩
      obtain ⟨rd, hrd⟩ : ∃ b, (rdM (strB R)).isSome = b := ⟨_, rfl⟩
      rw [htr, hrd] at HRM HQ0
      rw [htr, hrd] at hvt0
      replace HRM := Lib.hid HRM
      replace HQ0 := Lib.hid HQ0
      clear hbg hRB hRs htr hrd f1 n1
      go_enter Tryd.func95, Tryd.ntmps95
      go_upto_region 2 with fail
      refine Code.wp.kn hK0 ?_; intro w1 hK1
      obtain ⟨ad, hA, hx0⟩ := HX.out w1 hK1.below
      subst hA
      clear hK0
      go_wp2_with fail
      refine (HRM.out _).mono ?_; rintro e w3 ⟨A1, c1, A2, c2, A3, c3, rfl, hKn⟩
      have hK2 := hK1.join hKn
      clear hK1 hKn hx0
      obtain ⟨a1, a2, a3, -⟩ := hK2.cells
      rcases rd with _ | _
      · have HQ : Hid (RES = (zSS, 0, 1)) := HQ0.out
        have hK1 := (hK2.sel [3, 4, 5] 99 (by decide) (by decide)).al_ (.cells #[.int .i64 t.a.base, .slice A1 t.a.digits.length c1, .int .i64 t.b.base, .slice A2 t.b.digits.length c2, .int .i64 t.s.base, .slice A3 t.s.digits.length c3, .int .i64 t.carry] 95)
        clear hK2
        go_wp2_with fail
        go_ret3
        rw [HQ.out]
        exact ⟨_, rfl, sesS_zero hK1⟩
      · have HQ : Hid (RES = goS ⟨t, t, [], [], false⟩ 1 (tl.map strB)) := HQ0.out
        have hvt := hvt0 rfl
        have hz := sized_of hvt
        go_upto_region 7 with fail
        refine Code.wp.kn (hK2.al [.int .i64 t.a.base, .slice A1 t.a.digits.length c1, .int .i64 t.b.base, .slice A2 t.b.digits.length c2, .int .i64 t.s.base, .slice A3 t.s.digits.length c3, .int .i64 t.carry] 95) ?_; intro w4 hK4
        obtain ⟨g8, hg8⟩ : ∃ g, w3.heap.size = g := ⟨_, rfl⟩
        rw [hg8] at hK4 ⊢
        clear hg8 hK2 a1 a2 a3
        obtain ⟨b1, b2, b3, a1, a2, a3, -⟩ := hK4.cells
        have hKa := (((((((hK4.front 4 rfl).st 0 (.int .i64 t.a.base)).st 1 (.slice A1 t.a.digits.length c1)).st 2 (.int .i64 t.b.base)).st 3 (.slice A2 t.b.digits.length c2)).st 4 (.int .i64 t.s.base)).st 5 (.slice A3 t.s.digits.length c3)).st 6 (.int .i64 t.carry)
        go_wp2_with fail
        refine Calls.kn hKa ?_; intro w5 hK5
        clear hKa hK4 b1 b2 b3 a1 a2 a3
        refine (l10Own_any g8 t A1 A2 A3 c1 c2 c3 w5 ⟨box7at hK5 1 rfl, (hK5.front 4 rfl).riv, (hK5.front 3 rfl).riv, (hK5.front 2 rfl).riv⟩ hz).mono ?_
        rintro e w6 ⟨B1, d1, B2, d2, B3, d3, rfl, hKn⟩
        have hK6 := hK5.join hKn
        clear hK5 hKn
        obtain ⟨a1, a2, a3, -⟩ := hK6.cells
        have hKb := (((((((hK6.front 3 rfl).st 7 (.int .i64 t.a.base)).st 8 (.slice B1 t.a.digits.length d1)).st 9 (.int .i64 t.b.base)).st 10 (.slice B2 t.b.digits.length d2)).st 11 (.int .i64 t.s.base)).st 12 (.slice B3 t.s.digits.length d3)).st 13 (.int .i64 t.carry)
        go_upto_region 9 with fail
        refine Code.wp.kn hKb ?_; intro w7 hK7
        have hS0 := sesS_start hK7
        have hg0 : (SS.mk t t [] [] false).Good 1 := ⟨hvt, hvt, by simp, by simp⟩
        obtain ⟨RR, hRR⟩ : ∃ r, goS ⟨t, t, [], [], false⟩ 1 (tl.map strB) = r := ⟨_, rfl⟩
        rw [hRR] at HQ
        clear hKb hK6 hK7 a1 a2 a3
        go_wp2_with fail
        go_loopw [8, 9] (fun ii _ wr => ∃ (k : Nat) (s : SS), 1 ≤ k ∧ k ≤ n ∧ ii = .int .i64 k ∧ SesS w (w.heap.size + 1 + 1) s wr ∧ s.Good k ∧ goS s k (((L :: tl).map strB).drop k) = RR) (fun ii _ _ => n - (intOf ii).toNat)
        case atStart => exact ⟨1, _, Nat.le_refl _, hn0, rfl, hS0, hg0, hRR⟩
        case round =>
          clear hS0 hg0 hRR
          obtain ⟨k, s, k1, kn, rfl, hS, hg, hgo⟩ := hrel
          have hb := hS.below
          by_cases hkn : k < n
          · obtain ⟨ad', hA, hlt', hkl, hx⟩ := (HR.out wr hb).at_ hkn
            have hx0 : wr.cell? (ad'.add k) = some (.string (L :: tl)[k]) := by have h : wr.cell? (ad'.add (k * 1)) = some (.string (L :: tl)[k]) := hx; rw [Nat.mul_one] at h; exact h
            have hLk := HZ.out _ (List.getElem_mem hkl)
            have hdr : ((L :: tl).map strB).drop k = strB (L :: tl)[k] :: ((L :: tl).map strB).drop (k + 1) := by
              rw [List.drop_eq_getElem_cons (by rw [List.length_map]; exact hkl), List.getElem_map]
            obtain ⟨Lk, hLe⟩ : ∃ x, (L :: tl)[k] = x := ⟨_, rfl⟩
            rw [hLe] at hx0 hLk hdr
            rw [hdr, goS_cons] at hgo
            injection hA with hA
            subst hA
            have hgn := lineS_good (i := k) (bs := strB Lk) hg
            have KL := (lineR_any s k Lk wr hS hg (by omega) hLk)
            obtain ⟨⟨s', cd⟩, hls⟩ : ∃ r, lineS s k (strB Lk) = r := ⟨_, rfl⟩
            rw [hls] at KL hgo hgn
            have KL := Lib.hid KL
            have HGO := Lib.hid hgo
            have HGN := Lib.hid hgn
            have hi0 : (0 : Int) ≤ (k : Int) := by omega
            have hi1 : (k : Int) < (n : Int) := by omega
            clear hls hgo hgn hS hg hx hLe hdr
            rcases hcd : (cd == 0) with _ | _
            · go_wp2_with fail
              refine KL.out.mono ?_; rintro e w6 ⟨rfl, hS6⟩
              go_wp2_with fail
              go_ret3
              have h1 := HGO.out
              rw [if_pos (by simpa using hcd)] at h1
              rw [HQ.out, ← h1]
              exact ⟨_, rfl, hS6⟩
            · obtain rfl : cd = 0 := by simpa using hcd
              go_wp2_with fail
              refine KL.out.mono ?_; rintro e w6 ⟨rfl, hS6⟩
              go_wp2_with fail
              go_roundw
              case rel =>
                have h1 := HGO.out
                rw [if_neg (by simp)] at h1
                exact ⟨k + 1, s', by omega, by omega, by go_num, hS6, HGN.out, h1⟩
              case measure => simp [intOf]; omega
          · obtain rfl : k = n := by omega
            have hi1 : ¬ (k : Int) < (k : Int) := by omega
            rw [List.drop_eq_nil_of_le (by rw [List.length_map]; have := HL.out; omega), goS_nil] at hgo
            have he := hS.endedAt
            have HGO := Lib.hid hgo
            have HS := Lib.hid hS
            clear hgo hS
            rcases hen : s.ended with _ | _
            · rw [hen] at he
              go_wp2_with fail
              go_ret3
              have h1 := HGO.out
              rw [hen, if_neg (by decide)] at h1
              rw [HQ.out, ← h1]
              exact ⟨_, rfl, HS.out⟩
            · rw [hen] at he
              go_wp2_with fail
              go_ret3
              have h1 := HGO.out
              rw [hen, if_pos rfl] at h1
              rw [HQ.out, ← h1]
              exact ⟨_, rfl, HS.out⟩
/-- what a whole session gives (the program) -/
def WholeI (bs : List (List UInt8)) (w : World) (e : Ending) (w' : World) : Prop :=
  (wholeC bs = 0 ∧ ∃ g, e = .returned (.tuple #[.pointer (some ⟨g, 0, none⟩), .int .i64 0]) ∧ SesI [] w g (runS bs).1 w') ∨
  (wholeC bs ≠ 0 ∧ e = .returned (.tuple #[.pointer none, .int .i64 (wholeC bs)]) ∧ Below w.heap.size w w')
/-- the same (the reference) -/
def WholeS (bs : List (List UInt8)) (w : World) (e : Ending) (w' : World) : Prop :=
  (wholeC bs = 0 ∧ ∃ g, e = .returned (.tuple #[.pointer (some ⟨g, 0, none⟩), .int .i64 0]) ∧ SesS w g (runS bs).1 w') ∨
  (wholeC bs ≠ 0 ∧ ∃ g, e = .returned (.tuple #[.pointer (some ⟨g, 0, none⟩), .int .i64 (wholeC bs)]) ∧ Below w.heap.size w w')
theorem wholeSession_any (A : Option Addr) (n c : Nat) (ss : List ByteArray) (w : World) (hr : RL StrM 1 w A n ss) (hsz : ∀ s ∈ ss, s.size ≤ 1048576) (ht : TB w) :
    Calls Tryd.prog 66 #[.slice A n c] w (WholeI (ss.map strB) w) := by
  have hl := hr.1
  by_cases hn : n ≤ 100
  · have hi : ¬ (100 : Int) < (n : Int) := by omega
    have KR := (runSession_any A n c ss w hr hn hsz ht)
    have hC := Lib.hid (show wholeC (ss.map strB) = if (runS (ss.map strB)).2.2 = 0 then 0 else 8 by unfold wholeC; rw [List.length_map, if_neg (by omega)])
    unfold WholeI
    obtain ⟨⟨s, at_, cd⟩, hR⟩ : ∃ r, runS (ss.map strB) = r := ⟨_, rfl⟩
    rw [hR] at KR hC ⊢
    obtain ⟨C, hCC⟩ : ∃ C, wholeC (ss.map strB) = C := ⟨_, rfl⟩
    rw [hCC] at hC ⊢
    have KR := Lib.hid KR
    clear hR hCC hr hsz ht
    rcases hcd : (cd == 0) with _ | _
    · have HC : Hid (C = 8) := by simp only [Hid]; rw [hC.out, if_neg (by simpa using hcd)]
      go_enter Tryd.func66, Tryd.ntmps66
      go_wp2_with fail
      refine KR.out.mono ?_; rintro e w1 ⟨g, rfl, hS⟩
      go_wp2_with fail
      go_ret2
      exact .inr ⟨by rw [HC.out]; decide, by rw [HC.out]; rfl, hS.below⟩
    · have HC : Hid (C = 0) := by simp only [Hid]; rw [hC.out, if_pos (by simpa using hcd)]
      obtain rfl : cd = 0 := by simpa using hcd
      go_enter Tryd.func66, Tryd.ntmps66
      go_wp2_with fail
      refine KR.out.mono ?_; rintro e w1 ⟨g, rfl, hS⟩
      go_wp2_with fail
      go_ret2
      exact .inl ⟨HC.out, g, rfl, hS⟩
  · have hi : (100 : Int) < (n : Int) := by omega
    have HC := Lib.hid (show wholeC (ss.map strB) = 5 by unfold wholeC; rw [List.length_map, if_pos (by omega)])
    unfold WholeI
    rw [HC.out]
    clear hr hsz ht
    go_enter Tryd.func66, Tryd.ntmps66
    go_wp2_with fail
    go_ret2
    exact .inr ⟨by decide, rfl, Below.refl _ _⟩
theorem l24Ask_any (A : Option Addr) (n c : Nat) (ss : List ByteArray) (w : World) (hr : RL StrM 1 w A n ss) (hsz : ∀ s ∈ ss, s.size ≤ 1048576) :
    Calls Tryd.prog 63 #[.slice A n c] w (WholeS (ss.map strB) w) := by
  have hl := hr.1
  by_cases hn : n ≤ 100
  · have hi : ¬ (100 : Int) < (n : Int) := by omega
    have KR := (l24Run_any A n c ss w hr hn hsz)
    have hC := Lib.hid (show wholeC (ss.map strB) = if (runS (ss.map strB)).2.2 = 0 then 0 else 8 by unfold wholeC; rw [List.length_map, if_neg (by omega)])
    unfold WholeS
    obtain ⟨⟨s, at_, cd⟩, hR⟩ : ∃ r, runS (ss.map strB) = r := ⟨_, rfl⟩
    rw [hR] at KR hC ⊢
    obtain ⟨C, hCC⟩ : ∃ C, wholeC (ss.map strB) = C := ⟨_, rfl⟩
    rw [hCC] at hC ⊢
    have KR := Lib.hid KR
    clear hR hCC hr hsz
    rcases hcd : (cd == 0) with _ | _
    · have HC : Hid (C = 8) := by simp only [Hid]; rw [hC.out, if_neg (by simpa using hcd)]
      go_enter Tryd.func63, Tryd.ntmps63
      go_wp2_with fail
      refine KR.out.mono ?_; rintro e w1 ⟨g, rfl, hS⟩
      go_wp2_with fail
      go_ret2
      exact .inr ⟨by rw [HC.out]; decide, g, by rw [HC.out]; rfl, hS.below⟩
    · have HC : Hid (C = 0) := by simp only [Hid]; rw [hC.out, if_pos (by simpa using hcd)]
      obtain rfl : cd = 0 := by simpa using hcd
      go_enter Tryd.func63, Tryd.ntmps63
      go_wp2_with fail
      refine KR.out.mono ?_; rintro e w1 ⟨g, rfl, hS⟩
      go_wp2_with fail
      go_ret2
      exact .inl ⟨HC.out, g, rfl, hS⟩
  · have hi : (100 : Int) < (n : Int) := by omega
    have HC := Lib.hid (show wholeC (ss.map strB) = 5 by unfold wholeC; rw [List.length_map, if_pos (by omega)])
    unfold WholeS
    rw [HC.out]
    clear hr hsz
    go_enter Tryd.func63, Tryd.ntmps63
    go_wp2_with fail
    go_ret2
    exact .inr ⟨by decide, _, rfl, (Below.refl _ _).alloc (Nat.le_refl _) _⟩
end Go.Proofs.YtgpmngcemnnpmaaDoor

namespace Go.Proofs.YtgpmngcemnnpmaaDoor
open Go.RowKit Go.Sort
/-! whole sessions, plainly -/
/-- what a line does to a machine -/
def stepM (t : Tri) (b : List UInt8) : Tri × Int :=
  if kindOf b ≠ 0 then ((strokeT (kindOf b) t).1, 0)
  else if b = endB then (t, 0)
  else if begins setB b then (if (rdDec (b.drop 4)).isSome && decide (0 ≤ rdN (b.drop 4) ∧ rdN (b.drop 4) < pw t.a.base t.a.digits.length) then (setT t (rdN (b.drop 4)), 0) else (t, 3))
  else if begins showB b then (if b.drop 5 = strB (mtextL t) then (t, 0) else (t, 4))
  else (t, 2)
theorem kind_end : kindOf endB = 0 := by decide
theorem lineS_step {s : SS} {i : Int} {b : List UInt8} (h : s.ended = false) : (lineS s i b).1.m = (stepM s.m b).1 ∧ (lineS s i b).2 = (stepM s.m b).2 ∧ (lineS s i b).1.ended = decide (b = endB) ∧ (lineS s i b).1.start = s.start := by
  unfold lineS stepM
  rw [if_neg (by rw [h]; decide)]
  by_cases hk : kindOf b = 0
  · have hk' : ¬ (kindOf b ≠ 0) := fun h => h hk
    rw [if_neg hk', if_neg hk']
    by_cases he : b = endB
    · rw [if_pos he, if_pos he]; simp [he]
    · rw [if_neg he, if_neg he]
      have hd : decide (b = endB) = false := decide_eq_false he
      rw [hd]
      rcases begins setB b with _ | _
      · simp only [Bool.false_eq_true, if_false]
        rcases begins showB b with _ | _
        · simp [h]
        · simp only [if_true]; split <;> simp [h]
      · simp only [if_true]; split <;> simp [h]
  · rw [if_pos hk, if_pos hk]
    have he : b ≠ endB := by rintro rfl; exact hk kind_end
    simp [he]
def foldT (t : Tri) (l : List (List UInt8)) : Tri := l.foldl (fun t b => (stepM t b).1) t
def AllOk : Tri → List (List UInt8) → Prop
  | _, [] => True
  | t, b :: l => (stepM t b).2 = 0 ∧ b ≠ endB ∧ AllOk (stepM t b).1 l
theorem goS_ended {s : SS} {i : Int} {l : List (List UInt8)} (h : s.ended = true) (h0 : (goS s i l).2.2 = 0) : l = [] := by
  cases l with
  | nil => rfl
  | cons b l =>
    rw [goS_cons, lineS_ended i b h] at h0
    rw [if_pos (show (5 : Int) ≠ 0 by decide)] at h0
    cases h0
/-- a whole session: its lines are fine, and the last one ends it -/
theorem goS_valid : ∀ {l : List (List UInt8)} {s : SS} {i : Int}, s.ended = false → (goS s i l).2.2 = 0 → ∃ body, l = body ++ [endB] ∧ AllOk s.m body ∧ (goS s i l).1.m = foldT s.m body ∧ (goS s i l).1.start = s.start
  | [], s, i, h, h0 => by
    rw [goS_nil, h, if_neg (by decide)] at h0
    cases h0
  | b :: l, s, i, h, h0 => by
    obtain ⟨e1, e2, e3, e4⟩ := lineS_step (i := i) (b := b) h
    by_cases hc : (lineS s i b).2 = 0
    · rw [goS_cons, if_neg (fun h => h hc)] at h0 ⊢
      by_cases he : b = endB
      · have hl := goS_ended (by rw [e3, decide_eq_true he]) h0
        subst hl
        refine ⟨[], by rw [he]; rfl, trivial, ?_, ?_⟩
        · rw [goS_nil, e3, decide_eq_true he, if_pos rfl, e1, he]
          show (stepM s.m endB).1 = s.m
          unfold stepM
          rw [if_neg (fun h => h kind_end), if_pos rfl]
        · rw [goS_nil, e3, decide_eq_true he, if_pos rfl, e4]
      · have he' : (lineS s i b).1.ended = false := by rw [e3, decide_eq_false he]
        obtain ⟨body, h1, h2, h3, h4⟩ := goS_valid (l := l) he' h0
        refine ⟨b :: body, by rw [h1]; rfl, ⟨e2.symm.trans hc, he, by rw [← e1]; exact h2⟩, ?_, by rw [h4, e4]⟩
        rw [h3, e1]; rfl
    · rw [goS_cons, if_pos hc] at h0
      exact absurd h0 hc
/-- fine lines without an end: the machine behind them -/
theorem goS_fold : ∀ {l : List (List UInt8)} {s : SS} {i : Int}, s.ended = false → AllOk s.m l → (goS s i l).1.m = foldT s.m l
  | [], s, i, h, _ => by rw [goS_nil, h, if_neg (by decide)]; rfl
  | b :: l, s, i, h, h0 => by
    obtain ⟨e1, e2, e3, e4⟩ := lineS_step (i := i) (b := b) h
    obtain ⟨h1, h2, h3⟩ := h0
    rw [goS_cons, if_neg (fun h => h (e2.trans h1))]
    rw [goS_fold (by rw [e3, decide_eq_false h2]) (by rw [e1]; exact h3), e1]; rfl
theorem foldT_ok : ∀ {l : List (List UInt8)} {t : Tri}, vmach t = true → vmach (foldT t l) = true
  | [], t, h => h
  | b :: l, t, h => by
    show vmach (foldT (stepM t b).1 l) = true
    refine foldT_ok ?_
    have hg : (SS.mk t t [] [] false).Good 0 := ⟨h, h, Nat.le_refl _, Nat.le_refl _⟩
    have := (lineS_good (i := 0) (bs := b) hg).m
    rw [(lineS_step (s := ⟨t, t, [], [], false⟩) (i := 0) (b := b) rfl).1] at this
    exact this
/-- a whole session, from its lines -/
theorem whole_parts {l : List (List UInt8)} (h : wholeC l = 0) : l.length ≤ 100 ∧ ∃ b0 body, l = b0 :: (body ++ [endB]) ∧ startOk b0 = true ∧ vmach (rdMach (b0.drop 6)) = true ∧ AllOk (rdMach (b0.drop 6)) body ∧ (runS l).1.m = foldT (rdMach (b0.drop 6)) body ∧ (runS l).1.start = rdMach (b0.drop 6) := by
  obtain ⟨h1, h2⟩ := wholeC_ok h
  refine ⟨h1, ?_⟩
  match l, h2 with
  | [], h2 => simp [runS] at h2
  | b :: t, h2 =>
    rw [runS_cons] at h2 ⊢
    rcases hs : startOk b with _ | _
    · rw [hs, if_neg (by decide)] at h2; cases h2
    · rw [hs, if_pos rfl] at h2
      obtain ⟨body, e1, e2, e3, e4⟩ := goS_valid (s := ⟨rdMach (b.drop 6), rdMach (b.drop 6), [], [], false⟩) rfl h2
      have hv : vmach (rdMach (b.drop 6)) = true := by
        unfold startOk at hs
        rw [Bool.and_eq_true] at hs
        exact rdm_good hs.2
      rw [if_pos rfl]
      exact ⟨b, body, by rw [e1], hs, hv, e2, e3, e4⟩
theorem show_step {t : Tri} {b : List UInt8} (h : begins showB b = true) (h0 : (stepM t b).2 = 0) : (stepM t b).1 = t := by
  have h0 := h0
  unfold stepM at h0 ⊢
  by_cases hk : kindOf b = 0
  · have hk' : ¬ (kindOf b ≠ 0) := fun h => h hk
    rw [if_neg hk'] at h0 ⊢
    rw [if_neg (begins_ne h (by decide)), show_not_set h, if_neg (by decide), if_pos h] at h0 ⊢
    split <;> rfl
  · have hkk := kindOf_name hk
    have hb := (begins_iff.1 h).1
    have : b.length ≤ 5 := by rw [← hkk, strB_len]; exact sname_len _
    change 5 < b.length at hb
    omega
/-- the bytes "show " alone are no line of a session -/
theorem show_alone {t : Tri} (h : (stepM t showB).2 = 0) : False := by
  have : stepM t showB = (t, 2) := by
    unfold stepM
    rw [if_neg (by decide), if_neg (by decide), if_neg (by decide), if_neg (by decide)]
  rw [this] at h
  cases h
/-- is a line one that shows? (the reference's test) -/
def isShow (b : List UInt8) : Bool := decide (5 ≤ b.length) && decide (b.take 5 = showB)
theorem isShow_eq {t : Tri} {b : List UInt8} (h : (stepM t b).2 = 0) : isShow b = begins showB b := by
  unfold isShow begins
  by_cases h5 : b.length = 5
  · by_cases hb : b.take 5 = showB
    · rw [List.take_of_length_le (by omega)] at hb
      subst hb
      exact (show_alone h).elim
    · show (_ && decide (b.take 5 = showB)) = (_ && decide (b.take 5 = showB))
      rw [decide_eq_false hb]; simp
  · show (decide (5 ≤ b.length) && _) = (decide (5 < b.length) && _)
    have : decide (5 ≤ b.length) = decide (5 < b.length) := by
      by_cases h6 : 5 < b.length
      · rw [decide_eq_true h6, decide_eq_true (by omega)]
      · rw [decide_eq_false h6, decide_eq_false (by omega)]
    rw [this]; rfl
theorem isShow_end : isShow endB = false := by decide
theorem start_not_show {b : List UInt8} (h : startOk b = true) : begins showB b = false ∧ isShow b = false := by
  unfold startOk at h
  rw [Bool.and_eq_true] at h
  have h1 := (begins_iff.1 h.1).2
  have h2 : b.take 5 = startB.take 5 := by rw [← h1, List.take_take]; rfl
  constructor
  · unfold begins
    have : ¬ b.take showB.length = showB := by
      show ¬ b.take 5 = showB
      rw [h2]; decide
    rw [decide_eq_false this]; simp
  · unfold isShow
    rw [h2]
    have : decide (startB.take 5 = showB) = false := by decide
    rw [this]; simp
end Go.Proofs.YtgpmngcemnnpmaaDoor

namespace Go.Proofs.YtgpmngcemnnpmaaDoor
open Go.RowKit Go.Sort
/-! the shown session, plainly -/
def endW : ByteArray := ⟨#[101, 110, 100]⟩
def showT (t : Tri) : ByteArray := showW ++ mtext t
/-- what follows in the shown session, behind the first line -/
def restL (t : Tri) : List ByteArray → List ByteArray
  | [] => []
  | b :: r => if r = [] then [b] else if begins showB (strB b) then restL t r else b :: showT (stepM t (strB b)).1 :: restL (stepM t (strB b)).1 r
/-- the same of lines none of which shows -/
def restP (t : Tri) : List ByteArray → List ByteArray
  | [] => []
  | b :: r => if r = [] then [b] else b :: showT (stepM t (strB b)).1 :: restP (stepM t (strB b)).1 r
def notShow (b : ByteArray) : Bool := !isShow (strB b)
/-- lines that are fine, and the end behind them -/
def OkEnd (t : Tri) (l : List ByteArray) : Prop := ∃ body, l = body ++ [endW] ∧ AllOk t (body.map strB)
theorem endW_of {E : ByteArray} (h : strB E = endB) : E = endW := by
  have : endW = E := str_eq.2 (show ([101, 110, 100] : List UInt8) = strB E from h.symm)
  exact this.symm
theorem OkEnd.cons {t : Tri} {b : ByteArray} {r : List ByteArray} (h : OkEnd t (b :: r)) (hr : r ≠ []) : (stepM t (strB b)).2 = 0 ∧ strB b ≠ endB ∧ OkEnd (stepM t (strB b)).1 r := by
  obtain ⟨body, h1, h2⟩ := h
  cases body with
  | nil =>
    simp only [List.nil_append, List.cons.injEq] at h1
    exact absurd h1.2 hr
  | cons c body =>
    simp only [List.cons_append, List.cons.injEq] at h1
    obtain ⟨rfl, rfl⟩ := h1
    exact ⟨h2.1, h2.2.1, body, rfl, h2.2.2⟩
theorem OkEnd.last {t : Tri} {b : ByteArray} (h : OkEnd t [b]) : b = endW := by
  obtain ⟨body, h1, h2⟩ := h
  cases body with
  | nil => simpa using h1
  | cons c body => simp at h1
theorem OkEnd.ne {t : Tri} {l : List ByteArray} (h : OkEnd t l) : l ≠ [] := by
  obtain ⟨body, h1, -⟩ := h
  rw [h1]; simp
theorem whole_lines {ss : List ByteArray} (h : wholeC (ss.map strB) = 0) : ss.length ≤ 100 ∧ ∃ L tl, ss = L :: tl ∧ startOk (strB L) = true ∧ vmach (rdMach ((strB L).drop 6)) = true ∧ OkEnd (rdMach ((strB L).drop 6)) tl ∧ (runS (ss.map strB)).1.start = rdMach ((strB L).drop 6) := by
  obtain ⟨h1, b0, body, h2, h3, h4, h5, h6, h7⟩ := whole_parts h
  rw [List.length_map] at h1
  refine ⟨h1, ?_⟩
  match ss, h2, h7 with
  | L :: tl, g2, h7 =>
    simp only [List.map_cons, List.cons.injEq] at g2
    obtain ⟨rfl, g3⟩ := g2
    refine ⟨L, tl, rfl, h3, h4, ?_, h7⟩
    obtain ⟨l1, l2, rfl, e1, e2⟩ := List.map_eq_append_iff.1 g3
    have hl2 : l2.length = 1 := by have := congrArg List.length e2; simpa using this
    obtain ⟨E, rfl⟩ := List.length_eq_one_iff.1 hl2
    have e3 : strB E = endB := by simpa using e2
    exact ⟨l1, by rw [endW_of e3], by rw [e1]; exact h5⟩
theorem endW_notShow : notShow endW = true := by decide
/-- the lines that do not show, and the machine -/
theorem rest_plain : ∀ {l : List ByteArray} {t : Tri}, OkEnd t l → restL t l = restP t (l.filter notShow) ∧ OkEnd t (l.filter notShow)
  | [], t, h => absurd rfl h.ne
  | [b], t, h => by
    have hb := h.last
    subst hb
    have hf : [endW].filter notShow = [endW] := by rw [List.filter_cons_of_pos endW_notShow, List.filter_nil]
    rw [hf]
    exact ⟨by unfold restL restP; simp, h⟩
  | b :: c :: r, t, h => by
    obtain ⟨h1, h2, h3⟩ := h.cons (by simp)
    obtain ⟨ih1, ih2⟩ := rest_plain h3
    have hs : notShow b = !begins showB (strB b) := by unfold notShow; rw [isShow_eq h1]
    rcases hb : begins showB (strB b) with _ | _
    · rw [hb] at hs
      rw [List.filter_cons_of_pos (by rw [hs]; rfl)]
      have hne := ih2.ne
      refine ⟨?_, ?_⟩
      · have e1 : restL t (b :: c :: r) = b :: showT (stepM t (strB b)).1 :: restL (stepM t (strB b)).1 (c :: r) := by
          conv => lhs; unfold restL
          rw [if_neg (by simp), hb, if_neg (by decide)]
        have e2 : restP t (b :: (c :: r).filter notShow) = b :: showT (stepM t (strB b)).1 :: restP (stepM t (strB b)).1 ((c :: r).filter notShow) := by
          conv => lhs; unfold restP
          rw [if_neg hne]
        rw [e1, e2, ih1]
      · obtain ⟨body, e, ok⟩ := ih2
        exact ⟨b :: body, by rw [e]; rfl, h1, h2, ok⟩
    · rw [hb] at hs
      rw [List.filter_cons_of_neg (by rw [hs]; decide)]
      have ht := show_step hb h1
      rw [ht] at ih1 ih2
      refine ⟨?_, ih2⟩
      have e1 : restL t (b :: c :: r) = restL t (c :: r) := by
        conv => lhs; unfold restL
        rw [if_neg (by simp), hb, if_pos rfl]
      rw [e1, ih1]
/-- the shown session, and its code -/
def shL (ss : List ByteArray) : List ByteArray := match ss with | [] => [] | L :: tl => L :: restL (rdMach ((strB L).drop 6)) tl
def shC (ss : List ByteArray) : Int := if wholeC (ss.map strB) = 0 then (if (shL ss).length > 100 then 5 else 0) else wholeC (ss.map strB)
def shR (ss : List ByteArray) : List ByteArray := if shC ss = 0 then shL ss else []
theorem shR_len (ss : List ByteArray) : (shR ss).length ≤ 100 := by
  unfold shR
  split
  · rename_i h
    unfold shC at h
    split at h
    · split at h
      · cases h
      · omega
    · rename_i h'; exact absurd h h'
  · simp
/-- a row of strings, of its own length -/
def rowT (A : Option Addr) (c : Nat) (ss : List ByteArray) : Ent := rowSN A ss.length c ss
/-- strings and a code -/
def SCRet (l : List ByteArray) (C : Int) (w : World) (e : Ending) (w' : World) : Prop := ∃ X x, e = .returned (.tuple #[.slice X l.length x, .int .i64 C]) ∧ Kn w [rowT X x l] w'
theorem SCRet.none {C : Int} {w w' : World} (h : Below w.heap.size w w') : SCRet [] C w (.returned (.tuple #[.slice none 0 0, .int .i64 C])) w' :=
  ⟨_, _, rfl, ((Kn.nil w).keep h).nilRow _ _⟩
theorem AllOk.take : ∀ {l : List (List UInt8)} {t : Tri} (k : Nat), AllOk t l → AllOk t (l.take k)
  | [], t, k, h => by rw [List.take_nil]; trivial
  | b :: l, t, 0, h => trivial
  | b :: l, t, k + 1, h => ⟨h.1, h.2.1, AllOk.take k h.2.2⟩
theorem restL_len : ∀ (l : List ByteArray) (t : Tri), (restL t l).length ≤ 2 * l.length
  | [], t => by simp [restL]
  | b :: r, t => by
    unfold restL
    have h1 := restL_len r t
    have h2 := restL_len r (stepM t (strB b)).1
    split
    · simp; omega
    · split
      · simp only [List.length_cons]; omega
      · simp only [List.length_cons]; omega
end Go.Proofs.YtgpmngcemnnpmaaDoor
