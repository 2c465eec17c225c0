/- Part 8: lemmas and contracts of the claim's functions. -/
import Derived.Test.YtmmiahgmdllgdaaGreatDoorZC1
import Derived.Test.YtmmiahgmdllgdaaGreatDoorZC2
import Derived.Test.YtmmiahgmdllgdaaGreatDoorZC3
import Derived.Test.YtmmiahgmdllgdaaGreatDoorZC4
import Derived.Test.YtmmiahgmdllgdaaGreatDoorZC5
import Derived.Test.YtmmiahgmdllgdaaGreatDoorZC6
import Derived.Test.YtmmiahgmdllgdaaGreatDoorZC7
import Derived.Deep.RegionHeld3
import Derived.Deep.DeepCutAuto
import Derived.Deep.RegionLaw
import Derived.Deep.AppendLies
import Derived.Maps.OwnOps
import Derived.Maps.OwnSet
import Derived.Maps.Views
namespace Go.Proofs.YtmmiahgmdllgdaaGreatDoor
open Go.RowKit Go.Sort
theorem keptU_succ (bel : List Int) (ss : List ByteArray) (k : Nat) : keptU bel ss (k + 1) = stepKp bel (keptU bel ss k) k (ss.getD k ByteArray.empty) := rfl
theorem kept_inv {L : ByteArray} {body : List ByteArray} {t0 : Tri} {bel : List Int} (hs : kindOf (strB L) = 0) (hv : vmach t0 = true) (hok : AllOk t0 (body.map strB)) (hb : bel = belL t0 1 (body.map strB)) :
    ∀ k, k ≤ body.length → ∃ K, keptU bel (L :: (body ++ [endW])) (k + 1) = ⟨0, L⟩ :: K ∧ KInv t0 bel (foldT t0 ((body.take k).map strB)) K
  | 0, _ => ⟨[], rfl, trivial, rfl, fun q h => by simp at h, fun q h => by simp at h⟩
  | k + 1, hk => by
    obtain ⟨K, e1, hK⟩ := kept_inv hs hv hok hb k (by omega)
    have hkl : k < body.length := by omega
    obtain ⟨b, hbk⟩ : ∃ b, body[k] = b := ⟨_, rfl⟩
    have hsplit : body = body.take k ++ b :: body.drop (k + 1) := by
      rw [← hbk, List.getElem_cons_drop, List.take_append_drop]
    have hget : (L :: (body ++ [endW])).getD (k + 1) ByteArray.empty = b := by
      rw [List.getD_eq_getElem?_getD, List.getElem?_cons_succ, List.getElem?_append_left hkl, List.getElem?_eq_getElem hkl, hbk]; rfl
    obtain ⟨T, hT⟩ : ∃ T, foldT t0 ((body.take k).map strB) = T := ⟨_, rfl⟩
    have hT2 : foldT t0 ((body.take (k + 1)).map strB) = (stepM T (strB b)).1 := by
      rw [List.take_succ_eq_append_getElem hkl, hbk, List.map_append, foldT_append, hT]; rfl
    have hok2 := hok
    rw [hsplit, List.map_append, AllOk.append, hT] at hok2
    obtain ⟨-, s1, s2, -⟩ := hok2
    have hring : rings T (strB b) = decide (((k + 1 : Nat) : Int) ∈ bel) := by
      have h1 := mem_belL (body.map strB) t0 1 k
      have h2 : ringAt t0 (body.map strB) k = rings T (strB b) := by
        have h3 := ringAt_at (l := (body.take k).map strB) (m := (body.drop (k + 1)).map strB) (b := strB b) (t := t0)
        rw [List.length_map, List.length_take, Nat.min_eq_left (by omega), hT] at h3
        rw [← h3]
        congr 1
        conv => lhs; rw [hsplit]
        rw [List.map_append]; rfl
      rw [← hb, h2, show (1 : Int) + (k : Int) = ((k + 1 : Nat) : Int) by omega] at h1
      rw [Bool.eq_iff_iff, ← h1, decide_eq_true_eq]
    rw [keptU_succ, e1, hget]
    rw [hT] at hK
    rw [hT2]
    rcases List.eq_nil_or_concat K with rfl | ⟨K0, x, rfl⟩
    · refine ⟨[⟨k + 1, b⟩], ?_, hK.push (x := ⟨k + 1, b⟩) s1 s2 hring (fun K0 y h => by simp at h)⟩
      unfold stepKp
      rw [if_neg]
      · rfl
      · have h := lastUndo_app bel [] ⟨0, L⟩ (k + 1) b
        rw [List.nil_append] at h
        rw [h]
        unfold pairU
        rw [undoB_start hs]
        simp
    · rw [List.concat_eq_append] at hK ⊢
      have hl := lastUndo_app bel (⟨0, L⟩ :: K0) x (k + 1) b
      rcases hp : pairU bel x ⟨k + 1, b⟩ with _ | _
      · refine ⟨K0 ++ [x] ++ [⟨k + 1, b⟩], ?_, hK.push (x := ⟨k + 1, b⟩) s1 s2 hring (fun K1 y h => ?_)⟩
        · unfold stepKp
          rw [if_neg]
          · rfl
          · rw [List.cons_append] at hl
            rw [hl, hp]; decide
        · have := (List.append_inj' h rfl).2
          simp only [List.cons.injEq, and_true] at this
          rw [← this]; exact hp
      · obtain ⟨hK0, hr, hTS⟩ := hK.pop
        obtain ⟨S, hS⟩ : ∃ S, foldT t0 (txt K0) = S := ⟨_, rfl⟩
        have hvS : vmach S = true := by rw [← hS]; exact foldT_ok hv
        rw [hS] at hK0 hr hTS
        unfold pairU at hp
        rw [Bool.and_eq_true, Bool.and_eq_true] at hp
        obtain ⟨⟨hu, hx⟩, hy⟩ := hp
        rw [Bool.not_eq_true'] at hx
        rw [hx] at hr
        unfold undoB at hu
        rw [Bool.and_eq_true, decide_eq_true_eq, beq_iff_eq] at hu
        obtain ⟨hkx, hkb⟩ := hu
        change backK (kindOf (strB x.text)) = kindOf (strB b) at hkb
        have hk0 : kindOf (strB x.text) ≠ 0 := by omega
        have hbb := backK_bd' hkx
        have hkb0 : kindOf (strB b) ≠ 0 := by omega
        unfold rings at hr
        rw [decide_eq_true hk0, Bool.true_and] at hr
        have hst := stroke_back hvS hkx
        rw [if_neg (fun h => by rw [hr] at h; cases h.1)] at hst
        have e2 : (stepM S (strB x.text)).1 = (strokeT (kindOf (strB x.text)) S).1 := by unfold stepM; rw [if_pos hk0]
        have e3 : (stepM T (strB b)).1 = (strokeT (kindOf (strB b)) T).1 := by unfold stepM; rw [if_pos hkb0]
        refine ⟨K0, ?_, ?_⟩
        · unfold stepKp
          rw [if_pos]
          · rw [show (⟨0, L⟩ :: (K0 ++ [x]) : List Kept) = (⟨0, L⟩ :: K0) ++ [x] from rfl, List.dropLast_concat]
          · rw [List.cons_append] at hl
            rw [hl]
            unfold pairU undoB
            rw [decide_eq_true hkx, hx]
            change (true && (backK (kindOf (strB x.text)) == kindOf (strB b)) && !false && !(decide (((k + 1 : Nat) : Int) ∈ bel))) = true
            rw [hkb]
            simpa using hy
        · rw [e3, ← hkb, hTS, e2, hst]
          exact hK0
/-- the short session, in parts -/
theorem short_parts {L : ByteArray} {body : List ByteArray} (hs : startOk (strB L) = true) (hv : vmach (rdMach ((strB L).drop 6)) = true) (hok : AllOk (rdMach ((strB L).drop 6)) (body.map strB)) (hw : wholeC ((L :: (body ++ [endW])).map strB) = 0) :
    ∃ K, shoL (L :: (body ++ [endW])) = L :: (K.map Kept.text ++ [endW]) ∧ K.length ≤ body.length ∧ KInv (rdMach ((strB L).drop 6)) (belL (rdMach ((strB L).drop 6)) 1 (body.map strB)) (foldT (rdMach ((strB L).drop 6)) (body.map strB)) K := by
  have hk0 := start_kind hs
  obtain ⟨K, e1, hK⟩ := kept_inv (L := L) hk0 hv hok rfl body.length (Nat.le_refl _)
  rw [List.take_length] at hK
  have hbel : (runS ((L :: (body ++ [endW])).map strB)).1.bel = belL (rdMach ((strB L).drop 6)) 1 (body.map strB) := by
    rw [List.map_cons, map_endW]
    exact (runS_make hs hok).2.2.2
  have hlen := keptU_len (belL (rdMach ((strB L).drop 6)) 1 (body.map strB)) (L :: (body ++ [endW])) (body.length + 1)
  rw [e1, List.length_cons] at hlen
  refine ⟨K, ?_, by omega, hK⟩
  unfold shoL
  rw [if_pos hw, hbel]
  have hl : (L :: (body ++ [endW])).length = body.length + 1 + 1 := by simp
  have hget : (L :: (body ++ [endW])).getD (body.length + 1) ByteArray.empty = endW := by
    rw [List.getD_eq_getElem?_getD, List.getElem?_cons_succ]; simp
  rw [hl, keptU_succ, e1, hget]
  unfold stepKp
  rw [if_neg]
  · rw [List.map_append]; rfl
  · rcases List.eq_nil_or_concat K with rfl | ⟨K0, x, rfl⟩
    · have h := lastUndo_app (belL (rdMach ((strB L).drop 6)) 1 (body.map strB)) [] ⟨0, L⟩ (body.length + 1) endW
      rw [List.nil_append] at h
      rw [h]; unfold pairU
      rw [undoB_start hk0]; simp
    · have h := lastUndo_app (belL (rdMach ((strB L).drop 6)) 1 (body.map strB)) (⟨0, L⟩ :: K0) x (body.length + 1) endW
      rw [List.cons_append] at h
      rw [List.concat_eq_append, h]; unfold pairU
      rw [strB_endW, undoB_end]; simp
theorem map_txt (K : List Kept) : (K.map Kept.text).map strB = txt K := by unfold txt; rw [List.map_map]; rfl
theorem short_agree {ss : List ByteArray} (hw : wholeC (ss.map strB) = 0) : saB (ss.map strB) ((shoL ss).map strB) = true ∧ (shoL ss).length ≤ ss.length ∧ wholeC ((shoL ss).map strB) = 0 := by
  obtain ⟨L, body, rfl, n1, hs, hv, hok⟩ := whole_body hw
  obtain ⟨K, e1, e2, hK⟩ := short_parts hs hv hok hw
  rw [e1]
  rw [List.map_cons, map_endW, List.map_cons, map_endW, map_txt]
  refine ⟨saB_make hs hok hK.ok (by rw [List.length_map]; exact n1) (by rw [txt_len]; omega) hK.fold.symm, ?_, whole_make hs hK.ok (by rw [txt_len]; omega)⟩
  simp only [List.length_cons, List.length_append, List.length_map, List.length_nil]
  omega
/-- a session that is short stays so -/
theorem short_again {ss : List ByteArray} (hw : wholeC (ss.map strB) = 0) : shoL (shoL ss) = shoL ss := by
  have hw2 := (short_agree hw).2.2
  obtain ⟨L, body, rfl, n1, hs, hv, hok⟩ := whole_body hw
  obtain ⟨K, e1, e2, hK⟩ := short_parts hs hv hok hw
  rw [e1] at hw2 ⊢
  have hbel : (runS ((L :: (K.map Kept.text ++ [endW])).map strB)).1.bel = belL (rdMach ((strB L).drop 6)) 1 (txt K) := by
    rw [List.map_cons, map_endW, map_txt]
    exact (runS_make hs hK.ok).2.2.2
  unfold shoL
  rw [if_pos hw2, hbel]
  obtain ⟨S, hS⟩ : ∃ S, L :: (K.map Kept.text ++ [endW]) = S := ⟨_, rfl⟩
  have hSl : S.length = K.length + 2 := by rw [← hS]; simp
  have hS0 : S.getD 0 ByteArray.empty = L := by rw [← hS]; rfl
  have hSq : ∀ q (h : q < K.length), S.getD (q + 1) ByteArray.empty = K[q].text := fun q h => by
    rw [← hS, List.getD_eq_getElem?_getD, List.getElem?_cons_succ, List.getElem?_append_left (by rw [List.length_map]; exact h), List.getElem?_map, List.getElem?_eq_getElem h]; rfl
  have hSe : S.getD (K.length + 1) ByteArray.empty = endW := by
    rw [← hS, List.getD_eq_getElem?_getD, List.getElem?_cons_succ, List.getElem?_append_right (by simp)]; simp
  obtain ⟨bl, hbl⟩ : ∃ b, belL (rdMach ((strB L).drop 6)) 1 (txt K) = b := ⟨_, rfl⟩
  have hmem : ∀ q (h : q < K.length), decide (((q + 1 : Nat) : Int) ∈ bl) = decide ((K[q].at_ : Int) ∈ belL (rdMach ((strB L).drop 6)) 1 (body.map strB)) := fun q h => by
    rw [← hK.bell q h, Bool.eq_iff_iff, decide_eq_true_eq, ← mem_belL (txt K) _ 1 q, hbl, show (1 : Int) + (q : Int) = ((q + 1 : Nat) : Int) by omega]
  have hkept : ∀ k, k ≤ S.length → keptU bl S k = (List.range k).map (fun i => ⟨i, S.getD i ByteArray.empty⟩) := fun k hk => by
    induction k with
    | zero => rfl
    | succ k ih =>
      rw [keptU_succ, ih (by omega), List.range_succ, List.map_append]
      unfold stepKp
      rw [if_neg]
      · rfl
      · rcases Nat.eq_zero_or_pos k with rfl | hk0
        · simp [lastUndo_nil2]
        · obtain ⟨j, rfl⟩ : ∃ j, k = j + 1 := ⟨k - 1, by omega⟩
          rw [List.range_succ, List.map_append]
          have h := lastUndo_app bl ((List.range j).map (fun i => (⟨i, S.getD i ByteArray.empty⟩ : Kept))) ⟨j, S.getD j ByteArray.empty⟩ (j + 1) (S.getD (j + 1) ByteArray.empty)
          rw [List.map_cons, List.map_nil, h]
          unfold pairU
          rcases Nat.eq_zero_or_pos j with rfl | hj0
          · show ¬ (undoB (strB (S.getD 0 ByteArray.empty)) _ && _ && _) = true
            rw [hS0, undoB_start (start_kind hs)]; simp
          · obtain ⟨q, rfl⟩ : ∃ q, j = q + 1 := ⟨j - 1, by omega⟩
            by_cases hq : q + 1 < K.length
            · have hr := hK.red q hq
              unfold pairU at hr
              rw [← hmem q (by omega), ← hmem (q + 1) hq] at hr
              dsimp only
              rw [hSq q (by omega), hSq (q + 1) hq, hr]; decide
            · have : q + 1 = K.length := by omega
              dsimp only
              rw [this, hSe, strB_endW, undoB_end]; simp
  rw [hbl, hS, hkept S.length (Nat.le_refl _), List.map_map]
  refine List.ext_getElem (by simp) fun i h1 h2 => ?_
  simp [List.getD, h2]
end Go.Proofs.YtmmiahgmdllgdaaGreatDoor

namespace Go.Proofs.YtmmiahgmdllgdaaGreatDoor
open Go.RowKit Go.Sort
/-! sums and differences of registers, plainly -/
def vx (b : Int) : List Int → Int
  | [] => 0
  | d :: ds => vx b ds * b + d
theorem vx_bd {b : Int} (hb : 2 ≤ b) : ∀ {ds : List Int}, (∀ d ∈ ds, 0 ≤ d ∧ d < b) → 0 ≤ vx b ds ∧ vx b ds < pw b ds.length
  | [], _ => by simp [vx, pw]
  | d :: ds, h => by
    have ih := vx_bd hb (ds := ds) (fun x hx => h x (List.mem_cons_of_mem _ hx))
    have hd := h d (List.mem_cons_self ..)
    rw [vx, List.length_cons, pw_succ]
    have h1 : 0 ≤ vx b ds * b := Int.mul_nonneg ih.1 (by omega)
    have h2 : (vx b ds + 1) * b ≤ pw b ds.length * b := Int.mul_le_mul_of_nonneg_right (by omega) (by omega)
    rw [Int.add_mul, Int.one_mul] at h2
    omega
theorem vx_valL {b : Int} (hb : 2 ≤ b) : ∀ {ds : List Int}, (∀ d ∈ ds, 0 ≤ d ∧ d < b) → pw b ds.length ≤ 1000000000001 → valL b ds = vx b ds
  | [], _, _ => rfl
  | d :: ds, h, hp => by
    have hv := vx_bd hb h
    have hm := pw_mono b hb ds.length (ds.length + 1) (by omega)
    rw [List.length_cons] at hp hv
    rw [valL, vx_valL hb (fun x hx => h x (List.mem_cons_of_mem _ hx)) (by omega)]
    rw [vx] at hv ⊢
    omega
theorem vx_snoc (b : Int) : ∀ (l : List Int) (d : Int), vx b (l ++ [d]) = vx b l + d * pw b l.length
  | [], d => by simp [vx, pw]
  | a :: l, d => by
    rw [List.cons_append, vx, vx, vx_snoc b l d, List.length_cons, pw_succ, Int.add_mul, Int.mul_assoc]
    omega
/-- the carry into a digit -/
def carK (b : Int) (xs ys : List Int) : Nat → Int
  | 0 => 0
  | i + 1 => (xs.getD i 0 + ys.getD i 0 + carK b xs ys i) / b
def sumK (b : Int) (xs ys : List Int) (i : Nat) : Int := (xs.getD i 0 + ys.getD i 0 + carK b xs ys i) % b
def addD (b : Int) (xs ys : List Int) (n : Nat) : List Int := (List.range n).map (sumK b xs ys)
theorem addD_succ (b : Int) (xs ys : List Int) (n : Nat) : addD b xs ys (n + 1) = addD b xs ys n ++ [sumK b xs ys n] := by unfold addD; rw [List.range_succ, List.map_append]; rfl
theorem addD_len (b : Int) (xs ys : List Int) (n : Nat) : (addD b xs ys n).length = n := by simp [addD]
theorem addD_get (b : Int) (xs ys : List Int) {n i : Nat} (h : i < n) : (addD b xs ys n).getD i 0 = sumK b xs ys i := by
  rw [getD_of (by rw [addD_len]; exact h)]; simp [addD]
def Digs (b : Int) (xs : List Int) : Prop := ∀ d ∈ xs, 0 ≤ d ∧ d < b
theorem Digs.at {b : Int} {xs : List Int} (h : Digs b xs) (hb : 2 ≤ b) (i : Nat) : 0 ≤ xs.getD i 0 ∧ xs.getD i 0 < b := by
  by_cases hi : i < xs.length
  · rw [getD_of hi]; exact h _ (List.getElem_mem hi)
  · rw [List.getD_eq_getElem?_getD, List.getElem?_eq_none (by omega)]; simp; omega
theorem carK_bd {b : Int} (hb : 2 ≤ b) {xs ys : List Int} (hx : Digs b xs) (hy : Digs b ys) : ∀ i, 0 ≤ carK b xs ys i ∧ carK b xs ys i ≤ 1
  | 0 => by simp [carK]
  | i + 1 => by
    have h1 := hx.at hb i
    have h2 := hy.at hb i
    have h3 := carK_bd hb hx hy i
    rw [carK]
    constructor
    · exact Int.ediv_nonneg (by omega) (by omega)
    · have : (xs.getD i 0 + ys.getD i 0 + carK b xs ys i) / b < 2 := by rw [Int.ediv_lt_iff_lt_mul (by omega)]; omega
      omega
theorem sumK_bd {b : Int} (hb : 2 ≤ b) (xs ys : List Int) (i : Nat) : 0 ≤ sumK b xs ys i ∧ sumK b xs ys i < b := ⟨Int.emod_nonneg _ (by omega), Int.emod_lt_of_pos _ (by omega)⟩
theorem addD_digs {b : Int} (hb : 2 ≤ b) (xs ys : List Int) (n : Nat) : Digs b (addD b xs ys n) := fun d hd => by
  obtain ⟨i, -, rfl⟩ := List.mem_map.1 hd
  exact sumK_bd hb xs ys i
/-- sum and last carry have the value of both -/
theorem add_val {b : Int} {xs ys : List Int} : ∀ n, n ≤ xs.length → n ≤ ys.length → vx b (addD b xs ys n) + carK b xs ys n * pw b n = vx b (xs.take n) + vx b (ys.take n)
  | 0, _, _ => by simp [addD, carK, vx]
  | n + 1, h1, h2 => by
    have ih := add_val (b := b) (xs := xs) (ys := ys) n (by omega) (by omega)
    rw [addD_succ, vx_snoc, addD_len, List.take_succ_eq_append_getElem h1, List.take_succ_eq_append_getElem h2, vx_snoc, vx_snoc, List.length_take_of_le (show n ≤ xs.length by omega), List.length_take_of_le (show n ≤ ys.length by omega), pw_succ]
    have e : sumK b xs ys n + b * carK b xs ys (n + 1) = xs[n] + ys[n] + carK b xs ys n := by
      rw [sumK, carK, getD_of h1, getD_of h2]; exact Int.emod_add_mul_ediv _ _
    have e2 : sumK b xs ys n * pw b n + carK b xs ys (n + 1) * (pw b n * b) = (sumK b xs ys n + b * carK b xs ys (n + 1)) * pw b n := by
      rw [Int.add_mul, Int.mul_comm b (carK b xs ys (n + 1)), Int.mul_assoc, Int.mul_comm b (pw b n)]
    rw [e, Int.add_mul, Int.add_mul] at e2
    omega
/-- the borrow into a digit -/
def borK (xs ys : List Int) : Nat → Int
  | 0 => 0
  | i + 1 => if xs.getD i 0 - ys.getD i 0 - borK xs ys i < 0 then 1 else 0
def subK (b : Int) (xs ys : List Int) (i : Nat) : Int := if xs.getD i 0 - ys.getD i 0 - borK xs ys i < 0 then xs.getD i 0 - ys.getD i 0 - borK xs ys i + b else xs.getD i 0 - ys.getD i 0 - borK xs ys i
def subD (b : Int) (xs ys : List Int) (n : Nat) : List Int := (List.range n).map (subK b xs ys)
theorem subD_succ (b : Int) (xs ys : List Int) (n : Nat) : subD b xs ys (n + 1) = subD b xs ys n ++ [subK b xs ys n] := by unfold subD; rw [List.range_succ, List.map_append]; rfl
theorem subD_len (b : Int) (xs ys : List Int) (n : Nat) : (subD b xs ys n).length = n := by simp [subD]
theorem borK_bd (xs ys : List Int) : ∀ i, 0 ≤ borK xs ys i ∧ borK xs ys i ≤ 1
  | 0 => by simp [borK]
  | i + 1 => by rw [borK]; split <;> omega
theorem sub_one {b x y c : Int} (hb : 2 ≤ b) (hx : 0 ≤ x ∧ x < b) (hy : 0 ≤ y ∧ y < b) (hc : 0 ≤ c ∧ c ≤ 1) :
    ((x + y + c) % b - y - c < 0 ∧ (x + y + c) / b = 1 ∧ (x + y + c) % b - y - c + b = x) ∨ (¬ (x + y + c) % b - y - c < 0 ∧ (x + y + c) / b = 0 ∧ (x + y + c) % b - y - c = x) := by
  by_cases h : x + y + c < b
  · right
    rw [Int.emod_eq_of_lt (by omega) h, Int.ediv_eq_zero_of_lt (by omega) h]
    omega
  · left
    have e1 : (x + y + c) / b = 1 := by
      have h1 : (x + y + c) / b < 2 := by rw [Int.ediv_lt_iff_lt_mul (by omega)]; omega
      have h2 : 1 ≤ (x + y + c) / b := by rw [Int.le_ediv_iff_mul_le (by omega)]; omega
      omega
    have e2 := Int.emod_add_mul_ediv (x + y + c) b
    rw [e1] at e2
    omega
theorem sub_add {b : Int} (hb : 2 ≤ b) {xs ys : List Int} (hx : Digs b xs) (hy : Digs b ys) (n : Nat) : ∀ i, i ≤ n → borK (addD b xs ys n) ys i = carK b xs ys i
  | 0, _ => rfl
  | i + 1, hi => by
    have ih := sub_add hb hx hy n i (by omega)
    rw [borK, ih, addD_get b xs ys (show i < n by omega), carK, sumK]
    rcases sub_one hb (hx.at hb i) (hy.at hb i) (carK_bd hb hx hy i) with ⟨h1, h2, -⟩ | ⟨h1, h2, -⟩
    · rw [if_pos h1, h2]
    · rw [if_neg h1, h2]
theorem sub_addD {b : Int} (hb : 2 ≤ b) {xs ys : List Int} (hx : Digs b xs) (hy : Digs b ys) : subD b (addD b xs ys xs.length) ys xs.length = xs := by
  refine List.ext_getElem (by rw [subD_len]) (fun i h1 h2 => ?_)
  simp only [subD, List.getElem_map, List.getElem_range]
  have hi : i < xs.length := h2
  rw [subK, sub_add hb hx hy _ i (by omega), addD_get b xs ys hi, sumK, ← getD_of hi]
  rcases sub_one hb (hx.at hb i) (hy.at hb i) (carK_bd hb hx hy i) with ⟨h1, -, h3⟩ | ⟨h1, -, h3⟩
  · rw [if_pos h1, h3]
  · rw [if_neg h1, h3]
def compD (b : Int) (xs : List Int) : List Int := xs.map (fun d => b - 1 - d)
theorem comp_val (b : Int) : ∀ xs : List Int, vx b (compD b xs) = pw b xs.length - 1 - vx b xs
  | [] => by simp [compD, vx, pw]
  | d :: xs => by
    show vx b (compD b xs) * b + (b - 1 - d) = _
    rw [comp_val b xs, vx, List.length_cons, pw_succ, Int.sub_mul, Int.sub_mul, Int.one_mul]
    omega
theorem comp_digs {b : Int} {xs : List Int} (h : Digs b xs) : Digs b (compD b xs) := fun d hd => by
  obtain ⟨x, hx, rfl⟩ := List.mem_map.1 hd
  have := h x hx
  omega
/-- a short row of digits is a register -/
theorem vreg_short {b : Int} {ds : List Int} (hb : 2 ≤ b) (hb2 : b ≤ 16) (hd : Digs b ds) (h1 : 1 ≤ ds.length) (h2 : ds.length ≤ 16) (hp : pw b ds.length ≤ 1000000000001) : vreg b ds = true := by
  have hv := vx_bd hb hd
  exact vreg_iff.2 ⟨⟨hb, hb2⟩, ⟨h1, h2⟩, hd, by rw [vx_valL hb hd hp]; omega⟩
end Go.Proofs.YtmmiahgmdllgdaaGreatDoor

namespace Go.Proofs.YtmmiahgmdllgdaaGreatDoor
open Go.RowKit Go.Sort
/-- w with its first n blocks alone -/
def trunc (w : World) (n : Nat) : World := { w with heap := w.heap.extract 0 n }
theorem trunc_size {w : World} {n : Nat} (h : n ≤ w.heap.size) : (trunc w n).heap.size = n := by
  simp only [trunc, Array.size_extract]; omega
theorem trunc_get {w : World} {n k : Nat} (h : n ≤ w.heap.size) (hk : k < n) : (trunc w n).heap[k]? = w.heap[k]? := by
  simp only [trunc, Array.getElem?_extract, Nat.sub_zero, Nat.zero_add]
  rw [if_pos (by omega)]
theorem trunc_below {w : World} {n : Nat} (h : n ≤ w.heap.size) : Below (trunc w n).heap.size (trunc w n) w := by
  rw [trunc_size h]
  exact ⟨rfl, rfl, rfl, by rw [trunc_size h]; exact h, fun k hk => (trunc_get h hk).symm⟩
/-- v is w with block b turned -/
def Tw (b : Nat) (w v : World) : Prop := w.grownBy v (some b) ∧ v.heap.size = w.heap.size
theorem Tw.refl (b : Nat) (w : World) : Tw b w w := ⟨gRefl w _, rfl⟩
theorem Tw.of {b : Nat} {w w' : World} (h : w.grownBy w' (some b)) : Tw b w (trunc w' w.heap.size) :=
  ⟨⟨h.os, h.tape, h.output, by rw [trunc_size h.size]; exact Nat.le_refl _, fun k hk hne => (trunc_get h.size hk).trans (h.block k hk hne)⟩, trunc_size h.size⟩
theorem Src.trunc {b N : Nat} {w : World} {n : Nat} (h : Src w b N) (hb : b < n) (hn : n ≤ w.heap.size) : Src (trunc w n) b N := by
  obtain ⟨A, m, c, k, seed, bs, c0, c1, c2, f1, f2, hB, hkN, hm, hne, hlt⟩ := h
  have hbl : ∀ k, k ≤ b → (Go.Proofs.YtmmiahgmdllgdaaGreatDoor.trunc w n).heap[k]? = w.heap[k]? := fun k hk => trunc_get hn (by omega)
  have hcell : ∀ o, (Go.Proofs.YtmmiahgmdllgdaaGreatDoor.trunc w n).cell? ⟨b, o, none⟩ = w.cell? ⟨b, o, none⟩ := fun o => World.cell?_of_block (hbl b (Nat.le_refl _))
  have hfz : ∀ o, (Go.Proofs.YtmmiahgmdllgdaaGreatDoor.trunc w n).frozen? ⟨b, o, none⟩ = w.frozen? ⟨b, o, none⟩ := fun o => World.frozen?_of_block (hbl b (Nat.le_refl _))
  refine ⟨A, m, c, k, seed, bs, by rw [hcell]; exact c0, by rw [hcell]; exact c1, by rw [hcell]; exact c2, by rw [hfz]; exact f1, by rw [hfz]; exact f2, ⟨hB.1, fun h0 => ?_⟩, hkN, hm, hne, by rw [trunc_size hn]; exact hb⟩
  obtain ⟨ad, e, hl, hc⟩ := hB.2 h0
  have hab := hne h0 ad e
  refine ⟨ad, e, by rw [trunc_size hn]; omega, fun j u hu => ?_⟩
  rw [World.cell?_of_block (w := w) (by rw [block_of_add]; exact hbl _ (by omega))]
  exact hc j u hu
/-- what a draw leaves: the source's block is turned, and the call owns the things of m -/
def DR (b N : Nat) (w : World) (m : List Ent) (w' : World) : Prop := ∃ v, Tw b w v ∧ Src v b N ∧ Kn v m w'
theorem DR.src {b N : Nat} {w : World} {m : List Ent} {w' : World} (h : DR b N w m w') : Src w' b N := by
  obtain ⟨v, -, hS, hK⟩ := h
  exact hS.below hK.below
theorem DR.of {b N : Nat} {w w' : World} (hs : Src w' b N) (hg : w.grownBy w' (some b)) (hb : b < w.heap.size) : DR b N w [] w' :=
  ⟨_, Tw.of hg, hs.trunc hb hg.size, (Kn.nil _).keep (trunc_below hg.size)⟩
theorem DR.nil {b N : Nat} {w : World} (hs : Src w b N) : DR b N w [] w := ⟨w, Tw.refl b w, hs, Kn.nil w⟩
theorem DR.mono {b N M : Nat} {w w' : World} {m : List Ent} (h : DR b N w m w') (hm : N ≤ M) : DR b M w m w' := by
  obtain ⟨v, hT, hS, hK⟩ := h
  exact ⟨v, hT, hS.mono hm, hK⟩
theorem DR.kn {b N : Nat} {w w' : World} {m m' : List Ent} (h : DR b N w m w') {w2 : World} (f : ∀ v, Kn v m w' → Kn v m' w2) : DR b N w m' w2 := by
  obtain ⟨v, hT, hS, hK⟩ := h
  exact ⟨v, hT, hS, f v hK⟩
theorem Kn.tw {b : Nat} {w v : World} {m : List Ent} {wi wi' : World} (hT : Tw b w v) (hK : Kn v m wi) (hb : b < w.heap.size) (hg : wi.grownBy wi' (some b)) : Tw b w (trunc wi' w.heap.size) ∧ Kn (trunc wi' w.heap.size) m wi' := by
  have hs : w.heap.size ≤ wi.heap.size := by have := hK.size; rw [hT.2] at this; exact this
  have hs' : w.heap.size ≤ wi'.heap.size := Nat.le_trans hs hg.size
  have hbw := hK.below
  refine ⟨⟨⟨hg.os.trans (hbw.os.trans hT.1.os), hg.tape.trans (hbw.tape.trans hT.1.tape), hg.output.trans (hbw.output.trans hT.1.output), by rw [trunc_size hs']; exact Nat.le_refl _, fun k hk hne => ?_⟩, trunc_size hs'⟩, trunc_below hs', fun e he => ?_, fun e he k hk => ?_, hK.apart⟩
  · rw [trunc_get hs' hk, hg.block k (by omega) hne, hbw.block k (by rw [hT.2]; exact hk)]
    exact hT.1.block k hk hne
  · refine Ent.stable (hK.ents e he) hg.size (fun k hk => hg.block k (Ent.lt (hK.ents e he) hk) (fun h2 => ?_))
    have h3 := hK.own e he k hk
    rw [hT.2] at h3
    injection h2 with h2
    omega
  · rw [trunc_size hs']
    have h3 := hK.own e he k hk
    rw [hT.2] at h3
    exact h3
theorem Tw.grown {b : Nat} {w v : World} (h : Tw b w v) : w.grownBy v (some b) := h.1
/-- one draw behind another -/
theorem DR.join {b N M : Nat} {w wi w' : World} {m m' : List Ent} (h : DR b N w m wi) (h1 : DR b M wi m' w') (hb : b < w.heap.size) : DR b M w (m' ++ m) w' := by
  obtain ⟨v, hT, hS, hK⟩ := h
  obtain ⟨v1, hT1, hS1, hK1⟩ := h1
  have hs : w.heap.size ≤ wi.heap.size := by have := hK.size; rw [hT.2] at this; exact this
  have hs1 : w.heap.size ≤ v1.heap.size := by rw [hT1.2]; exact hs
  obtain ⟨h2, h3⟩ := hK.tw hT hb hT1.1
  exact ⟨_, h2, hS1.trunc hb hs1, h3.join hK1⟩
/-- a source of the call's own -/
theorem Kn.ofDR {w w1 w2 : World} {b N : Nat} {m : List Ent} (hb : Below w.heap.size w w1) (hlo : w.heap.size ≤ b) (h : DR b N w1 m w2) : Kn w m w2 := by
  obtain ⟨v, hT, -, hK⟩ := h
  exact hK.mono (belowG hb hT.1 hlo hb.size)
theorem pick_dr (b N : Nat) (n : Int) (w : World) (h : Src w b N) (hN : N ≤ 999999) :
    Calls Tryz.prog 62 #[.pointer (some ⟨b, 0, none⟩), .int .i64 n] w fun e w' => ∃ x : Int, e = .returned (.int .i64 x) ∧ (0 ≤ x ∧ (x < n ∨ (n ≤ 1 ∧ x = 0))) ∧ DR b (N + 2) w [] w' := by
  refine (pick_any b N n w h hN).mono ?_
  rintro e w' ⟨x, rfl, h0, h1, hs, hg⟩
  exact ⟨x, rfl, ⟨h0, h1⟩, .of hs hg h.lt⟩
theorem one_dr (b N : Nat) (n : Int) (w : World) (h : Src w b N) (hN : N ≤ 999999) :
    Calls Tryz.prog 61 #[.pointer (some ⟨b, 0, none⟩), .int .i64 n] w fun e w' => ∃ x : Bool, e = .returned (.bool x) ∧ DR b (N + 2) w [] w' := by
  refine (one_any b N n w h hN).mono ?_
  rintro e w' ⟨x, rfl, hs, hg⟩
  exact ⟨x, rfl, .of hs hg h.lt⟩
theorem among_dr (b N : Nat) (A : Option Addr) (n c : Nat) (ds : List Int) (w : World) (h : Src w b N) (hN : N ≤ 999999) (hr : RI w A n ds) (hA : ∀ ad, A = some ad → ad.block ≠ b) (hn0 : 0 < n) (hn : n ≤ 1000000) :
    Calls Tryz.prog 141 #[.pointer (some ⟨b, 0, none⟩), .slice A n c] w fun e w' => ∃ x : Int, e = .returned (.int .i64 x) ∧ x ∈ ds ∧ DR b (N + 2) w [] w' := by
  refine (among_any b N A n c ds w h hN hr hA hn0 hn).mono ?_
  rintro e w' ⟨x, rfl, hx, hs, hg⟩
  exact ⟨x, rfl, hx, .of hs hg h.lt⟩
theorem digits_dr (b N : Nat) (base : Int) (width : Nat) (w : World) (h : Src w b N) (hN : N + width * 4 ≤ 900000) (hb2 : 2 ≤ base) (hb16 : base ≤ 1000) (hw : width ≤ 1000) :
    Calls Tryz.prog 181 #[.pointer (some ⟨b, 0, none⟩), .int .i64 base, .int .i64 width] w fun e w' => ∃ A c ds, e = .returned (.slice A width c) ∧ ds.length = width ∧ (∀ d ∈ ds, 0 ≤ d ∧ d < base) ∧ DR b (N + width * 4) w [rowI A c ds] w' := by
  refine (l02DrawDigits_any b N base width w h hN hb2 hb16 hw).mono ?_
  rintro e w' ⟨A, c, ds, rfl, ho, hl, hd, hs, hg⟩
  refine ⟨A, c, ds, rfl, hl, hd, _, Tw.of hg, hs.trunc h.lt hg.size, ?_⟩
  have hk := (Kn.nil (trunc w' w.heap.size)).addI (trunc_below hg.size) (by rw [trunc_size hg.size]; exact ho)
  rw [← hl] at hk
  exact hk
end Go.Proofs.YtmmiahgmdllgdaaGreatDoor

namespace Go.Proofs.YtmmiahgmdllgdaaGreatDoor
open Go.RowKit Go.Sort
section
variable {b N : Nat} {w wi : World} {m : List Ent}
theorem DR.al (h : DR b N w m wi) (l : List Value) (T : TypeId) : DR b N w (.blk wi.heap.size l T :: m) (wi.alloc (.cells l.toArray T)) := h.kn (fun _ hK => hK.al l T)
theorem DR.al_ (h : DR b N w m wi) (o : Obj) : DR b N w m (wi.alloc o) := h.kn (fun _ hK => hK.al_ o)
theorem DR.st {g : Nat} {l : List Value} {T : TypeId} (h : DR b N w (.blk g l T :: m) wi) (j : Nat) (v : Value) : DR b N w (.blk g (l.set j v) T :: m) (wi.setCell ⟨g, j, none⟩ v) := h.kn (fun _ hK => hK.st j v)
theorem DR.drew (h : DR b N w m wi) : DR b N w m wi.drew := h.kn (fun _ hK => hK.drew)
theorem DR.front (h : DR b N w m wi) (i : Nat) {e : Ent} (hi : m[i]? = some e) : DR b N w (e :: m.eraseIdx i) wi := h.kn (fun _ hK => hK.front i hi)
theorem DR.sel (h : DR b N w m wi) (is : List Nat) (n : Nat) (h1 : is.Nodup) (h2 : ∀ i ∈ is, i < n) : DR b N w (is.filterMap (fun i => m[i]?) ++ m.drop n) wi := h.kn (fun _ hK => hK.sel is n h1 h2)
theorem DR.cells (h : DR b N w m wi) : Cells m wi := by
  obtain ⟨v, -, -, hK⟩ := h
  exact hK.cells
theorem DR.lt (h : DR b N w m wi) : b < w.heap.size := by
  obtain ⟨v, hT, hS, -⟩ := h
  have := hS.lt
  rw [hT.2] at this
  exact this
theorem DR.add (h : DR b N w m wi) {M : Nat} {w' : World} {m' : List Ent} (h1 : DR b M wi m' w') : DR b M w (m' ++ m) w' := h.join h1 h.lt
theorem DR.keep (h : DR b N w m wi) {w' : World} (hb : Below wi.heap.size wi w') : DR b N w m w' := h.kn (fun _ hK => hK.keep hb)
theorem DR.box2 {g : Nat} {v0 v1 : Value} {T : TypeId} (h : DR b N w (.blk g [v0, v1] T :: m) wi) : wi.cell? ⟨g, 0, none⟩ = some v0 ∧ wi.cell? ⟨g, 1, none⟩ = some v1 := by
  obtain ⟨v, -, -, hK⟩ := h
  exact Go.Proofs.YtmmiahgmdllgdaaGreatDoor.box2 hK
theorem Calls.dr {P : Program} {f : FuncId} {args : Array Value} {R : Ending → World → Prop} (h : DR b N w m wi) (k : ∀ W, DR b N w m W → Calls P f args W R) : Calls P f args wi R := k wi h
theorem Code.wp.dr {P : Program} {c : Code} {Q : Exit → Act → World → Prop} {a : Act} (h : DR b N w m wi) (k : ∀ W, DR b N w m W → c.wp P Q a W) : c.wp P Q a wi := k wi h
theorem bodyPost.dr {P : Program} {f : Func} {R : Ending → World → Prop} {x : Exit} {a : Act} (h : DR b N w m wi) (k : ∀ W, DR b N w m W → bodyPost P f R x a W) : bodyPost P f R x a wi := k wi h
end
theorem DR.lit {b N : Nat} {w wi : World} {m : List Ent} {g : Nat} {ds : List Int} (h : DR b N w (.blk g (ds.map (Value.int .i64)) 2 :: m) wi) (hd : ds.length ≤ 1000) :
    RI wi (some ⟨g, 0, none⟩) ds.length ds ∧ (∀ ad, some (⟨g, 0, none⟩ : Addr) = some ad → ad.block ≠ b) := by
  obtain ⟨v, -, hS, hK⟩ := h
  have hb := hS.lt
  have ho := hK.own _ (List.mem_cons_self ..) g rfl
  have hr : Kn v (rowI (some ⟨g, 0, none⟩) ds.length ds :: m) wi := hK.litRow (size := 1) (n := ds.length) (by simp) (by unfold maxLen; omega)
  refine ⟨Kn.riv hr, fun ad he => ?_⟩
  injection he with he
  subst he
  show g ≠ b
  omega
end Go.Proofs.YtmmiahgmdllgdaaGreatDoor

/- rows of instructions -/
namespace Go.Proofs.YtmmiahgmdllgdaaGreatDoor
open Go.RowKit Go.Sort
def cellsIns (xs : List Ins) : List Value := xs.flatMap fun x => [.int .i64 x.op, .int .i64 x.arg]
theorem cellsIns_len (xs : List Ins) : (cellsIns xs).length = xs.length * 2 := by
  induction xs with
  | nil => rfl
  | cons x xs ih => unfold cellsIns at *; rw [List.flatMap_cons, List.length_append, ih]; simp; omega
theorem cellsIns_snoc (xs : List Ins) (x : Ins) : cellsIns (xs ++ [x]) = cellsIns xs ++ [.int .i64 x.op, .int .i64 x.arg] := by simp [cellsIns]
theorem cellsIns_get : ∀ (xs : List Ins) (k : Nat) (h : k < xs.length), (cellsIns xs)[k * 2]? = some (.int .i64 xs[k].op) ∧ (cellsIns xs)[k * 2 + 1]? = some (.int .i64 xs[k].arg)
  | [], k, h => by simp at h
  | x :: xs, 0, h => by simp [cellsIns]
  | x :: xs, k + 1, h => by
    have h1 := cellsIns_get xs k (by simpa using h)
    have h2 : cellsIns (x :: xs) = .int .i64 x.op :: .int .i64 x.arg :: cellsIns xs := by simp [cellsIns]
    rw [h2, show (k + 1) * 2 = k * 2 + 1 + 1 by omega]
    simp only [List.getElem?_cons_succ, List.getElem_cons_succ]
    exact h1
theorem cellsIns_one (xs : List Ins) : ∀ u ∈ cellsIns xs, u.oneCell' = true := by
  intro u hu
  obtain ⟨x, -, h⟩ := List.mem_flatMap.1 hu
  simp at h
  rcases h with rfl | rfl <;> rfl
end Go.Proofs.YtmmiahgmdllgdaaGreatDoor

namespace Go.Proofs.YtmmiahgmdllgdaaGreatDoor
open Go.RowKit Go.Sort
theorem cellsIns_app (xs ys : List Ins) : cellsIns (xs ++ ys) = cellsIns xs ++ cellsIns ys := by simp [cellsIns]
/-- the program that divides -/
def divHead (p : Nat) : List Ins := if 1 < p then [⟨4, (p : Int) - 1⟩] else []
def divPart (p j : Nat) : List Ins := [⟨9, 0⟩, ⟨3, 1⟩, ⟨10, 0⟩, ⟨2, 1⟩] ++ (if j + 1 < p then [⟨5, 1⟩] else [])
def divUpto (p : Nat) : Nat → List Ins
  | 0 => divHead p
  | j + 1 => divUpto p j ++ divPart p j
def divProg (p : Nat) : List Ins := divUpto p p
theorem divUpto_len (p j : Nat) : (divUpto p j).length ≤ 1 + 5 * j := by
  induction j with
  | zero => simp only [divUpto, divHead]; split <;> simp
  | succ j ih => simp only [divUpto, divPart, List.length_append]; split <;> simp <;> omega
theorem divProg_ok {p : Nat} (h1 : 1 ≤ p) (h2 : p ≤ 16) : vprog (divProg p) = true := by
  have H : ∀ p : Fin 17, 1 ≤ p.val → vprog (divProg p.val) = true := by decide +kernel
  exact H ⟨p, by omega⟩ h1
end Go.Proofs.YtmmiahgmdllgdaaGreatDoor

namespace Go.Proofs.YtmmiahgmdllgdaaGreatDoor
open Go.RowKit Go.Sort
theorem l12Room_any (p : Addr) (b : Int) (A : Option Addr) (n c : Nat) (w : World) (hp : RegAt w p b A n c) (b1 : 2 ≤ b) (b2 : b ≤ 16) (hn : n ≤ 9223372036854775807) :
    Calls Tryz.prog 142 #[.pointer (some p)] w fun e w' => e = .returned (.int .i64 (powS b n)) ∧ ∃ q, w' = w.drewN q := by
  obtain ⟨q1, q2⟩ := hp
  have KP := Lib.hid (fun W => l10Power_any b n W b1 b2 hn)
  go_enter Tryz.func142, Tryz.ntmps142
  go_wp2_with fail
  go_quiet ((go_at_call 183; exact quiet_left (KP.out _)))
  go_wp2
  go_ret
  exact ⟨rfl, _, rfl⟩
/-- a fresh machine of a base and widths -/
def newT (b : Int) (n1 n2 n3 : Nat) : Tri := ⟨⟨b, digD b n1 0⟩, ⟨b, digD b n2 0⟩, ⟨b, digD b n3 0⟩, 0⟩
set_option maxRecDepth 100000 in
set_option maxHeartbeats 1600000 in
theorem l10New_any (b : Int) (n1 n2 n3 : Nat) (w : World) (b1 : 2 ≤ b) (b2 : b ≤ 16) (h1 : n1 ≤ 1000000) (h2 : n2 ≤ 1000000) (h3 : n3 ≤ 1000000) :
    Calls Tryz.prog 180 #[.int .i64 b, .int .i64 n1, .int .i64 n2, .int .i64 n3] w fun e w' => ∃ E1 g1 E2 g2 E3 g3, e = .returned (.agg #[.int .i64 b, .slice E1 (digD b n1 0).length g1, .int .i64 b, .slice E2 (digD b n2 0).length g2, .int .i64 b, .slice E3 (digD b n3 0).length g3, .int .i64 0]) ∧
      Kn w [rowI E3 g3 (digD b n3 0), rowI E2 g2 (digD b n2 0), rowI E1 g1 (digD b n1 0)] w' := by
  have K1 := (fun W => l02NewV_any b n1 0 W b1 b2 h1 (by decide) (by decide))
  have K2 := (fun W => l02NewV_any b n2 0 W b1 b2 h2 (by decide) (by decide))
  have K3 := (fun W => l02NewV_any b n3 0 W b1 b2 h3 (by decide) (by decide))
  obtain ⟨x1, hx1⟩ : ∃ x, digD b n1 0 = x := ⟨_, rfl⟩
  obtain ⟨x2, hx2⟩ : ∃ x, digD b n2 0 = x := ⟨_, rfl⟩
  obtain ⟨x3, hx3⟩ : ∃ x, digD b n3 0 = x := ⟨_, rfl⟩
  rw [hx1] at K1 ⊢
  rw [hx2] at K2 ⊢
  rw [hx3] at K3 ⊢
  have K1 := Lib.hid K1
  have K2 := Lib.hid K2
  have K3 := Lib.hid K3
  clear hx1 hx2 hx3
  go_enter Tryz.func180, Tryz.ntmps180
  go_wp2_with fail
  refine Calls.kn ((Kn.nil w).al [.int .i64 0, .slice none 0 0, .int .i64 0, .slice none 0 0, .int .i64 0, .slice none 0 0, .int .i64 0] 32) ?_; intro w1 hK1
  (with_reducible refine (K1.out _).mono ?_); rintro e w2 ⟨E1, g1, rfl, hKn⟩
  have hK2 := hK1.join hKn
  go_wp2_with fail
  refine Calls.kn (hK2.al [.int .i64 b, .slice E1 x1.length g1] 30) ?_; intro w3 hK3
  (with_reducible refine (K2.out _).mono ?_); rintro e w4 ⟨E2, g2, rfl, hKm⟩
  have hK4 := hK3.join hKm
  go_wp2_with fail
  refine Calls.kn (hK4.al [.int .i64 b, .slice E2 x2.length g2] 30) ?_; intro w5 hK5
  (with_reducible refine (K3.out _).mono ?_); rintro e w6 ⟨E3, g3, rfl, hKo⟩
  have hK6 := hK5.join hKo
  clear hK1 hK2 hK3 hK4 hK5 hKn hKm hKo
  obtain ⟨a1, a2, a3, d1, d2, d3, c1, c2, c3, -⟩ := hK6.cells
  go_wp2_with fail
  refine bodyPost.kn ((((((((hK6.front 5 rfl).st 0 (.int .i64 b)).st 1 (.slice E1 x1.length g1)).st 2 (.int .i64 b)).st 3 (.slice E2 x2.length g2)).st 4 (.int .i64 b)).st 5 (.slice E3 x3.length g3)).st 6 (.int .i64 0) |>.al_ _) ?_; intro w7 hK7
  clear a1 a2 a3 d1 d2 d3 c1 c2 c3
  obtain ⟨a1, a2, a3, -⟩ := hK7.cells
  refine bodyPost_ret (v := .agg #[.int .i64 b, .slice E1 x1.length g1, .int .i64 b, .slice E2 x2.length g2, .int .i64 b, .slice E3 x3.length g3, .int .i64 0]) (by simp [results, Tryz.results180, go_sem, a1]) rfl ⟨E1, g1, E2, g2, E3, g3, rfl, ?_⟩
  exact hK7.sel [1, 3, 5] 99 (by decide) (by decide)
end Go.Proofs.YtmmiahgmdllgdaaGreatDoor

namespace Go.Proofs.YtmmiahgmdllgdaaGreatDoor
open Go.RowKit Go.Sort
/-- a base and widths are those of machines -/
def nmOk (b n1 n2 n3 : Int) : Bool := (betB b 2 16 && betB n1 1 16 && betB n2 1 16 && betB n3 1 16) && vmach (newT b n1.toNat n2.toNat n3.toNat)
theorem regWidth_any (n : Int) (w : World) : Calls Tryz.prog 220 #[.int .i64 n] w fun e w' => e = .returned (.bool (betB n 1 16)) ∧ w = w' := by
  go_enter Tryz.func220, Tryz.ntmps220
  go_wp2_with (go_at_call 80; refine (between_any _ _ _ _).mono ?_; rintro e w' ⟨rfl, rfl⟩)
  go_ret
  exact ⟨rfl, rfl⟩
/-- what NewMachine returns for widths in range -/
def NMRet (b : Int) (n1 n2 n3 : Nat) (v : Bool) (w : World) (e : Ending) (w' : World) : Prop :=
  (v = true ∧ ∃ E1 g1 E2 g2 E3 g3, e = .returned (.tuple #[.agg #[.int .i64 b, .slice E1 (digD b n1 0).length g1, .int .i64 b, .slice E2 (digD b n2 0).length g2, .int .i64 b, .slice E3 (digD b n3 0).length g3, .int .i64 0], .int .i64 0]) ∧ Kn w [rowI E3 g3 (digD b n3 0), rowI E2 g2 (digD b n2 0), rowI E1 g1 (digD b n1 0)] w') ∨
  (v = false ∧ e = .returned (.tuple #[.agg #[.int .i64 0, .slice none 0 0, .int .i64 0, .slice none 0 0, .int .i64 0, .slice none 0 0, .int .i64 0], .int .i64 2]) ∧ Below w.heap.size w w')
end Go.Proofs.YtmmiahgmdllgdaaGreatDoor

namespace Go.Proofs.YtmmiahgmdllgdaaGreatDoor
open Go.RowKit Go.Sort
/-- accumulators: which registers they are, and what they show -/
def aOk (b : Int) (ds : List Int) : Bool := vreg b ds && decide (pw b ds.length ≤ 1000000000001)
def aSize (b : Int) (ds : List Int) : Int := if aOk b ds = true then pw b ds.length else 0
def isNm (n x : Int) : Bool := betB x (-(n.tdiv 2)) (n - 1 - n.tdiv 2)
def aNum (b : Int) (ds : List Int) : Int := if valL b ds ≤ pw b ds.length - 1 - (pw b ds.length).tdiv 2 then valL b ds else valL b ds - pw b ds.length
def aNorm (n x : Int) : Int := (x.tmod n + n).tmod n
def aSet (b : Int) (k : Nat) (x : Int) : List Int := digD b k (aNorm (pw b k) x)
theorem aOk_iff {b : Int} {ds : List Int} : aOk b ds = true ↔ vreg b ds = true ∧ pw b ds.length ≤ 1000000000001 := by
  unfold aOk; rw [Bool.and_eq_true, decide_eq_true_eq]
theorem aNorm_bd {n x : Int} (hn : 1 ≤ n) : 0 ≤ aNorm n x ∧ aNorm n x < n := by
  unfold aNorm
  have h1 : -n < x.tmod n ∧ x.tmod n < n := by
    rcases Int.le_total 0 x with h | h
    · rw [Int.tmod_eq_emod_of_nonneg h]
      have := Int.emod_nonneg x (show n ≠ 0 by omega)
      have := Int.emod_lt_of_pos x (show 0 < n by omega)
      omega
    · have h2 := Int.neg_tmod (-x) n
      rw [Int.neg_neg] at h2
      rw [h2, Int.tmod_eq_emod_of_nonneg (by omega)]
      have := Int.emod_nonneg (-x) (show n ≠ 0 by omega)
      have := Int.emod_lt_of_pos (-x) (show 0 < n by omega)
      omega
  rw [Int.tmod_eq_emod_of_nonneg (by omega)]
  exact ⟨Int.emod_nonneg _ (by omega), Int.emod_lt_of_pos _ (by omega)⟩
theorem half_bd {n : Int} (hn : 0 ≤ n) : 0 ≤ n.tdiv 2 ∧ 2 * n.tdiv 2 ≤ n ∧ n ≤ 2 * n.tdiv 2 + 1 := by
  rw [Int.tdiv_eq_ediv_of_nonneg hn]; omega
theorem valL_in {b : Int} {ds : List Int} (h : aOk b ds = true) : 0 ≤ valL b ds ∧ valL b ds < pw b ds.length ∧ 1 ≤ pw b ds.length ∧ pw b ds.length ≤ 1000000000001 := by
  obtain ⟨h1, h2⟩ := aOk_iff.1 h
  obtain ⟨⟨b1, b2⟩, -, hd, -⟩ := vreg_iff.1 h1
  exact ⟨(valL_bd b b1 ds (fun d hd' => (hd d hd').1)).1, valL_lt b b1 ds hd, pw_pos b b1 _, h2⟩
theorem aNum_bd {b : Int} {ds : List Int} (h : aOk b ds = true) : -1000000000001 ≤ aNum b ds ∧ aNum b ds ≤ 1000000000001 := by
  have := valL_in h
  unfold aNum
  split <;> omega
end Go.Proofs.YtmmiahgmdllgdaaGreatDoor

namespace Go.Proofs.YtmmiahgmdllgdaaGreatDoor
open Go.RowKit Go.Sort
/-- what a function that adds a number returns -/
def anuC (b : Int) (ds : List Int) (x : Int) : Int := if aOk b ds = false then 1 else if betB x (-1000000000000) 1000000000000 = false then 2 else 0
def ANRet (b : Int) (ds : List Int) (x : Int) (w : World) (e : Ending) (w' : World) : Prop :=
  (anuC b ds x ≠ 0 ∧ e = .returned (.tuple #[.agg #[.int .i64 0, .slice none 0 0], .bool false, .int .i64 (anuC b ds x)]) ∧ Below w.heap.size w w') ∨
  (anuC b ds x = 0 ∧ ∃ E g, e = .returned (.tuple #[.agg #[.int .i64 b, .slice E (aSet b ds.length (aNum b ds + x)).length g], .bool (!isNm (pw b ds.length) (aNum b ds + x)), .int .i64 0]) ∧ Kn w [rowI E g (aSet b ds.length (aNum b ds + x))] w')
end Go.Proofs.YtmmiahgmdllgdaaGreatDoor

namespace Go.Proofs.YtmmiahgmdllgdaaGreatDoor
open Go.RowKit Go.Sort
/-- a register in a block -/
def RegB (w : World) (g : Nat) (b : Int) (A : Option Addr) (c : Nat) (ds : List Int) : Prop := (w.cell? ⟨g, 0, none⟩ = some (.int .i64 b) ∧ w.cell? ⟨g, 1, none⟩ = some (.slice A ds.length c)) ∧ RI w A ds.length ds
theorem RegB.below {w w' : World} {g : Nat} {b : Int} {A : Option Addr} {c : Nat} {ds : List Int} (h : RegB w g b A c ds) (hb : Below w.heap.size w w') : RegB w' g b A c ds := by
  have hlt : g < w.heap.size := World.block_lt_of_cell? w _ h.1.1
  exact ⟨⟨(hb.cell (p := ⟨g, 0, none⟩) hlt).trans h.1.1, (hb.cell (p := ⟨g, 1, none⟩) hlt).trans h.1.2⟩, h.2.below hb⟩
theorem tmod_bd {n x : Int} (hn : 1 ≤ n) : -n < x.tmod n ∧ x.tmod n < n := by
  rcases Int.le_total 0 x with h | h
  · rw [Int.tmod_eq_emod_of_nonneg h]
    have := Int.emod_nonneg x (show n ≠ 0 by omega)
    have := Int.emod_lt_of_pos x (show 0 < n by omega)
    omega
  · have h2 := Int.neg_tmod (-x) n
    rw [Int.neg_neg] at h2
    rw [h2, Int.tmod_eq_emod_of_nonneg (by omega)]
    have := Int.emod_nonneg (-x) (show n ≠ 0 by omega)
    have := Int.emod_lt_of_pos (-x) (show 0 < n by omega)
    omega
end Go.Proofs.YtmmiahgmdllgdaaGreatDoor

namespace Go.Proofs.YtmmiahgmdllgdaaGreatDoor
open Go.RowKit Go.Sort
theorem isNm_val {n v : Int} (hn : 1 ≤ n) (h0 : 0 ≤ v) : isNm n v = decide (v ≤ n - 1 - n.tdiv 2) := by
  have hh := half_bd (n := n) (by omega)
  unfold isNm
  rw [Bool.eq_iff_iff, betB_iff, decide_eq_true_eq]
  omega
end Go.Proofs.YtmmiahgmdllgdaaGreatDoor

namespace Go.Proofs.YtmmiahgmdllgdaaGreatDoor
open Go.RowKit Go.Sort
/-- how far each wheel is turned to come to 0 -/
def ctL (b : Int) (ds : List Int) : List Int := ds.map (fun d => (b - d).tmod b)
def ctR (b : Int) (ds : List Int) : List Int := if vreg b ds then ctL b ds else []
def CTRet (b : Int) (ds : List Int) (w : World) (e : Ending) (w' : World) : Prop := ∃ E k, e = .returned (.tuple #[.slice E (ctR b ds).length k, .int .i64 (if vreg b ds then 0 else 1)]) ∧ Kn w [rowI E k (ctR b ds)] w'
theorem ctL_take {b : Int} {ds : List Int} {k : Nat} (h : k < ds.length) : ctL b (ds.take (k + 1)) = ctL b (ds.take k) ++ [(b - ds[k]).tmod b] := by
  unfold ctL; rw [List.take_succ_eq_append_getElem h, List.map_append]; rfl
theorem ctL_len (b : Int) (ds : List Int) : (ctL b ds).length = ds.length := by unfold ctL; rw [List.length_map]
end Go.Proofs.YtmmiahgmdllgdaaGreatDoor

namespace Go.Proofs.YtmmiahgmdllgdaaGreatDoor
open Go.RowKit Go.Sort
def tfC (b : Int) (ds : List Int) (b' : Int) (es : List Int) : Int := if (aOk b ds && aOk b' es) = false then 1 else if b ≠ b' then 6 else 0
/-- what a transfer returns -/
def TFRet (b : Int) (ds : List Int) (b' : Int) (es : List Int) (w : World) (e : Ending) (w' : World) : Prop :=
  (tfC b ds b' es ≠ 0 ∧ e = .returned (.tuple #[.agg #[.int .i64 0, .slice none 0 0], .agg #[.int .i64 0, .slice none 0 0], .bool false, .int .i64 (tfC b ds b' es)]) ∧ Below w.heap.size w w') ∨
  (tfC b ds b' es = 0 ∧ ∃ E1 k1 E2 k2, e = .returned (.tuple #[.agg #[.int .i64 b, .slice E1 (digD b ds.length 0).length k1], .agg #[.int .i64 b', .slice E2 (aSet b' es.length (aNum b' es + aNum b ds)).length k2], .bool (!isNm (pw b' es.length) (aNum b' es + aNum b ds)), .int .i64 0]) ∧
    Kn w [rowI E2 k2 (aSet b' es.length (aNum b' es + aNum b ds)), rowI E1 k1 (digD b ds.length 0)] w')
theorem tfC_bad {b b' : Int} {ds es : List Int} (h : (aOk b ds && aOk b' es) = false) : tfC b ds b' es = 1 := by unfold tfC; rw [if_pos h]
end Go.Proofs.YtmmiahgmdllgdaaGreatDoor

namespace Go.Proofs.YtmmiahgmdllgdaaGreatDoor
open Go.RowKit Go.Sort
def accD (b : Int) (ds xs : List Int) : Nat → List Int
  | 0 => ds
  | k + 1 => aSet b ds.length (aNum b (accD b ds xs k) + xs.getD k 0)
def accB (b : Int) (ds xs : List Int) : Nat → List Int
  | 0 => []
  | k + 1 => if isNm (pw b ds.length) (aNum b (accD b ds xs k) + xs.getD k 0) = true then accB b ds xs k else accB b ds xs k ++ [(k : Int)]
def inA (xs : List Int) : Bool := xs.all (fun x => betB x (-1000000000000) 1000000000000)
def aaC (b : Int) (ds xs : List Int) : Int := if aOk b ds = false then 1 else if inA xs = false then 2 else 0
theorem aSet_len (b : Int) (k : Nat) (x : Int) : (aSet b k x).length = k := digD_len ..
theorem accD_len (b : Int) (ds xs : List Int) (k : Nat) : (accD b ds xs k).length = ds.length := by
  cases k with
  | zero => rfl
  | succ k => exact aSet_len ..
theorem accB_len (b : Int) (ds xs : List Int) (k : Nat) : (accB b ds xs k).length ≤ k := by
  induction k with
  | zero => simp [accB]
  | succ k ih => unfold accB; split; omega; rw [List.length_append]; simp; omega
theorem aSet_ok {b : Int} {ds : List Int} (h : aOk b ds = true) (x : Int) : aOk b (aSet b ds.length x) = true := by
  obtain ⟨h1, h2⟩ := aOk_iff.1 h
  obtain ⟨⟨b1, b2⟩, ⟨n1, n2⟩, -⟩ := vreg_iff.1 h1
  have hp := pw_pos b b1 ds.length
  have hb := aNorm_bd (n := pw b ds.length) (x := x) hp
  refine aOk_iff.2 ⟨?_, by rw [aSet_len]; exact h2⟩
  exact digD_vreg b b1 b2 _ n1 n2 _ hb.1 hb.2 (by omega)
theorem accD_ok {b : Int} {ds : List Int} (h : aOk b ds = true) (xs : List Int) (k : Nat) : aOk b (accD b ds xs k) = true := by
  cases k with
  | zero => exact h
  | succ k => exact aSet_ok h _
theorem inA_take_succ {xs : List Int} {k : Nat} (h : k < xs.length) : inA (xs.take (k + 1)) = (inA (xs.take k) && betB xs[k] (-1000000000000) 1000000000000) := by
  unfold inA; rw [List.take_succ_eq_append_getElem h, List.all_append]; simp only [List.all_cons, List.all_nil, Bool.and_true]
theorem inA_not {xs : List Int} {k : Nat} (h : k < xs.length) (h1 : betB xs[k] (-1000000000000) 1000000000000 = false) : inA xs = false := by
  simp only [inA, List.all_eq_false]; exact ⟨xs[k], List.getElem_mem _, by simp [h1]⟩
/-- what the adding of numbers returns -/
def AARet (b : Int) (ds xs : List Int) (w : World) (e : Ending) (w' : World) : Prop :=
  (aaC b ds xs ≠ 0 ∧ e = .returned (.tuple #[.agg #[.int .i64 0, .slice none 0 0], .slice none 0 0, .int .i64 (aaC b ds xs)]) ∧ Below w.heap.size w w') ∨
  (aaC b ds xs = 0 ∧ ∃ E k B m, e = .returned (.tuple #[.agg #[.int .i64 b, .slice E (accD b ds xs xs.length).length k], .slice B (accB b ds xs xs.length).length m, .int .i64 0]) ∧
    Kn w [rowI B m (accB b ds xs xs.length), rowI E k (accD b ds xs xs.length)] w')
theorem accD_succ (b : Int) (ds : List Int) {xs : List Int} {i : Nat} (h : i < xs.length) : accD b ds xs (i + 1) = aSet b ds.length (aNum b (accD b ds xs i) + xs[i]) := by rw [← getD_of h]; rfl
theorem accB_succ (b : Int) (ds : List Int) {xs : List Int} {i : Nat} (h : i < xs.length) : accB b ds xs (i + 1) = if isNm (pw b ds.length) (aNum b (accD b ds xs i) + xs[i]) = true then accB b ds xs i else accB b ds xs i ++ [(i : Int)] := by rw [← getD_of h]; rfl
theorem inA_get {xs : List Int} (h : inA xs = true) {i : Nat} (hi : i < xs.length) : betB xs[i] (-1000000000000) 1000000000000 = true := by
  unfold inA at h
  exact List.all_eq_true.1 h _ (List.getElem_mem _)
end Go.Proofs.YtmmiahgmdllgdaaGreatDoor

namespace Go.Proofs.YtmmiahgmdllgdaaGreatDoor
open Go.RowKit Go.Sort
end Go.Proofs.YtmmiahgmdllgdaaGreatDoor

namespace Go.Proofs.YtmmiahgmdllgdaaGreatDoor
open Go.RowKit Go.Sort
/-- what the drawing of a good register returns -/
def DReg (b M : Nat) (w : World) (e : Ending) (w' : World) : Prop := ∃ (bs : Int) (A : Option Addr) (c : Nat) (ds : List Int), e = .returned (.agg #[.int .i64 bs, .slice A ds.length c]) ∧ (2 ≤ bs ∧ bs ≤ 12 ∧ 1 ≤ ds.length ∧ ds.length ≤ 6) ∧ DR b M w [rowI A c ds] w'
theorem min6 {q k : Nat} (h : 0 ≤ (q : Int) ∧ ((q : Int) < min 6 (k : Int) ∨ min 6 (k : Int) ≤ 1 ∧ (q : Int) = 0)) : q ≤ 5 := by omega
theorem wrapQ {q : Nat} (h : q ≤ 5) : IntKind.i64.wrap (1 + (q : Int)) = ((q + 1 : Nat) : Int) := by rw [wrapI64 (by omega)]; omega
end Go.Proofs.YtmmiahgmdllgdaaGreatDoor

namespace Go.Proofs.YtmmiahgmdllgdaaGreatDoor
open Go.RowKit Go.Sort
end Go.Proofs.YtmmiahgmdllgdaaGreatDoor

namespace Go.Proofs.YtmmiahgmdllgdaaGreatDoor
open Go.RowKit Go.Sort
theorem DR.ad {b N : Nat} {w wi w' : World} {m m' : List Ent} (h : DR b N w m wi) (h1 : Kn wi m' w') : DR b N w (m' ++ m) w' := h.kn (fun _ hK => hK.join h1)
theorem pw_12 {b : Int} (b1 : 2 ≤ b) (b2 : b ≤ 12) (k : Nat) : pw b k ≤ pw 12 k := by
  induction k with
  | zero => exact Int.le_refl _
  | succ k ih =>
    rw [pw_succ, pw_succ]
    have := pw_pos b b1 k
    exact Int.mul_le_mul ih b2 (by omega) (by have := pw_pos 12 (by omega) k; omega)
theorem pw_small {b : Int} (b1 : 2 ≤ b) (b2 : b ≤ 12) {k : Nat} (hk : k ≤ 6) : pw b k ≤ 2985984 := by
  have h1 := pw_12 b1 b2 k
  have h2 := pw_mono 12 (by omega) k 6 hk
  have h3 : pw 12 6 = 2985984 := by decide
  omega
/-- what the drawing of a register returns -/
def DReg2 (b M : Nat) (w : World) (e : Ending) (w' : World) : Prop := ∃ (bs : Int) (A : Option Addr) (c : Nat) (ds : List Int), e = .returned (.agg #[.int .i64 bs, .slice A ds.length c]) ∧ ds.length ≤ 20 ∧ DR b M w [rowI A c ds] w'
end Go.Proofs.YtmmiahgmdllgdaaGreatDoor

namespace Go.Proofs.YtmmiahgmdllgdaaGreatDoor
open Go.RowKit Go.Sort
theorem DR.setI {b N : Nat} {w wi : World} {m : List Ent} {g c : Nat} {ds : List Int} (h : DR b N w (rowI (some ⟨g, 0, none⟩) c ds :: m) wi) (j : Nat) (v : Int) : DR b N w (rowI (some ⟨g, 0, none⟩) c (ds.set j v) :: m) (wi.setCell ⟨g, j, none⟩ (.int .i64 v)) := h.kn (fun _ hK => hK.setI j v)
theorem DR.rowCell {b N : Nat} {w wi : World} {m : List Ent} {g c : Nat} {ds : List Int} (h : DR b N w (rowI (some ⟨g, 0, none⟩) c ds :: m) wi) {j : Nat} (hj : j < ds.length) : wi.cell? ⟨g, j, none⟩ = some (.int .i64 ds[j]) ∧ wi.frozen? ⟨g, j, none⟩ = false ∧ g < wi.heap.size := by
  obtain ⟨v, -, -, hK⟩ := h
  have h1 := Kn.rowCell hK (j := j) (u := .int .i64 ds[j]) (by simp [hj])
  exact ⟨h1.1, h1.2, World.block_lt_of_cell? wi _ h1.1⟩
theorem DR.rowForm {b N : Nat} {w wi : World} {m : List Ent} {A : Option Addr} {c : Nat} {ds : List Int} (h : DR b N w (rowI A c ds :: m) wi) (hd : 0 < ds.length) : ∃ g, A = some ⟨g, 0, none⟩ := by
  obtain ⟨v, -, -, hK⟩ := h
  obtain ⟨g, c', he⟩ := Kn.rowForm hK hd
  injection he with he
  exact ⟨g, he⟩
theorem idxL {j L : Nat} (h : 0 ≤ (j : Int) ∧ ((j : Int) < (L : Int) ∨ (L : Int) ≤ 1 ∧ (j : Int) = 0)) (h1 : 1 ≤ L) : j < L := by omega
end Go.Proofs.YtmmiahgmdllgdaaGreatDoor

namespace Go.Proofs.YtmmiahgmdllgdaaGreatDoor
open Go.RowKit Go.Sort
end Go.Proofs.YtmmiahgmdllgdaaGreatDoor

namespace Go.Proofs.YtmmiahgmdllgdaaGreatDoor
open Go.RowKit Go.Sort
/-- a register that a law's draw returns -/
def DrawsReg (w : World) (e : Ending) (w' : World) : Prop := ∃ (bs : Int) (A : Option Addr) (c : Nat) (ds : List Int), e = .returned (.agg #[.int .i64 bs, .slice A ds.length c]) ∧ ds.length ≤ 20 ∧ Kn w [rowI A c ds] w'
end Go.Proofs.YtmmiahgmdllgdaaGreatDoor

namespace Go.Proofs.YtmmiahgmdllgdaaGreatDoor
open Go.RowKit Go.Sort
end Go.Proofs.YtmmiahgmdllgdaaGreatDoor

namespace Go.Proofs.YtmmiahgmdllgdaaGreatDoor
open Go.RowKit Go.Sort
/-- what the draw of two registers returns -/
def Draws2 (w : World) (e : Ending) (w' : World) : Prop := ∃ (b : Int) (A : Option Addr) (c : Nat) (ds : List Int) (b2 : Int) (B : Option Addr) (k : Nat) (es : List Int), e = .returned (.tuple #[.agg #[.int .i64 b, .slice A ds.length c], .agg #[.int .i64 b2, .slice B es.length k]]) ∧ (ds.length ≤ 20 ∧ es.length ≤ 20) ∧ Kn w [rowI A c ds, rowI B k es] w'
theorem pick5 {q : Nat} (h : 0 ≤ (q : Int) ∧ ((q : Int) < 5 ∨ (5 : Int) ≤ 1 ∧ (q : Int) = 0)) : q ≤ 5 := by omega
end Go.Proofs.YtmmiahgmdllgdaaGreatDoor

namespace Go.Proofs.YtmmiahgmdllgdaaGreatDoor
open Go.RowKit Go.Sort
theorem f6big_any (A : Option Addr) (n c : Nat) (w : World) : Calls Tryz.prog 6 #[.slice A n c] w fun e w' => e = .returned (.bool (decide ((n : Int) > 4096))) ∧ w' = w := by
  go_enter Tryz.func6, Tryz.ntmps6
  go_wp2
  go_ret
  exact ⟨rfl, rfl⟩
set_option maxHeartbeats 400000 in
theorem f6ints_any (A B : Option Addr) (n c m d : Nat) (ds es : List Int) (w : World) (hr : RI w A n ds) (hs : RI w B m es) (hm : n ≤ 9223372036854775807) (hm2 : m ≤ 9223372036854775807) :
    Calls Tryz.prog 23 #[.slice A n c, .slice B m d] w fun e w' => e = .returned (.bool (decide (ds = es))) ∧ ∃ q, w' = w.drewN q := by
  have HL := Lib.hid hr.1
  have HM := Lib.hid hs.1
  by_cases hnm : n = m
  · subst hnm
    go_enter Tryz.func23, Tryz.ntmps23
    go_wp2
    go_loopw [5] (fun i wr => ∃ k : Nat, k ≤ n ∧ i = .int .i64 k ∧ ds.take k = es.take k ∧ ∃ q, wr = w.drewN q) (fun i _ => n - (intOf i).toNat)
    case atStart => exact ⟨0, Nat.zero_le _, rfl, by simp, 0, rfl⟩
    case round =>
      obtain ⟨k, hk, rfl, hdg, q, rfl⟩ := hrel
      have HD := Lib.hid hdg; clear hdg
      by_cases hkn : k < n
      · obtain ⟨ad, hA, hlt, hkl, hc⟩ := hr.at_ hkn
        obtain ⟨ad2, hB, hlt2, hkl2, hc2⟩ := hs.at_ hkn
        subst hA; subst hB
        have hi0 : (0 : Int) ≤ (k : Int) := by omega
        have hi1 : (k : Int) < (n : Int) := by omega
        rcases hd : (ds[k] != es[k]) with _ | _
        · go_wp2
          go_quiet (fail)
          go_wp2
          have he : ds[k] = es[k] := by simpa using hd
          have HE := Lib.hid he; clear he
          go_roundw
          case rel => exact ⟨k + 1, by omega, by go_num, take_eq_of_succ HD.out hkl hkl2 HE.out, by first | exact ⟨_, rfl⟩ | exact ⟨_, World.drewN_drewN _ _ _⟩⟩
          case measure => simp [intOf]; omega
        · go_wp2
          go_quiet (fail)
          go_wp2
          go_ret
          refine ⟨ret_bool ?_, by first | exact ⟨_, rfl⟩ | exact ⟨_, World.drewN_drewN _ _ _⟩⟩
          have : ds ≠ es := by rintro rfl; simp at hd
          simp [this]
      · have HF : Hid (ds = es) := by
          have := HD.out
          rwa [List.take_of_length_le (by have := HL.out; omega), List.take_of_length_le (by have := HM.out; omega)] at this
        go_wp2
        go_ret
        exact ⟨ret_bool (by simp [HF.out]), q, rfl⟩
  · have HF : Hid (ds ≠ es) := by rintro rfl; exact hnm (hr.1.symm.trans hs.1)
    go_enter Tryz.func23, Tryz.ntmps23
    go_wp2
    go_ret
    exact ⟨ret_bool (by simp [HF.out]), 0, rfl⟩
end Go.Proofs.YtmmiahgmdllgdaaGreatDoor

namespace Go.Proofs.YtmmiahgmdllgdaaGreatDoor
open Go.RowKit Go.Sort
/-! drums, plainly -/
structure Dr where
  k : Int
  b : Int
  t : Int
  f : Int
def drOk (d : Dr) : Bool := betB d.k 1 3 && (betB d.b 2 16 && (betB d.t d.b 60 && (if d.k = 3 then decide (d.f = 0) else betB d.f 1 (d.t - d.b + 2))))
/-- the time of a turn at which the tooth j of a drum that is set to g makes its step -/
def dTime (d : Dr) (g : Int) (j : Nat) : Int := if d.k = 1 then d.f + d.b - 1 - g + j else if d.k = 2 then d.f + j else (((j : Int) + 1) * d.t + g - 1) / g
def dTimes (d : Dr) (g : Int) : List Int := (List.range g.toNat).map (dTime d g)
theorem drOk_iff {d : Dr} : drOk d = true ↔ (1 ≤ d.k ∧ d.k ≤ 3) ∧ (2 ≤ d.b ∧ d.b ≤ 16) ∧ (d.b ≤ d.t ∧ d.t ≤ 60) ∧ ((d.k = 3 ∧ d.f = 0) ∨ (d.k ≠ 3 ∧ 1 ≤ d.f ∧ d.f ≤ d.t - d.b + 2)) := by
  unfold drOk
  by_cases h3 : d.k = 3
  · rw [if_pos h3]
    simp only [betB, Bool.and_eq_true, decide_eq_true_eq]
    omega
  · rw [if_neg h3]
    simp only [betB, Bool.and_eq_true, decide_eq_true_eq]
    omega
/-- the rack's times lie in the turn -/
theorem rack_bd {t g j : Int} (ht : 1 ≤ t) (hg : 1 ≤ g) (hj : 0 ≤ j) (hjg : j < g) : 1 ≤ ((j + 1) * t + g - 1) / g ∧ ((j + 1) * t + g - 1) / g ≤ t := by
  constructor
  · rw [Int.le_ediv_iff_mul_le (by omega)]
    have : 1 * 1 ≤ (j + 1) * t := Int.mul_le_mul (by omega) (by omega) (by omega) (by omega)
    omega
  · have h1 : ((j + 1) * t + g - 1) / g < t + 1 := by
      rw [Int.ediv_lt_iff_lt_mul (by omega)]
      have h2 : (j + 1) * t ≤ g * t := Int.mul_le_mul_of_nonneg_right (by omega) (by omega)
      rw [Int.add_mul (a := t), Int.one_mul, Int.mul_comm t g]
      omega
    omega
theorem dTime_bd {d : Dr} (h : drOk d = true) {g : Int} {j : Nat} (hj : (j : Int) < g) (hg : g < d.b) : 1 ≤ dTime d g j ∧ dTime d g j ≤ d.t := by
  obtain ⟨⟨k1, k2⟩, ⟨b1, b2⟩, ⟨t1, t2⟩, h4⟩ := drOk_iff.1 h
  unfold dTime
  by_cases e1 : d.k = 1
  · rw [if_pos e1]; omega
  · rw [if_neg e1]
    by_cases e2 : d.k = 2
    · rw [if_pos e2]; omega
    · rw [if_neg e2]
      exact rack_bd (by omega) (by omega) (by omega) hj
/-- one tooth's step lies behind the step of the tooth ahead of it -/
theorem dTime_lt {d : Dr} (h : drOk d = true) {g : Int} {i j : Nat} (hij : i < j) (hj : (j : Int) < g) (hg : g < d.b) : dTime d g i < dTime d g j := by
  obtain ⟨⟨k1, k2⟩, ⟨b1, b2⟩, ⟨t1, t2⟩, h4⟩ := drOk_iff.1 h
  unfold dTime
  by_cases e1 : d.k = 1
  · rw [if_pos e1, if_pos e1]; omega
  · rw [if_neg e1, if_neg e1]
    by_cases e2 : d.k = 2
    · rw [if_pos e2, if_pos e2]; omega
    · rw [if_neg e2, if_neg e2]
      have hg0 : 0 < g := by omega
      have h1 : ((i : Int) + 1) * d.t + g - 1 + g ≤ ((j : Int) + 1) * d.t + g - 1 := by
        have h2 : ((i : Int) + 1 + 1) * d.t ≤ ((j : Int) + 1) * d.t := Int.mul_le_mul_of_nonneg_right (by omega) (by omega)
        rw [Int.add_mul, Int.one_mul] at h2
        omega
      have h3 := Int.ediv_le_ediv hg0 h1
      rw [Int.add_ediv_of_dvd_right (Int.dvd_refl g), Int.ediv_self (by omega)] at h3
      omega
/-! walks -/
/-- a drum in a block -/
def DrAt (w : World) (g : Nat) (d : Dr) : Prop := w.cell? ⟨g, 0, none⟩ = some (.int .i64 d.k) ∧ w.cell? ⟨g, 1, none⟩ = some (.int .i64 d.b) ∧ w.cell? ⟨g, 2, none⟩ = some (.int .i64 d.t) ∧ w.cell? ⟨g, 3, none⟩ = some (.int .i64 d.f)
theorem DrAt.below {w w' : World} {g : Nat} {d : Dr} (h : DrAt w g d) (hb : Below w.heap.size w w') : DrAt w' g d := by
  have hlt : g < w.heap.size := World.block_lt_of_cell? w _ h.1
  exact ⟨(hb.cell (p := ⟨g, 0, none⟩) hlt).trans h.1, (hb.cell (p := ⟨g, 1, none⟩) hlt).trans h.2.1, (hb.cell (p := ⟨g, 2, none⟩) hlt).trans h.2.2.1, (hb.cell (p := ⟨g, 3, none⟩) hlt).trans h.2.2.2⟩
end Go.Proofs.YtmmiahgmdllgdaaGreatDoor

namespace Go.Proofs.YtmmiahgmdllgdaaGreatDoor
open Go.RowKit Go.Sort
/-! the codes -/
def drCode (d : Dr) (g : Int) : Int := if drOk d = false then 1 else if betB g 0 (d.b - 1) = false then 2 else 0
end Go.Proofs.YtmmiahgmdllgdaaGreatDoor

namespace Go.Proofs.YtmmiahgmdllgdaaGreatDoor
open Go.RowKit Go.Sort
theorem dTimes_succ (d : Dr) (g : Int) (k : Nat) : (List.range (k + 1)).map (dTime d g) = (List.range k).map (dTime d g) ++ [dTime d g k] := by rw [List.range_succ, List.map_append]; rfl
theorem dTimes_len (d : Dr) (g : Int) : (dTimes d g).length = g.toNat := by simp [dTimes]
theorem dTime1 {b t f g : Int} {j : Nat} : dTime ⟨1, b, t, f⟩ g j = f + b - 1 - g + j := by simp [dTime]
theorem dTime2 {b t f g : Int} {j : Nat} : dTime ⟨2, b, t, f⟩ g j = f + j := by simp [dTime]
theorem dTime3 {b t f g : Int} {j : Nat} : dTime ⟨3, b, t, f⟩ g j = (((j : Int) + 1) * t + g - 1) / g := by simp [dTime]
theorem dr_kind {d : Dr} (h : drOk d = true) : d.k = 1 ∨ d.k = 2 ∨ d.k = 3 := by have := (drOk_iff.1 h).1; omega
end Go.Proofs.YtmmiahgmdllgdaaGreatDoor

namespace Go.Proofs.YtmmiahgmdllgdaaGreatDoor
open Go.RowKit Go.Sort
/-- the row of a drum's times -/
def TMRet (d : Dr) (n : Nat) (w : World) (e : Ending) (w' : World) : Prop := ∃ A c, e = .returned (.slice A n c) ∧ Kn w [rowI A c (dTimes d n)] w'
theorem dTimes_nat (d : Dr) (n : Nat) : dTimes d n = (List.range n).map (dTime d n) := by unfold dTimes; rw [Int.toNat_natCast]
theorem Kn.rowSlice {w0 w : World} {m : List Ent} {v : Value} {T : TypeId} {size n : Nat} {xs : List Value} (h : Kn w0 (.row v T size n xs :: m) w) : ∃ A c, v = .slice A n c := by
  have h0 : w.ownsRow 0 T size v n xs := h.at0
  rcases h0.2 with ⟨rfl, rfl⟩ | ⟨g, cap, cur, rfl, -⟩
  · exact ⟨none, 0, rfl⟩
  · exact ⟨_, _, rfl⟩
end Go.Proofs.YtmmiahgmdllgdaaGreatDoor

namespace Go.Proofs.YtmmiahgmdllgdaaGreatDoor
open Go.RowKit Go.Sort
/-- how many of the first j teeth have made their step at a time m of the turn -/
def dCnt (d : Dr) (n : Nat) (m : Int) (j : Nat) : Nat := ((List.range j).map (dTime d n)).countP (fun x => decide (x ≤ m))
theorem dCnt_succ (d : Dr) (n : Nat) (m : Int) (j : Nat) : dCnt d n m (j + 1) = dCnt d n m j + (if dTime d n j ≤ m then 1 else 0) := by
  unfold dCnt
  rw [dTimes_succ, List.countP_append, List.countP_singleton]
  simp
theorem dCnt_le (d : Dr) (n : Nat) (m : Int) (j : Nat) : dCnt d n m j ≤ j := by
  unfold dCnt
  have := List.countP_le_length (p := fun x => decide (x ≤ m)) (l := (List.range j).map (dTime d n))
  simpa using this
def dBy (d : Dr) (n : Nat) (tm : Int) : Int := tm / d.t * n + dCnt d n (tm % d.t) n
theorem dTimes_get (d : Dr) (n : Nat) {j : Nat} (hj : j < n) : ∃ h : j < (dTimes d n).length, (dTimes d n)[j] = dTime d n j := by
  refine ⟨by rw [dTimes_len]; omega, ?_⟩
  unfold dTimes
  simp
end Go.Proofs.YtmmiahgmdllgdaaGreatDoor

namespace Go.Proofs.YtmmiahgmdllgdaaGreatDoor
open Go.RowKit Go.Sort
/-! two registers -/
def twoC (a : Int) (xs : List Int) (b : Int) (ys : List Int) : Int := if (vreg a xs && vreg b ys) = false then 1 else if a ≠ b ∨ xs.length ≠ ys.length then 6 else 0
end Go.Proofs.YtmmiahgmdllgdaaGreatDoor

namespace Go.Proofs.YtmmiahgmdllgdaaGreatDoor
open Go.RowKit Go.Sort
end Go.Proofs.YtmmiahgmdllgdaaGreatDoor

namespace Go.Proofs.YtmmiahgmdllgdaaGreatDoor
open Go.RowKit Go.Sort
def carL (b : Int) (xs ys : List Int) (n : Nat) : List Int := (List.range n).map (carK b xs ys)
theorem carL_succ (b : Int) (xs ys : List Int) (n : Nat) : carL b xs ys (n + 1) = carL b xs ys n ++ [carK b xs ys n] := by unfold carL; rw [List.range_succ, List.map_append]; rfl
theorem carL_len (b : Int) (xs ys : List Int) (n : Nat) : (carL b xs ys n).length = n := by simp [carL]
theorem carL_get (b : Int) (xs ys : List Int) {n i : Nat} (h : i < n) : ∃ h' : i < (carL b xs ys n).length, (carL b xs ys n)[i] = carK b xs ys i := ⟨by rw [carL_len]; exact h, by simp [carL]⟩
def ADRet (b : Int) (xs ys : List Int) (w : World) (e : Ending) (w' : World) : Prop := ∃ E ec F fc, e = .returned (.tuple #[.agg #[.int .i64 b, .slice E xs.length ec], .slice F (xs.length + 1) fc]) ∧ Kn w [rowI E ec (addD b xs ys xs.length), rowI F fc (carL b xs ys (xs.length + 1))] w'
end Go.Proofs.YtmmiahgmdllgdaaGreatDoor

namespace Go.Proofs.YtmmiahgmdllgdaaGreatDoor
open Go.RowKit Go.Sort
/-- a register, a number and the code 0 -/
def R3Ret (b : Int) (es : List Int) (c : Int) (w : World) (e : Ending) (w' : World) : Prop := ∃ E ec, e = .returned (.tuple #[.agg #[.int .i64 b, .slice E es.length ec], .int .i64 c, .int .i64 0]) ∧ Kn w [rowI E ec es] w'
theorem add_vreg {b : Int} {xs : List Int} (hb : 2 ≤ b) (hb16 : b ≤ 16) (ys : List Int) (h1 : 1 ≤ xs.length) (h2 : xs.length ≤ 16) (hp : pw b xs.length ≤ 1000000000001) : vreg b (addD b xs ys xs.length) = true :=
  vreg_short hb hb16 (addD_digs hb xs ys _) (by rw [addD_len]; exact h1) (by rw [addD_len]; exact h2) (by rw [addD_len]; exact hp)
end Go.Proofs.YtmmiahgmdllgdaaGreatDoor

namespace Go.Proofs.YtmmiahgmdllgdaaGreatDoor
open Go.RowKit Go.Sort
theorem subD_digs {b : Int} (hb : 2 ≤ b) {xs ys : List Int} (hx : Digs b xs) (hy : Digs b ys) (n : Nat) : Digs b (subD b xs ys n) := fun d hd => by
  obtain ⟨i, -, rfl⟩ := List.mem_map.1 hd
  have h1 := hx.at hb i
  have h2 := hy.at hb i
  have h3 := borK_bd xs ys i
  unfold subK
  split <;> omega
end Go.Proofs.YtmmiahgmdllgdaaGreatDoor

namespace Go.Proofs.YtmmiahgmdllgdaaGreatDoor
open Go.RowKit Go.Sort
/-- what the drawing of a good register returns -/
def DReg7 (b M : Nat) (w : World) (e : Ending) (w' : World) : Prop := ∃ (bs : Int) (A : Option Addr) (c : Nat) (ds : List Int), e = .returned (.agg #[.int .i64 bs, .slice A ds.length c]) ∧ (2 ≤ bs ∧ bs ≤ 12 ∧ 1 ≤ ds.length ∧ ds.length ≤ 7 ∧ ∀ d ∈ ds, 0 ≤ d ∧ d < bs) ∧ DR b M w [rowI A c ds] w'
theorem min7 {q k : Nat} (h : 0 ≤ (q : Int) ∧ ((q : Int) < min 7 (k : Int) ∨ min 7 (k : Int) ≤ 1 ∧ (q : Int) = 0)) : q ≤ 6 := by omega
theorem wrapQ7 {q : Nat} (h : q ≤ 6) : IntKind.i64.wrap (1 + (q : Int)) = ((q + 1 : Nat) : Int) := by rw [wrapI64 (by omega)]; omega
end Go.Proofs.YtmmiahgmdllgdaaGreatDoor

namespace Go.Proofs.YtmmiahgmdllgdaaGreatDoor
open Go.RowKit Go.Sort
theorem compD_take (b : Int) {xs : List Int} {k : Nat} (h : k < xs.length) : compD b (xs.take (k + 1)) = compD b (xs.take k) ++ [b - 1 - xs[k]] := by
  unfold compD; rw [List.take_succ_eq_append_getElem h, List.map_append]; rfl
theorem compD_len (b : Int) (xs : List Int) : (compD b xs).length = xs.length := by simp [compD]
end Go.Proofs.YtmmiahgmdllgdaaGreatDoor

namespace Go.Proofs.YtmmiahgmdllgdaaGreatDoor
open Go.RowKit Go.Sort
/-- two registers of digits of one base and width -/
def A2R (w : World) (e : Ending) (w' : World) : Prop := ∃ (b : Int) (A : Option Addr) (c : Nat) (ds : List Int) (B : Option Addr) (k : Nat) (es : List Int), e = .returned (.tuple #[.agg #[.int .i64 b, .slice A ds.length c], .agg #[.int .i64 b, .slice B ds.length k]]) ∧ ((2 ≤ b ∧ b ≤ 12) ∧ (1 ≤ ds.length ∧ ds.length ≤ 7) ∧ es.length = ds.length ∧ Digs b ds ∧ Digs b es) ∧ Kn w [rowI A c ds, rowI B k es] w'
end Go.Proofs.YtmmiahgmdllgdaaGreatDoor

namespace Go.Proofs.YtmmiahgmdllgdaaGreatDoor
open Go.RowKit Go.Sort
structure Flt where
  kind : Int
  lever : Int
def FltM (w : World) (p : Addr) (f : Flt) : Prop := w.cell? p = some (.int .i64 f.kind) ∧ w.cell? ⟨p.block, p.off + 1, none⟩ = some (.int .i64 f.lever)
theorem steady_FltM : Steady FltM := by
  rintro w w' p f hp hb ⟨h1, h2⟩
  exact ⟨by rw [hb.cell hp]; exact h1, by rw [hb.cell (by exact hp)]; exact h2⟩
def kindAt (fs : List Flt) (j : Int) : Int := fs.foldl (fun a f => if f.lever = j then f.kind else a) 0
theorem kindAt_succ {fs : List Flt} {k : Nat} (h : k < fs.length) (j : Int) : kindAt (fs.take (k + 1)) j = if fs[k].lever = j then fs[k].kind else kindAt (fs.take k) j := by
  unfold kindAt
  rw [List.take_succ_eq_append_getElem h, List.foldl_append]; rfl
def kindsL (fs : List Flt) (n : Nat) : List Int := (List.range n).map (fun (i : Nat) => kindAt fs (i : Int))
theorem kindsL_set {fs : List Flt} {k n l : Nat} (h : k < fs.length) (hl : fs[k].lever = (l : Int)) : ((kindsL (fs.take k) n).map (Value.int .i64)).set l (.int .i64 fs[k].kind) = (kindsL (fs.take (k + 1)) n).map (Value.int .i64) := by
  apply List.ext_getElem
  · simp [kindsL]
  · intro i h1 h2
    rw [List.getElem_set]
    simp only [kindsL, List.map_map, List.getElem_map, List.getElem_range, Function.comp, kindAt_succ h, hl]
    by_cases g : l = i
    · subst g; simp
    · have : ¬ (l : Int) = (i : Int) := by omega
      rw [if_neg g, if_neg this]
theorem kindsL_nil (n : Nat) : (kindsL [] n).map (Value.int .i64) = List.replicate n (.int .i64 0) := by
  apply List.ext_getElem
  · simp [kindsL]
  · intro i h1 h2; simp [kindsL, kindAt]
def GoodF (n : Nat) (fs : List Flt) : Prop := ∀ f ∈ fs, 1 ≤ f.kind ∧ f.kind ≤ 3 ∧ 0 ≤ f.lever ∧ f.lever < n
end Go.Proofs.YtmmiahgmdllgdaaGreatDoor

namespace Go.Proofs.YtmmiahgmdllgdaaGreatDoor
open Go.RowKit Go.Sort
def carryAt (base : Int) (A B : List Int) (fs : List Flt) : Nat → Int
  | 0 => 0
  | k + 1 => cstep base (A.getD k 0 + B.getD k 0) (carryAt base A B fs k) (kindAt fs k)
def sumD (base : Int) (A B : List Int) (fs : List Flt) (k : Nat) : Int := (A.getD k 0 + B.getD k 0 + carryAt base A B fs k).tmod base
def sumL (base : Int) (A B : List Int) (fs : List Flt) (n : Nat) : List Int := (List.range n).map (sumD base A B fs)
theorem sumL_succ (base : Int) (A B : List Int) (fs : List Flt) (n : Nat) : sumL base A B fs (n + 1) = sumL base A B fs n ++ [sumD base A B fs n] := by simp [sumL, List.range_succ]
theorem sumL_len (base : Int) (A B : List Int) (fs : List Flt) (n : Nat) : (sumL base A B fs n).length = n := by simp [sumL]
theorem cstep_bd (base t c k : Int) : 0 ≤ cstep base t c k ∧ cstep base t c k ≤ 1 := by unfold cstep; split <;> (try split) <;> (try split) <;> (try split) <;> omega
theorem carryAt_bd (base : Int) (A B : List Int) (fs : List Flt) (k : Nat) : 0 ≤ carryAt base A B fs k ∧ carryAt base A B fs k ≤ 1 := by
  cases k with
  | zero => simp [carryAt]
  | succ k => exact cstep_bd _ _ _ _
end Go.Proofs.YtmmiahgmdllgdaaGreatDoor

namespace Go.Proofs.YtmmiahgmdllgdaaGreatDoor
open Go.RowKit Go.Sort Go.Maps
theorem law_i64 : Keyed Tryz.prog 2 := int_keyed Tryz.underlying2
theorem zero_i64 (w : World) : (zeroValue 2).run Tryz.prog w = .ok (.int .i64 0) w := by kernel_rfl
def MapIs (D : DataW Unit) (fs : List Flt) : Prop := IsMap D ∧ ∀ j : Int, D.atKey (.int .i64 j) (.lit (.int .i64 0)) = .lit (.int .i64 (kindAt fs j))
theorem MapIs.nil : MapIs (.map []) [] := ⟨⟨_, rfl⟩, fun _ => rfl⟩
theorem MapIs.put {D : DataW Unit} {fs : List Flt} {k : Nat} (h : MapIs D (fs.take k)) (hk : k < fs.length) : MapIs (D.put (.int .i64 fs[k].lever) (.lit (.int .i64 fs[k].kind))) (fs.take (k + 1)) := by
  obtain ⟨h1, h2⟩ := h
  refine ⟨?_, fun j => ?_⟩
  · obtain ⟨es, rfl⟩ := h1
    exact ⟨_, rfl⟩
  · rw [kindAt_succ hk]
    by_cases g : fs[k].lever = j
    · rw [if_pos g, g, atKey_put_same h1 (by trivial)]
    · rw [if_neg g, atKey_put_other (by intro e; injection e with _ e; exact g e.symm), h2]
theorem qstep (base t c : Int) (h0 : 0 ≤ t + c) (h1 : t + c < 2 * base) : (t + c) / base = if t + c < base then 0 else 1 := by
  split
  · rename_i h; exact Int.ediv_eq_zero_of_lt h0 h
  · rename_i h
    have hb : 0 < base := by omega
    rw [show t + c = (t + c - base) + 1 * base by omega, Int.add_mul_ediv_right _ _ (by omega), Int.ediv_eq_zero_of_lt (by omega) (by omega)]; rfl
theorem carry_1 {base t c cc : Int} (h : (cc == 1) = true) : cstep base t c cc = 0 := by unfold cstep; rw [if_pos (by simpa using h)]
theorem carry_2 {base t c cc : Int} (h1 : (cc == 1) = false) (h : (cc == 2) = true) : cstep base t c cc = 1 := by unfold cstep; rw [if_neg (by simpa using h1), if_pos (by simpa using h)]
theorem carry_3 {base t c cc : Int} (h1 : (cc == 1) = false) (h2 : (cc == 2) = false) (h : (cc == 3) = true) (hq : t / base = if t < base then 0 else 1) : cstep base t c cc = t / base := by
  unfold cstep; rw [if_neg (by simpa using h1), if_neg (by simpa using h2), if_pos (by simpa using h), hq]
theorem carry_4 {base t c cc : Int} (h1 : (cc == 1) = false) (h2 : (cc == 2) = false) (h : (cc == 3) = false) (hq : (t + c) / base = if t + c < base then 0 else 1) : cstep base t c cc = (t + c) / base := by
  unfold cstep; rw [if_neg (by simpa using h1), if_neg (by simpa using h2), if_neg (by simpa using h), hq]
theorem ownsMap_below {w w' : World} {k e : TypeId} {b n : Nat} {D : DataW Unit} (h : w.ownsMap Tryz.prog k (plainElem Tryz.prog e) b n D) (hb : Below w.heap.size w w') : w'.ownsMap Tryz.prog k (plainElem Tryz.prog e) b n D := by
  have hlt := h.lt
  obtain ⟨es, clock, h1, F, hs, hD⟩ := h
  exact ⟨es, clock, (hb.block b hlt).trans h1, F, hs, hD⟩
end Go.Proofs.YtmmiahgmdllgdaaGreatDoor

namespace Go.Proofs.YtmmiahgmdllgdaaGreatDoor
open Go.RowKit Go.Sort
def TOK (t : Tri) : Prop := t.a.digits.length = t.b.digits.length ∧ t.a.digits.length ≤ 16 ∧ 2 ≤ t.a.base ∧ t.a.base ≤ 16 ∧ (∀ d ∈ t.a.digits, 0 ≤ d ∧ d < t.a.base) ∧ (∀ d ∈ t.b.digits, 0 ≤ d ∧ d < t.a.base) ∧ SmallTri t
theorem tok_of {r0 : Reg} {t : Tri} (h : triGood r0 t = true) (hs : SmallTri t) : TOK t := by
  simp only [triGood, vlike, Bool.and_eq_true, decide_eq_true_eq, beq_iff_eq] at h
  obtain ⟨⟨⟨⟨⟨h1, h2⟩, h3⟩, ⟨h4, h5⟩, h6⟩, -⟩, -⟩ := h
  obtain ⟨⟨p1, p2⟩, ⟨-, p4⟩, p5, -⟩ := vreg_iff.1 h1
  obtain ⟨-, -, q5, -⟩ := vreg_iff.1 h4
  refine ⟨by omega, by omega, p1, p2, p5, ?_, hs⟩
  rw [h2, ← h5]; exact q5
def sumReg (t : Tri) (fs : List Flt) : Reg := ⟨t.a.base, sumL t.a.base t.a.digits t.b.digits fs t.a.digits.length⟩
def expl (t : Tri) (fs : List Flt) : Bool := sameR (sumReg t fs) t.s && (carryAt t.a.base t.a.digits t.b.digits fs t.a.digits.length == t.carry)
end Go.Proofs.YtmmiahgmdllgdaaGreatDoor

namespace Go.Proofs.YtmmiahgmdllgdaaGreatDoor
open Go.RowKit Go.Sort
def Asc (fs : List Flt) : Prop := ∀ (k : Nat) (h : k + 1 < fs.length), (fs[k]'(by omega)).lever < fs[k + 1].lever
def vexpl (ts : List Tri) (fs : List Flt) : Bool := ts.all (fun t => expl t fs)
theorem between_b (a b c : Int) (w : World) : Calls Tryz.prog 80 #[.int .i64 a, .int .i64 b, .int .i64 c] w fun e w' => e = .returned (.bool (betB a b c)) ∧ Below w.heap.size w w' :=
  (between_any a b c w).mono fun _ _ ⟨h, e⟩ => ⟨h, e ▸ Below.refl _ _⟩
end Go.Proofs.YtmmiahgmdllgdaaGreatDoor

namespace Go.Proofs.YtmmiahgmdllgdaaGreatDoor
open Go.RowKit Go.Sort
end Go.Proofs.YtmmiahgmdllgdaaGreatDoor

namespace Go.Proofs.YtmmiahgmdllgdaaGreatDoor
open Go.RowKit Go.Sort
end Go.Proofs.YtmmiahgmdllgdaaGreatDoor

namespace Go.Proofs.YtmmiahgmdllgdaaGreatDoor
open Go.RowKit Go.Sort
theorem twoC_zero {b : Int} {xs ys : List Int} (h1 : vreg b xs = true) (h2 : vreg b ys = true) (hl : xs.length = ys.length) : twoC b xs b ys = 0 := by
  simp [twoC, h1, h2, hl]
/-! the sum of a row of digits with faults -/
theorem sumL_vreg {b : Int} {xs ys : List Int} {fs : List Flt} (hb : 2 ≤ b) (hb16 : b ≤ 16) (hdx : Digs b xs) (hdy : Digs b ys) (n1 : 1 ≤ xs.length) (n2 : xs.length ≤ 16) (hp : pw b xs.length ≤ 1000000000001) : vreg b (sumL b xs ys fs xs.length) = true := by
  refine vreg_short hb hb16 ?_ (by rw [sumL_len]; exact n1) (by rw [sumL_len]; exact n2) (by rw [sumL_len]; exact hp)
  intro d hd
  obtain ⟨k, -, rfl⟩ := List.mem_map.1 hd
  have h1 := hdx.at hb k
  have h2 := hdy.at hb k
  have h3 := carryAt_bd b xs ys fs k
  unfold sumD
  rw [Int.tmod_eq_emod_of_nonneg (by omega)]
  exact ⟨Int.emod_nonneg _ (by omega), Int.emod_lt_of_pos _ (by omega)⟩
theorem cstep_none {b t c : Int} (hb : 2 ≤ b) (ht : 0 ≤ t) (hc : 0 ≤ c) (hc1 : c ≤ 1) (ht2 : t + c < 2 * b) : cstep b t c 0 = (t + c) / b := by
  unfold cstep
  rw [if_neg (by decide), if_neg (by decide), if_neg (by decide)]
  split
  · exact (Int.ediv_eq_zero_of_lt (by omega) (by omega)).symm
  · have e : t + c = (t + c - b) + 1 * b := by omega
    rw [e, Int.add_mul_ediv_right _ _ (by omega), Int.ediv_eq_zero_of_lt (by omega) (by omega)]
    rfl
theorem carryAt_none {b : Int} {xs ys : List Int} (hb : 2 ≤ b) (hdx : Digs b xs) (hdy : Digs b ys) (k : Nat) : carryAt b xs ys [] k = carK b xs ys k := by
  induction k with
  | zero => rfl
  | succ k ih =>
    have h1 := hdx.at hb k
    have h2 := hdy.at hb k
    have h3 := carryAt_bd b xs ys [] k
    rw [carryAt, carK, ← ih]
    exact cstep_none hb (by omega) h3.1 h3.2 (by omega)
theorem sumL_none {b : Int} {xs ys : List Int} (hb : 2 ≤ b) (hdx : Digs b xs) (hdy : Digs b ys) (n : Nat) : sumL b xs ys [] n = addD b xs ys n := by
  unfold sumL addD
  refine List.map_congr_left fun k _ => ?_
  have h1 := hdx.at hb k
  have h2 := hdy.at hb k
  have h3 := carryAt_bd b xs ys [] k
  unfold sumD sumK
  rw [Int.tmod_eq_emod_of_nonneg (by omega), carryAt_none hb hdx hdy]
end Go.Proofs.YtmmiahgmdllgdaaGreatDoor

namespace Go.Proofs.YtmmiahgmdllgdaaGreatDoor
open Go.RowKit Go.Sort
/-! the first phase: the wheels turned, and which levers are cocked -/
def turnK (b : Int) (xs ys : List Int) (k : Nat) : Int := (xs.getD k 0 + ys.getD k 0) % b
def turnD (b : Int) (xs ys : List Int) (n : Nat) : List Int := (List.range n).map (turnK b xs ys)
def cockK (b : Int) (xs ys : List Int) (k : Nat) : Bool := decide (b ≤ xs.getD k 0 + ys.getD k 0)
def cockL (b : Int) (xs ys : List Int) (n : Nat) : List Bool := (List.range n).map (cockK b xs ys)
theorem turnD_succ (b : Int) (xs ys : List Int) (n : Nat) : turnD b xs ys (n + 1) = turnD b xs ys n ++ [turnK b xs ys n] := by unfold turnD; rw [List.range_succ, List.map_append]; rfl
theorem turnD_len (b : Int) (xs ys : List Int) (n : Nat) : (turnD b xs ys n).length = n := by simp [turnD]
theorem cockL_succ (b : Int) (xs ys : List Int) (n : Nat) : cockL b xs ys (n + 1) = cockL b xs ys n ++ [cockK b xs ys n] := by unfold cockL; rw [List.range_succ, List.map_append]; rfl
theorem cockL_len (b : Int) (xs ys : List Int) (n : Nat) : (cockL b xs ys n).length = n := by simp [cockL]
theorem turnD_digs {b : Int} (hb : 2 ≤ b) (xs ys : List Int) (n : Nat) : Digs b (turnD b xs ys n) := by
  intro d hd
  obtain ⟨k, -, rfl⟩ := List.mem_map.1 hd
  exact ⟨Int.emod_nonneg _ (by omega), Int.emod_lt_of_pos _ (by omega)⟩
theorem tpBl : TP 104 4 (.bool false) 1 1 := ⟨Tryz.underlying104, by kernel_rfl, rfl, by decide⟩
def rowBl (C : Option Addr) (cc : Nat) (bs : List Bool) : Ent := .row (.slice C bs.length cc) 4 1 bs.length (bs.map Value.bool)
end Go.Proofs.YtmmiahgmdllgdaaGreatDoor

namespace Go.Proofs.YtmmiahgmdllgdaaGreatDoor
open Go.RowKit Go.Sort
theorem Kn.prefixG {w0 w : World} {m : List Ent} {g c n j size : Nat} {e : TypeId} {xs : List Value} (h : Kn w0 (.row (.slice (some ⟨g, 0, none⟩) n c) e size n xs :: m) w) (hj : j ≤ n) : Kn w0 (.row (.slice (some ⟨g, 0, none⟩) j c) e size j (xs.take (j * size)) :: m) w := by
  have h0 : w.ownsRow 0 e size (.slice (some ⟨g, 0, none⟩) n c) n xs := h.at0
  have hm : j * size ≤ n * size := Nat.mul_le_mul_right _ hj
  refine ⟨h.below, fun x hx => ?_, fun x hx k hk => ?_, List.pairwise_cons.2 ⟨fun x hx k hk => ?_, (List.pairwise_cons.1 h.apart).2⟩⟩
  · rcases List.mem_cons.1 hx with rfl | hx
    · rcases h0.2 with ⟨hv, _⟩ | ⟨g', cap, cur, hv, hb, hg, h1, h2, h3, h4⟩
      · cases hv
      · injection hv with hv1 hv2 hv3
        injection hv1 with hv1
        injection hv1 with hv1
        subst hv1
        subst hv3
        refine ⟨by rw [List.length_take, h0.1]; omega, .inr ⟨g, c, cur, rfl, hb, hg, by omega, h2, h3, ?_⟩⟩
        rw [← h4, List.take_take, Nat.min_eq_left hm]
    · exact h.ents x (List.mem_cons_of_mem _ hx)
  · rcases List.mem_cons.1 hx with rfl | hx
    · exact h.own _ (List.mem_cons_self ..) k hk
    · exact h.own x (List.mem_cons_of_mem _ hx) k hk
  · exact (List.pairwise_cons.1 h.apart).1 x hx k hk
theorem Kn.capG {w0 w : World} {m : List Ent} {g c n : Nat} {xs : List Value} {e : TypeId} {s : Nat} (h : Kn w0 (.row (.slice (some ⟨g, 0, none⟩) n c) e s n xs :: m) w) : n ≤ c := by
  have h0 : w.ownsRow 0 e s (.slice (some ⟨g, 0, none⟩) n c) n xs := h.at0
  rcases h0.2 with ⟨hv, _⟩ | ⟨g', cap, cur, hv, -, -, h1, h2, -⟩
  · cases hv
  · injection hv with _ _ hv
    subst hv
    exact h1
set_option maxHeartbeats 800000 in
theorem l24Undo_any (s t : ByteArray) (w : World) : Calls Tryz.prog 76 #[.string s, .string t] w fun e w' => e = .returned (.bool (undoB (strB s) (strB t))) ∧ Below w.heap.size w w' := by
  have K1 := (fun W => l24Kind_any s W)
  have K2 := (fun W => l24Kind_any t W)
  obtain ⟨R, hR⟩ : ∃ r, undoB (strB s) (strB t) = r := ⟨_, rfl⟩
  rw [hR]
  unfold undoB at hR
  have ha := kindOf_bd (strB s)
  obtain ⟨a, haa⟩ : ∃ a, kindOf (strB s) = a := ⟨_, rfl⟩
  obtain ⟨b, hbb⟩ : ∃ a, kindOf (strB t) = a := ⟨_, rfl⟩
  rw [haa] at K1 hR ha
  rw [hbb] at K2 hR
  have KB := (fun W => specStrokeBack_all a W ha)
  have hfit : R = (decide (0 < a) && (sbCode a == 0) && (b == sbBack a)) := by
    rw [← hR]
    unfold sbCode sbBack
    by_cases h : 1 ≤ a ∧ a ≤ 4
    · rw [if_pos h, if_pos h, decide_eq_true h, decide_eq_true (show 0 < a by omega)]
      by_cases h3 : backK a = b
      · rw [beq_iff_eq.2 h3, beq_iff_eq.2 h3.symm]; rfl
      · rw [beq_eq_false_iff_ne.2 h3, beq_eq_false_iff_ne.2 (fun e => h3 e.symm)]; simp
    · rw [if_neg h, decide_eq_false h, Bool.false_and]
      split <;> simp
  obtain ⟨c, hc⟩ : ∃ c, sbCode a = c := ⟨_, rfl⟩
  obtain ⟨d, hd⟩ : ∃ c, sbBack a = c := ⟨_, rfl⟩
  rw [hc, hd] at hfit
  simp only [hc, hd] at KB
  have HF := Lib.hid hfit
  replace K1 := Lib.hid K1
  replace K2 := Lib.hid K2
  replace KB := Lib.hid KB
  clear hR hc hd haa hbb ha hfit
  have fin : ∀ x y, (c == 0) = x → (b == d) = y → Calls Tryz.prog 76 #[.string s, .string t] w fun e w' => e = .returned (.bool R) ∧ Below w.heap.size w w' := by
    intro x y hx hy
    by_cases hp : 0 < a
    · have HR := Lib.hid (show R = (true && x && y) by rw [HF.out, hx, hy, decide_eq_true hp])
      cases x <;> cases y <;>
      · go_enter Tryz.func76, Tryz.ntmps76
        go_wp2_with (first
          | (go_at_call 138; with_reducible refine (K1.out _).mono ?_; rintro e w1 ⟨rfl, h1⟩)
          | (go_at_call 138; with_reducible refine (K2.out _).mono ?_; rintro e w2 ⟨rfl, h2⟩)
          | (go_at_call 139; refine (KB.out _).mono ?_; rintro e w' ⟨rfl, rfl⟩))
        go_ret
        exact ⟨by rw [HR.out]; rfl, by first | exact h1.trans (h2.mono h1.size) | exact h1⟩
    · have HR := Lib.hid (show R = (false && x && y) by rw [HF.out, hx, hy, decide_eq_false hp])
      cases x <;> cases y <;>
      · go_enter Tryz.func76, Tryz.ntmps76
        go_wp2_with (first
          | (go_at_call 138; with_reducible refine (K1.out _).mono ?_; rintro e w1 ⟨rfl, h1⟩)
          | (go_at_call 139; refine (KB.out _).mono ?_; rintro e w' ⟨rfl, rfl⟩))
        go_ret
        exact ⟨by rw [HR.out]; rfl, h1⟩
  exact fin _ _ rfl rfl
set_option maxHeartbeats 800000 in
theorem l00Has_any (A : Option Addr) (n c : Nat) (ds : List Int) (x : Int) (w : World) (hr : RI w A n ds) (hn : n ≤ 1000000) :
    Calls Tryz.prog 75 #[.slice A n c, .int .i64 x] w fun e w' => e = .returned (.bool (decide (x ∈ ds))) ∧ w = w' := by
  have hl := hr.1
  obtain ⟨R, hR⟩ : ∃ r, decide (x ∈ ds) = r := ⟨_, rfl⟩
  rw [hR]
  have HR := Lib.hid hR
  have HL := Lib.hid hl
  clear hR hl
  go_enter Tryz.func75, Tryz.ntmps75
  go_wp2_with fail
  go_loopw [5] (fun ii wr => ∃ k : Nat, k ≤ n ∧ ii = .int .i64 (k : Int) ∧ Hid (∀ j : Nat, j < k → ds[j]? ≠ some x) ∧ w = wr) (fun ii _ => n - (intOf ii).toNat)
  case atStart => exact ⟨0, Nat.zero_le _, rfl, Lib.hid (fun j h => by omega), rfl⟩
  case round =>
    obtain ⟨k, hk, rfl, HN, rfl⟩ := hrel
    by_cases hkn : k < n
    · have i1 : (k : Int) < (n : Int) := by omega
      have i0 : (0 : Int) ≤ (k : Int) := by omega
      obtain ⟨ad, hA, hlt, hkx, hcx⟩ := hr.at_ hkn
      have hget := List.getElem?_eq_getElem hkx
      obtain ⟨y, hy⟩ : ∃ y, ds[k] = y := ⟨_, rfl⟩
      rw [hy] at hcx hget
      have HG := Lib.hid hget
      subst hA
      clear hy hget hkx hr
      by_cases hyx : y = x
      · subst hyx
        have e1 : R = true := by rw [← HR.out]; exact decide_eq_true (List.mem_of_getElem? HG.out)
        subst e1
        go_wp2_with fail
        go_ret
        exact ⟨rfl, by first | rfl | trivial⟩
      · have y1 : (y == x) = false := beq_eq_false_iff_ne.2 hyx
        have HN2 := Lib.hid (fun (j : Nat) (h : j < k + 1) => (show ds[j]? ≠ some x by
          rcases Nat.lt_or_ge j k with h2 | h2
          · exact HN.out j h2
          · obtain rfl : j = k := by omega
            rw [HG.out]
            intro e
            exact hyx (Option.some.inj e)))
        go_wp2_with fail
        go_roundw
        case rel => exact ⟨k + 1, by omega, by go_num, HN2, by first | rfl | trivial⟩
        case measure => simp [intOf] <;> omega
    · have i1 : ¬ (k : Int) < (n : Int) := by omega
      obtain rfl : k = n := by omega
      have e1 : R = false := by
        rw [← HR.out]
        refine decide_eq_false (fun h => ?_)
        obtain ⟨j, hj⟩ := List.getElem?_of_mem h
        exact HN.out j (by have := (List.getElem?_eq_some_iff.1 hj).1; have := HL.out; omega) hj
      subst e1
      go_wp2_with fail
      go_ret
      exact ⟨rfl, by first | rfl | trivial⟩
end Go.Proofs.YtmmiahgmdllgdaaGreatDoor

namespace Go.Proofs.YtmmiahgmdllgdaaGreatDoor
open Go.RowKit Go.Sort
theorem lastUndo_nil (bel : List Int) (i : Nat) (L : ByteArray) : lastUndo bel [] i L = false := rfl
theorem lastUndo_snoc (bel : List Int) (K : List Kept) (k : Kept) (i : Nat) (L : ByteArray) : lastUndo bel (K ++ [k]) i L = (undoB (strB k.text) (strB L) && !(decide ((k.at_ : Int) ∈ bel)) && !(decide ((i : Int) ∈ bel))) := by
  unfold lastUndo
  rw [List.getLast?_append]; rfl
theorem stepKp_push {bel : List Int} {K : List Kept} {i : Nat} {L : ByteArray} (h : lastUndo bel K i L = false) : stepKp bel K i L = K ++ [⟨i, L⟩] := by unfold stepKp; rw [h]; rfl
theorem stepKp_pop {bel : List Int} {K : List Kept} {k : Kept} {i : Nat} {L : ByteArray} (h : lastUndo bel (K ++ [k]) i L = true) : stepKp bel (K ++ [k]) i L = K := by unfold stepKp; rw [h, if_pos rfl, List.dropLast_concat]
theorem rlStr_cell {w : World} {ad : Addr} {n k : Nat} {ss : List ByteArray} {L : ByteArray} (h : RL StrM 1 w (some ad) n ss) (hL : ss[k]? = some L) : w.cell? (ad.add k) = some (.string L) := by
  obtain ⟨hl, he⟩ := List.getElem?_eq_some_iff.1 hL
  obtain ⟨ad2, hA, _, _, h2⟩ := h.at_ (show k < n by have := h.1; omega)
  injection hA with hA
  subst hA
  unfold StrM at h2
  rw [Nat.mul_one] at h2
  rw [h2, he]
def textsK (K : List Kept) : List Value := (K.map Kept.text).map Value.string
def ringsK (bel : List Int) (K : List Kept) : List Value := (K.map fun x => decide ((x.at_ : Int) ∈ bel)).map Value.bool
set_option maxRecDepth 100000 in
set_option maxHeartbeats 6400000 in
theorem specShortSession_any (A : Option Addr) (n c : Nat) (ss : List ByteArray) (w : World) (hr : RL StrM 1 w A n ss) (hsz : ∀ s ∈ ss, s.size ≤ 1048576) :
    Calls Tryz.prog 19 #[.slice A n c] w (SCRet (shoL ss) (wholeC (ss.map strB)) w) := by
  have KW := (l24Ask_any A n c ss w hr hsz)
  have hl := hr.1
  have HR := Lib.hid (fun W (hW : Below w.heap.size w W) => hr.below steady_StrM hW)
  unfold WholeS at KW
  clear hr hsz
  by_cases hC : wholeC (ss.map strB) = 0
  rotate_left
  · have e2 : shoL ss = [] := by unfold shoL; rw [if_neg hC]
    rw [e2]
    obtain ⟨C, hCC⟩ : ∃ C, wholeC (ss.map strB) = C := ⟨_, rfl⟩
    rw [hCC] at KW hC ⊢
    replace KW := Lib.hid KW
    have HC := Lib.hid hC
    clear e2 hCC
    have hcb : (C == 0) = false := by simpa using hC
    have hcb2 : (C != 0) = true := by simpa using hC
    clear hC
    go_enter Tryz.func19, Tryz.ntmps19
    go_wp2_with fail
    refine KW.out.mono ?_; rintro e w1 (⟨h0, -⟩ | ⟨-, g, rfl, hw⟩)
    · exact absurd h0 HC.out
    go_wp2_with fail
    go_ret2
    exact SCRet.none hw
  · have h100 := (wholeC_ok hC).1
    rw [List.length_map] at h100
    have e2 : shoL ss = (keptU (runS (ss.map strB)).1.bel ss n).map Kept.text := by unfold shoL; rw [if_pos hC, hl]
    rw [e2]
    rw [hC] at KW ⊢
    have hn : n ≤ 100 := by omega
    obtain ⟨s, hs⟩ : ∃ s, (runS (ss.map strB)).1 = s := ⟨_, rfl⟩
    rw [hs] at KW ⊢
    have hgood := (runS_good (wholeC_ok hC).2).bel
    rw [hs, List.length_map] at hgood
    obtain ⟨bel, hbel⟩ : ∃ b, s.bel = b := ⟨_, rfl⟩
    rw [hbel] at hgood ⊢
    have hbl : bel.length ≤ 100 := by omega
    replace KW := Lib.hid KW
    have HL := Lib.hid hl
    have HKU := Lib.hid (fun k => (show keptU bel ss (k + 1) = stepKp bel (keptU bel ss k) k (ss.getD k ByteArray.empty) from rfl))
    have HKN := Lib.hid (fun k => keptU_len bel ss k)
    obtain ⟨F, hF⟩ : ∃ F, keptU bel ss n = F := ⟨_, rfl⟩
    rw [hF]
    have HF := Lib.hid hF
    clear hs hC hl e2 h100 hgood hF
    go_enter Tryz.func19, Tryz.ntmps19
    go_wp2_with fail
    refine KW.out.mono ?_; rintro e w1 (⟨-, g, rfl, hS⟩ | ⟨h0, -⟩)
    rotate_left
    · exact absurd rfl h0
    obtain ⟨U1, u1, U2, u2, U3, u3, A1, c1, A2, c2, A3, c3, SA, sc, BA, bc, m, hK, -⟩ := hS
    have K1 : Kn w [.blk g [.int .i64 s.start.a.base, .slice U1 s.start.a.digits.length u1, .int .i64 s.start.b.base, .slice U2 s.start.b.digits.length u2, .int .i64 s.start.s.base, .slice U3 s.start.s.digits.length u3, .int .i64 s.start.carry, .int .i64 s.m.a.base, .slice A1 s.m.a.digits.length c1, .int .i64 s.m.b.base, .slice A2 s.m.b.digits.length c2, .int .i64 s.m.s.base, .slice A3 s.m.s.digits.length c3, .int .i64 s.m.carry, .slice SA s.str.length sc, .slice BA s.bel.length bc, .bool s.ended] 91, rowI BA bc s.bel] w1 := (hK.front 5 rfl).sel [1, 0] 2 (by decide) (by decide) |>.only (by exact List.Sublist.cons_cons _ (List.Sublist.cons_cons _ (List.nil_sublist _)))
    rw [hbel] at K1
    obtain ⟨CS, hCS⟩ : ∃ CS, ([.int .i64 s.start.a.base, .slice U1 s.start.a.digits.length u1, .int .i64 s.start.b.base, .slice U2 s.start.b.digits.length u2, .int .i64 s.start.s.base, .slice U3 s.start.s.digits.length u3, .int .i64 s.start.carry, .int .i64 s.m.a.base, .slice A1 s.m.a.digits.length c1, .int .i64 s.m.b.base, .slice A2 s.m.b.digits.length c2, .int .i64 s.m.s.base, .slice A3 s.m.s.digits.length c3, .int .i64 s.m.carry, .slice SA s.str.length sc, .slice BA s.bel.length bc, .bool s.ended] : List Value) = CS := ⟨_, rfl⟩
    have hb15 : CS[15]? = some (.slice BA bel.length bc) := by rw [← hCS, ← hbel]; rfl
    rw [hbel] at hCS
    rw [hCS] at K1
    have HB15 := Lib.hid hb15
    clear hK hCS hbel hb15 KW
    have K2 : Kn w [.row (.slice (some ⟨w1.heap.size, 0, none⟩) 0 0) 9 1 0 [], .blk g CS 91, rowI BA bc bel] _ := (K1.al [] 9).litRow (size := 1) (n := 0) rfl (by decide)
    go_upto_region 5 with fail
    refine Code.wp.kn K2 ?_; clear K1 K2; intro w2 K2
    obtain ⟨gO, hgO⟩ : ∃ g, w1.heap.size = g := ⟨_, rfl⟩
    rw [hgO] at K2
    try rw [hgO]
    clear hgO
    have K3 : Kn w [.row (.slice (some ⟨w2.heap.size, 0, none⟩) 0 0) 4 1 0 [], .row (.slice (some ⟨gO, 0, none⟩) 0 0) 9 1 0 [], .blk g CS 91, rowI BA bc bel] _ := (K2.al [] 4).litRow (size := 1) (n := 0) rfl (by decide)
    go_upto_region 6 with fail
    refine Code.wp.kn K3 ?_; clear K2 K3; intro w3 K3
    obtain ⟨gB, hgB⟩ : ∃ g, w2.heap.size = g := ⟨_, rfl⟩
    rw [hgB] at K3
    try rw [hgB]
    clear hgB
    go_wp2_with fail
    go_loopw [6, 7, 8] (fun oo rr ii wr => ∃ (k p : Nat) (K : List Kept) (vo vr : Value), k ≤ n ∧ ii = .int .i64 (k : Int) ∧ oo = vo ∧ rr = vr ∧ Hid (K.length = p) ∧ Hid (K = keptU bel ss k) ∧ Kn w [.row vo 9 1 p (textsK K), .row vr 4 1 p (ringsK bel K), .blk g CS 91, rowI BA bc bel] wr) (fun _ _ ii _ => n - (intOf ii).toNat)
    case atStart => exact ⟨0, 0, [], _, _, Nat.zero_le _, rfl, rfl, rfl, Lib.hid rfl, Lib.hid rfl, K3.sel [1, 0, 2, 3] 99 (by decide) (by decide)⟩
    case round =>
      clear K3
      obtain ⟨k, p, K, vo, vr, hk, rfl, rfl, rfl, HKL, HK, KR⟩ := hrel
      have HP := Lib.hid (show p ≤ 100 by have h := HKN.out k; rw [← HK.out, HKL.out] at h; omega)
      obtain ⟨Ao, ao, rfl⟩ := row_form KR.at0
      obtain ⟨Ar, ar, rfl⟩ := row_form (KR.front 1 rfl).at0
      by_cases hkn : k < n
      · have i1 : (k : Int) < (n : Int) := by omega
        have i0 : (0 : Int) ≤ (k : Int) := by omega
        obtain ⟨adL, hAL, hltL, hkx, hcL⟩ := (HR.out _ KR.below).at_ hkn
        have hku := HKU.out k
        rw [← HK.out, List.getD_eq_getElem?_getD, List.getElem?_eq_getElem hkx, Option.getD_some] at hku
        obtain ⟨L, hLL⟩ : ∃ L, ss[k] = L := ⟨_, rfl⟩
        rw [hLL] at hcL hku
        unfold StrM at hcL
        rw [Nat.mul_one] at hcL
        obtain ⟨be, hbe⟩ : ∃ b, decide ((k : Int) ∈ bel) = b := ⟨_, rfl⟩
        have KH := (l00Has_any BA bel.length bc bel (k : Int) wr (KR.front 3 rfl).riv (by omega))
        rw [hbe] at KH
        replace KH := Lib.hid KH
        have HBE := Lib.hid hbe
        have HLK := Lib.hid (show ss[k]? = some L by rw [List.getElem?_eq_getElem hkx, hLL])
        have HST0 := Lib.hid hku
        have c15 := ((KR.front 2 rfl).blkAt.1 15).trans HB15.out
        have g15 := (KR.front 2 rfl).blkAt.2.2
        subst hAL
        clear hLL hku hkx hbe hcL
        have HLC := Lib.hid (fun W (hW : Below w.heap.size w W) => rlStr_cell (HR.out W hW) HLK.out)
        have x2 := HLC.out wr KR.below
        rcases Nat.eq_zero_or_pos p with hp0 | hp0
        · have hK0 : K = [] := List.length_eq_zero_iff.1 (by rw [HKL.out]; exact hp0)
          have HST := Lib.hid (show keptU bel ss (k + 1) = K ++ [⟨k, L⟩] by rw [HST0.out, stepKp_push (by rw [hK0]; exact lastUndo_nil _ _ _)])
          have p1 : ¬ (0 : Int) < (p : Int) := by omega
          have p1b : decide ((0 : Int) < (p : Int)) = false := decide_eq_false p1
          have p1c : decide (0 < p) = false := decide_eq_false (by omega)
          clear hK0 hp0
          go_upto_region 11 with (go_at_call 75; refine KH.out.mono ?_; rintro e w' ⟨rfl, rfl⟩)
          clear c15 g15
          refine wp_region_quiet_below (by kernel_rfl) (by kernel_rfl) ?_
          repeat (go_big_quiet_step ((go_at_call 76; exact quietB (fun W _ => KU.out W))))
          refine wpQuiet_nil ?_
          intro _ hw'
          obtain ⟨⟨dq, osq⟩, hw''⟩ := hw'
          subst hw''
          obtain ⟨wq, hwq⟩ : ∃ W, grow (redrawn wr dq) osq = W := ⟨_, rfl⟩
          replace KR := KR.keep (below_regrown wr dq osq)
          dsimp only
          rw [hwq] at KR ⊢
          clear hwq
          try clear x0
          try clear x1
          try clear x2
          have x2 := HLC.out _ KR.below
          go_upto_region 15 with (at_builtin; refine kn_app tpS rfl _ _ rfl _ p (textsK K) rfl rfl (KR.al [.string L] 9) rfl (by simp [Value.oneCell']) (by have := HP.out; omega) (by have := HP.out; omega) ?_; intro v5 w5 K5)
          go_wp2_with (at_builtin; refine kn_app tpBl rfl _ _ rfl _ p (ringsK bel K) rfl rfl ((K5.front 1 rfl).al [.bool be] 4) rfl (by simp [Value.oneCell']) (by have := HP.out; omega) (by have := HP.out; omega) ?_; intro v6 w6 K6)
          go_roundw
          case rel => exact ⟨k + 1, p + 1, _, v5, v6, by omega, by go_num, rfl, rfl, Lib.hid (by rw [HST.out, List.length_append, HKL.out]; rfl), Lib.hid rfl, by rw [HST.out, textsK, ringsK, List.map_append, List.map_append, List.map_append, List.map_append]; have K7 := K6.sel [1, 0, 2, 3] 99 (by decide) (by decide); rw [← HBE.out] at K7; exact K7⟩
          case measure => simp [intOf] <;> omega
        · obtain ⟨q, hq⟩ : ∃ q, p = q + 1 := ⟨p - 1, by omega⟩
          obtain ⟨Ks, kk, hKs⟩ : ∃ Ks kk, K = Ks ++ [kk] := ⟨K.dropLast, K.getLast (by intro h; have := HKL.out; rw [h] at this; simp at this; omega), (List.dropLast_concat_getLast _).symm⟩
          have hql : Ks.length = q := by have h := HKL.out; rw [hKs, List.length_append, List.length_singleton] at h; omega
          obtain ⟨go, o1, hE⟩ := Kn.rowForm KR hp0
          injection hE with hE hE2 hE3
          subst hE hE3
          obtain ⟨gr, o2, hE⟩ := Kn.rowForm (KR.front 1 rfl) hp0
          injection hE with hE hE2 hE3
          subst hE hE3
          have p1 : (0 : Int) < (p : Int) := by omega
          have p1b : decide ((0 : Int) < (p : Int)) = true := decide_eq_true p1
          have p1c : decide (0 < p) = true := decide_eq_true (by omega)
          have p2 : IntKind.i64.wrap ((p : Int) - 1) = (q : Int) := by have := HP.out; rw [wrapI64 (by omega)]; omega
          have p3 : (0 : Int) ≤ (q : Int) := by omega
          have p4 : (q : Int) < (p : Int) := by omega
          have hlu := lastUndo_snoc bel Ks kk k L
          rw [← hKs] at hlu
          obtain ⟨T, hT⟩ : ∃ T, kk.text = T := ⟨_, rfl⟩
          obtain ⟨rg, hrg⟩ : ∃ r, decide ((kk.at_ : Int) ∈ bel) = r := ⟨_, rfl⟩
          have KU := (fun W => l24Undo_any T L W)
          obtain ⟨u, hu⟩ : ∃ u, undoB (strB T) (strB L) = u := ⟨_, rfl⟩
          rw [hu] at KU
          rw [hT, hrg, HBE.out, hu] at hlu
          obtain ⟨x0, -⟩ := Kn.rowCell KR (j := q) (u := .string T) (by rw [hKs, textsK, ← hT, ← hql]; simp)
          obtain ⟨x1, -⟩ := Kn.rowCell (KR.front 1 rfl) (j := q) (u := .bool rg) (by rw [hKs, ringsK, ← hrg, ← hql]; simp)
          replace KU := Lib.hid KU
          have HLU := Lib.hid hlu
          have HKs := Lib.hid hKs
          have HQL := Lib.hid hql
          have HQ := Lib.hid hq
          clear hT hrg hu hlu hKs hql hq hp0
          cases be with
          | true =>
            have HST := Lib.hid (show keptU bel ss (k + 1) = K ++ [⟨k, L⟩] by rw [HST0.out, stepKp_push (by rw [HLU.out]; simp)])
            go_upto_region 11 with (go_at_call 75; refine KH.out.mono ?_; rintro e w' ⟨rfl, rfl⟩)
            clear c15 g15
            refine wp_region_quiet_below (by kernel_rfl) (by kernel_rfl) ?_
            repeat (go_big_quiet_step ((go_at_call 76; exact quietB (fun W _ => KU.out W))))
            refine wpQuiet_nil ?_
            intro _ hw'
            obtain ⟨⟨dq, osq⟩, hw''⟩ := hw'
            subst hw''
            obtain ⟨wq, hwq⟩ : ∃ W, grow (redrawn wr dq) osq = W := ⟨_, rfl⟩
            replace KR := KR.keep (below_regrown wr dq osq)
            dsimp only
            rw [hwq] at KR ⊢
            clear hwq
            try clear x0
            try clear x1
            try clear x2
            have x2 := HLC.out _ KR.below
            go_upto_region 15 with (at_builtin; refine kn_app tpS rfl _ _ rfl _ p (textsK K) rfl rfl (KR.al [.string L] 9) rfl (by simp [Value.oneCell']) (by have := HP.out; omega) (by have := HP.out; omega) ?_; intro v5 w5 K5)
            go_wp2_with (at_builtin; refine kn_app tpBl rfl _ _ rfl _ p (ringsK bel K) rfl rfl ((K5.front 1 rfl).al [.bool true] 4) rfl (by simp [Value.oneCell']) (by have := HP.out; omega) (by have := HP.out; omega) ?_; intro v6 w6 K6)
            go_roundw
            case rel => exact ⟨k + 1, p + 1, _, v5, v6, by omega, by go_num, rfl, rfl, Lib.hid (by rw [HST.out, List.length_append, HKL.out]; rfl), Lib.hid rfl, by rw [HST.out, textsK, ringsK, List.map_append, List.map_append, List.map_append, List.map_append]; have K7 := K6.sel [1, 0, 2, 3] 99 (by decide) (by decide); rw [← HBE.out] at K7; exact K7⟩
            case measure => simp [intOf] <;> omega
          | false =>
            cases rg with
            | true =>
              have HST := Lib.hid (show keptU bel ss (k + 1) = K ++ [⟨k, L⟩] by rw [HST0.out, stepKp_push (by rw [HLU.out]; simp)])
              go_upto_region 11 with (go_at_call 75; refine KH.out.mono ?_; rintro e w' ⟨rfl, rfl⟩)
              clear c15 g15
              have x1 := cell_regrown x1
              refine wp_region_quiet_below (by kernel_rfl) (by kernel_rfl) ?_
              repeat (go_big_quiet_step ((go_at_call 76; exact quietB (fun W _ => KU.out W))))
              refine wpQuiet_nil ?_
              intro _ hw'
              obtain ⟨⟨dq, osq⟩, hw''⟩ := hw'
              subst hw''
              obtain ⟨wq, hwq⟩ : ∃ W, grow (redrawn wr dq) osq = W := ⟨_, rfl⟩
              replace KR := KR.keep (below_regrown wr dq osq)
              dsimp only
              rw [hwq] at KR ⊢
              clear hwq
              try clear x0
              try clear x1
              try clear x2
              have x2 := HLC.out _ KR.below
              go_upto_region 15 with (at_builtin; refine kn_app tpS rfl _ _ rfl _ p (textsK K) rfl rfl (KR.al [.string L] 9) rfl (by simp [Value.oneCell']) (by have := HP.out; omega) (by have := HP.out; omega) ?_; intro v5 w5 K5)
              go_wp2_with (at_builtin; refine kn_app tpBl rfl _ _ rfl _ p (ringsK bel K) rfl rfl ((K5.front 1 rfl).al [.bool false] 4) rfl (by simp [Value.oneCell']) (by have := HP.out; omega) (by have := HP.out; omega) ?_; intro v6 w6 K6)
              go_roundw
              case rel => exact ⟨k + 1, p + 1, _, v5, v6, by omega, by go_num, rfl, rfl, Lib.hid (by rw [HST.out, List.length_append, HKL.out]; rfl), Lib.hid rfl, by rw [HST.out, textsK, ringsK, List.map_append, List.map_append, List.map_append, List.map_append]; have K7 := K6.sel [1, 0, 2, 3] 99 (by decide) (by decide); rw [← HBE.out] at K7; exact K7⟩
              case measure => simp [intOf] <;> omega
            | false =>
              cases u with
              | false =>
                have HST := Lib.hid (show keptU bel ss (k + 1) = K ++ [⟨k, L⟩] by rw [HST0.out, stepKp_push (by rw [HLU.out]; simp)])
                go_upto_region 11 with (go_at_call 75; refine KH.out.mono ?_; rintro e w' ⟨rfl, rfl⟩)
                clear c15 g15
                have x0 := cell_regrown x0
                have x1 := cell_regrown x1
                have x2 := cell_regrown x2
                refine wp_region_quiet_below (by kernel_rfl) (by kernel_rfl) ?_
                repeat (go_big_quiet_step ((go_at_call 76; exact quietB (fun W _ => KU.out W))))
                refine wpQuiet_nil ?_
                intro _ hw'
                obtain ⟨⟨dq, osq⟩, hw''⟩ := hw'
                subst hw''
                obtain ⟨wq, hwq⟩ : ∃ W, grow (redrawn wr dq) osq = W := ⟨_, rfl⟩
                replace KR := KR.keep (below_regrown wr dq osq)
                dsimp only
                rw [hwq] at KR ⊢
                clear hwq
                try clear x0
                try clear x1
                try clear x2
                have x2 := HLC.out _ KR.below
                go_upto_region 15 with (at_builtin; refine kn_app tpS rfl _ _ rfl _ p (textsK K) rfl rfl (KR.al [.string L] 9) rfl (by simp [Value.oneCell']) (by have := HP.out; omega) (by have := HP.out; omega) ?_; intro v5 w5 K5)
                go_wp2_with (at_builtin; refine kn_app tpBl rfl _ _ rfl _ p (ringsK bel K) rfl rfl ((K5.front 1 rfl).al [.bool false] 4) rfl (by simp [Value.oneCell']) (by have := HP.out; omega) (by have := HP.out; omega) ?_; intro v6 w6 K6)
                go_roundw
                case rel => exact ⟨k + 1, p + 1, _, v5, v6, by omega, by go_num, rfl, rfl, Lib.hid (by rw [HST.out, List.length_append, HKL.out]; rfl), Lib.hid rfl, by rw [HST.out, textsK, ringsK, List.map_append, List.map_append, List.map_append, List.map_append]; have K7 := K6.sel [1, 0, 2, 3] 99 (by decide) (by decide); rw [← HBE.out] at K7; exact K7⟩
                case measure => simp [intOf] <;> omega
              | true =>
                have HST := Lib.hid (show keptU bel ss (k + 1) = Ks by rw [HST0.out, HKs.out, stepKp_pop (by rw [← HKs.out, HLU.out]; rfl)])
                go_upto_region 11 with (go_at_call 75; refine KH.out.mono ?_; rintro e w' ⟨rfl, rfl⟩)
                clear c15 g15
                have x0 := cell_regrown x0
                have x1 := cell_regrown x1
                have x2 := cell_regrown x2
                refine wp_region_quiet_below (by kernel_rfl) (by kernel_rfl) ?_
                repeat (go_big_quiet_step ((go_at_call 76; exact quietB (fun W _ => KU.out W))))
                refine wpQuiet_nil ?_
                intro _ hw'
                obtain ⟨⟨dq, osq⟩, hw''⟩ := hw'
                subst hw''
                obtain ⟨wq, hwq⟩ : ∃ W, grow (redrawn wr dq) osq = W := ⟨_, rfl⟩
                replace KR := KR.keep (below_regrown wr dq osq)
                dsimp only
                rw [hwq] at KR ⊢
                clear hwq
                try clear x0
                try clear x1
                try clear x2
                have x2 := HLC.out _ KR.below
                have hc1 := Kn.capG KR
                have hc2 := Kn.capG (KR.front 1 rfl)
                have s1 : (q : Int) ≤ (ao : Int) := by omega
                have s2 : (q : Int) ≤ (ar : Int) := by omega
                have K5 := Kn.prefixG KR (j := q) (by have := HQ.out; omega)
                have K6 := (Kn.prefixG (K5.front 1 rfl) (j := q) (by have := HQ.out; omega)).sel [1, 0, 2, 3] 99 (by decide) (by decide)
                have HT1 := Lib.hid (show (textsK K).take (q * 1) = textsK Ks by rw [HKs.out, textsK, textsK, List.map_append, List.map_append, Nat.mul_one, List.take_append_of_le_length (by simp [HQL.out]), List.take_of_length_le (by simp [HQL.out])])
                have HT2 := Lib.hid (show (ringsK bel K).take (q * 1) = ringsK bel Ks by rw [HKs.out, ringsK, ringsK, List.map_append, List.map_append, Nat.mul_one, List.take_append_of_le_length (by simp [HQL.out]), List.take_of_length_le (by simp [HQL.out])])
                rw [HT1.out, HT2.out] at K6
                clear K5 hc1 hc2
                go_wp2_with fail
                go_roundw
                case rel => exact ⟨k + 1, q, Ks, _, _, by omega, by go_num, rfl, rfl, HQL, Lib.hid HST.out.symm, K6⟩
                case measure => simp [intOf] <;> omega
      · have i1 : ¬ (k : Int) < (n : Int) := by omega
        obtain rfl : k = n := by omega
        have hKF : K = F := HK.out.trans HF.out
        subst hKF
        go_wp2_with fail
        go_ret2
        refine ⟨Ao, ao, ?_, ?_⟩
        · rw [List.length_map, HKL.out]; rfl
        · unfold rowT rowSN
          rw [List.length_map, HKL.out]
          exact KR.sel [0] 99 (by decide) (by decide)
end Go.Proofs.YtmmiahgmdllgdaaGreatDoor
