import Derived.Test.YtmnegfhigfipbaaK2
import Derived.Test.YtmnegfhigfipbaaS4
namespace Go.Proofs.Ytmnegfhigfipbaa
open Go.RowKit Go.Sort
theorem eqInt64S_same (A B : Option Addr) (n m c d : Nat) (ds : List Int) (w : World) (hr : RI w A n ds) (hs : RI w B m ds) (hm : n ≤ 9223372036854775807) :
    Calls Try.prog 23 #[.slice A n c, .slice B m d] w fun e w' => e = .returned (.bool true) ∧ Below w.heap.size w w' :=
  (eqInt64S_any A B n c m d ds ds w hr hs hm (by have h1 := hr.1; have h2 := hs.1; omega)).mono fun e w' ⟨h1, q, h2⟩ => ⟨by rw [h1]; simp, by rw [h2]; exact below_drewN (Below.refl _ _) _⟩
theorem OwnI.keep {w w' : World} {base : Nat} {v : Value} {ds : List Int} (h : OwnI w base v ds) {P : Nat → Prop} (m : Marks P w w') (hP : ∀ k, v.ownBlock = some k → ¬ P k) : OwnI w' base v ds :=
  rowK h (fun g hg => m.block (hP g hg))
end Go.Proofs.Ytmnegfhigfipbaa
