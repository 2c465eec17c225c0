/- The library's contracts that this claim uses, laid at this dump in plain words by the shelf's tool. -/
import Derived.Shelf.Strings.Builder1
import Derived.Shelf.Strings.Builder2
import Derived.Shelf.Strconv.Itoa0
import Derived.Shelf.Strconv.Itoa1
import Derived.Shelf.LaysM
import Derived.Shelf.Strconv.Itoa2
import Derived.Shelf.Strconv.Itoa3
import Derived.Shelf.Strconv.Itoa4
import Derived.Test.YtcngeifkddhkmaaDoorProg
namespace Go.Proofs
open Go.Shelf
def Tryd.laysM173_ren : Go.Shelf.Ren := ⟨fun | 173 => 181 | 246 => 217 | 283 => 227 | 284 => 228 | 285 => 229 | 286 => 230 | 129 => 237 | 317 => 236 | 318 => 238 | 319 => 239 | 320 => 240 | 337 => 241 | 338 => 242 | n => n, fun | 2 => 2 | 3 => 3 | 9 => 9 | 4 => 4 | 171 => 215 | 0 => 0 | 53 => 181 | 37 => 22 | 5 => 5 | 173 => 218 | 212 => 228 | 51 => 229 | 20 => 20 | 213 => 230 | 46 => 211 | 232 => 234 | 233 => 235 | n => n, fun | 17 => 0 | 18 => 2 | 19 => 3 | n => n⟩
theorem Tryd.laysM173 : Go.Proofs.LaysM.n173 Tryd.prog Tryd.laysM173_ren := {
  mixed := by kernel_rfl
  f129 := Tryd.func237.trans (congrArg some (by kernel_rfl))
  f173 := Tryd.func181.trans (congrArg some (by kernel_rfl))
  f246 := Tryd.func217.trans (congrArg some (by kernel_rfl))
  f283 := Tryd.func227.trans (congrArg some (by kernel_rfl))
  f284 := Tryd.func228.trans (congrArg some (by kernel_rfl))
  f285 := Tryd.func229.trans (congrArg some (by kernel_rfl))
  f286 := Tryd.func230.trans (congrArg some (by kernel_rfl))
  f317 := Tryd.func236.trans (congrArg some (by kernel_rfl))
  f318 := Tryd.func238.trans (congrArg some (by kernel_rfl))
  f319 := Tryd.func239.trans (congrArg some (by kernel_rfl))
  f320 := Tryd.func240.trans (congrArg some (by kernel_rfl))
  f337 := Tryd.func241.trans (congrArg some (by kernel_rfl))
  f338 := Tryd.func242.trans (congrArg some (by kernel_rfl))
  t0 := Tryd.underlying0
  a0 := Tryd.isAgg0
  z0 := Tryd.sizeOf0
  v0 := Tryd.zeroValue0
  t2 := Tryd.underlying2
  a2 := Tryd.isAgg2
  z2 := Tryd.sizeOf2
  v2 := Tryd.zeroValue2
  t3 := Tryd.underlying3
  a3 := Tryd.isAgg3
  z3 := Tryd.sizeOf3
  v3 := Tryd.zeroValue3
  t4 := Tryd.underlying4
  a4 := Tryd.isAgg4
  z4 := Tryd.sizeOf4
  v4 := Tryd.zeroValue4
  t5 := Tryd.underlying5
  a5 := Tryd.isAgg5
  z5 := Tryd.sizeOf5
  v5 := Tryd.zeroValue5
  t9 := Tryd.underlying9
  a9 := Tryd.isAgg9
  z9 := Tryd.sizeOf9
  v9 := Tryd.zeroValue9
  t20 := Tryd.underlying20
  a20 := Tryd.isAgg20
  z20 := Tryd.sizeOf20
  v20 := Tryd.zeroValue20
  t37 := Tryd.underlying22
  a37 := Tryd.isAgg22
  z37 := Tryd.sizeOf22
  v37 := Tryd.zeroValue22
  t46 := Tryd.underlying211
  a46 := Tryd.isAgg211
  z46 := Tryd.sizeOf211
  v46 := Tryd.zeroValue211
  t51 := Tryd.underlying229
  a51 := Tryd.isAgg229
  z51 := Tryd.sizeOf229
  v51 := Tryd.zeroValue229
  t53 := Tryd.underlying181
  a53 := Tryd.isAgg181
  z53 := Tryd.sizeOf181
  v53 := Tryd.zeroValue181
  t171 := Tryd.underlying215
  a171 := Tryd.isAgg215
  z171 := Tryd.sizeOf215
  v171 := Tryd.zeroValue215
  t173 := Tryd.underlying218
  a173 := Tryd.isAgg218
  z173 := Tryd.sizeOf218
  v173 := Tryd.zeroValue218
  t212 := Tryd.underlying228
  a212 := Tryd.isAgg228
  z212 := Tryd.sizeOf228
  v212 := Tryd.zeroValue228
  t213 := Tryd.underlying230
  a213 := Tryd.isAgg230
  z213 := Tryd.sizeOf230
  t232 := Tryd.underlying234
  a232 := Tryd.isAgg234
  z232 := Tryd.sizeOf234
  v232 := Tryd.zeroValue234
  t233 := Tryd.underlying235
  a233 := Tryd.isAgg235
  z233 := Tryd.sizeOf235
  v233 := Tryd.zeroValue235
  g17 := by kernel_rfl
  g18 := by kernel_rfl
  g19 := by kernel_rfl
  i0 := by kernel_rfl
  i2 := by kernel_rfl
  i3 := by kernel_rfl
  i4 := by kernel_rfl
  i5 := by kernel_rfl
  i9 := by kernel_rfl
  i20 := by kernel_rfl
  i37 := by kernel_rfl
  i46 := by kernel_rfl
  i51 := by kernel_rfl
  i53 := by kernel_rfl
  i171 := by kernel_rfl
  i173 := by kernel_rfl
  i212 := by kernel_rfl
  i232 := by kernel_rfl
  i233 := by kernel_rfl
  m17 := by kernel_rfl
  m18 := by kernel_rfl
  m19 := by kernel_rfl }
open Go.RowKit Go.Sort Go.Lib in
/-- strconv.FormatInt: "FormatInt returns the string representation of i in the given base": AT BASE 10: i's decimal numeral, for every int64. (LAID: no walk: one application.) -/
theorem Tryd.strconv_FormatInt_10 (n : Int) (h0 : -9223372036854775808 ≤ n) (h1 : n ≤ 9223372036854775807) (w : World) (htab : Lib.TabIs Tryd.prog w "internal/strconv.uint64pow10" .u64 Lib.pow10Tab) :
    Calls Tryd.prog 181 #[.int .i64 n, .int .i64 10] w fun e w' => e = .returned (.string ⟨(Lib.itoa n).toArray⟩) ∧ ∃ k os, w' = grow (w.drewN k) os := Any.strconv_FormatInt_10 Tryd.laysM173 n h0 h1 w htab
end Go.Proofs
