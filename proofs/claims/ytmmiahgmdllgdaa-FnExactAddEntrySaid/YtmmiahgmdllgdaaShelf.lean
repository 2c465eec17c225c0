/- The library's contracts that this claim uses, laid at this dump in plain words by the shelf's tool. -/
import Derived.Shelf.Small.Bits
import Derived.Shelf.Strconv.Itoa0
import Derived.Ground.GgsProg
import Derived.Shelf.GgSortFunc.Insertion
import Derived.Shelf.GgSortFunc.Small
import Derived.Shelf.GgSortFunc.InsertionK
import Derived.Shelf.GgSortFunc.SmallK
import Derived.Shelf.GgSortFunc.Compose
import Derived.Shelf.GgSortFunc.LotD
import Derived.Shelf.SlSortFunc.Xorshift
import Derived.Shelf.SlSortFuncK.ComposeK
import Derived.Shelf.SlSortFuncK.SiftDownK
import Derived.Shelf.SlSortFuncK.HeapSortK
import Derived.Shelf.SlSortFuncK.PartialInsertionK
import Derived.Shelf.SlSortFuncK.LotDK
import Derived.Shelf.SlSortFuncK.PivotK
import Derived.Shelf.SlSortFuncK.PartitionK
import Derived.Shelf.SlSortFuncK.PdqK
import Derived.Shelf.SlSortFuncK.WholeK
import Derived.Test.YtmmiahgmdllgdaaProg
namespace Go.Proofs
open Go.Shelf
def Try.laysGg6_ren : Go.Shelf.Ren := ⟨fun | 6 => 86 | 10 => 119 | 11 => 120 | 12 => 121 | 13 => 122 | 14 => 123 | 24 => 140 | 25 => 141 | 26 => 142 | 27 => 143 | 28 => 144 | 29 => 145 | 30 => 146 | 31 => 147 | 32 => 148 | 33 => 149 | 34 => 151 | 35 => 152 | 36 => 153 | 37 => 154 | 38 => 155 | 39 => 156 | n => n, fun | 20 => 20 | 26 => 133 | 35 => 158 | 0 => 0 | 37 => 160 | 3 => 3 | 41 => 163 | 44 => 166 | 49 => 175 | 51 => 136 | 4 => 4 | 54 => 179 | 53 => 178 | 58 => 183 | 5 => 5 | 9 => 9 | 60 => 186 | 64 => 190 | 66 => 192 | 67 => 193 | 17 => 17 | 32 => 155 | 33 => 156 | 82 => 208 | 12 => 12 | 75 => 201 | 76 => 202 | 77 => 203 | 78 => 204 | 79 => 205 | 80 => 206 | n => n, fun | n => n⟩
theorem Try.laysGg6 : Go.Proofs.LaysGg.n6 Try.prog Try.laysGg6_ren := {
  mixed := by kernel_rfl
  f6 := Try.func86.trans (congrArg some (by kernel_rfl))
  f10 := Try.func119.trans (congrArg some (by kernel_rfl))
  f11 := Try.func120.trans (congrArg some (by kernel_rfl))
  f12 := Try.func121.trans (congrArg some (by kernel_rfl))
  f13 := Try.func122.trans (congrArg some (by kernel_rfl))
  f14 := Try.func123.trans (congrArg some (by kernel_rfl))
  f24 := Try.func140.trans (congrArg some (by kernel_rfl))
  f25 := Try.func141.trans (congrArg some (by kernel_rfl))
  f26 := Try.func142.trans (congrArg some (by kernel_rfl))
  f27 := Try.func143.trans (congrArg some (by kernel_rfl))
  f28 := Try.func144.trans (congrArg some (by kernel_rfl))
  f29 := Try.func145.trans (congrArg some (by kernel_rfl))
  f30 := Try.func146.trans (congrArg some (by kernel_rfl))
  f31 := Try.func147.trans (congrArg some (by kernel_rfl))
  f32 := Try.func148.trans (congrArg some (by kernel_rfl))
  f33 := Try.func149.trans (congrArg some (by kernel_rfl))
  f34 := Try.func151.trans (congrArg some (by kernel_rfl))
  f35 := Try.func152.trans (congrArg some (by kernel_rfl))
  f36 := Try.func153.trans (congrArg some (by kernel_rfl))
  f37 := Try.func154.trans (congrArg some (by kernel_rfl))
  f38 := Try.func155.trans (congrArg some (by kernel_rfl))
  f39 := Try.func156.trans (congrArg some (by kernel_rfl))
  t0 := Try.underlying0
  a0 := Try.isAgg0
  z0 := Try.sizeOf0
  v0 := Try.zeroValue0
  i0 := by kernel_rfl
  t3 := Try.underlying3
  a3 := Try.isAgg3
  z3 := Try.sizeOf3
  v3 := Try.zeroValue3
  i3 := by kernel_rfl
  t4 := Try.underlying4
  a4 := Try.isAgg4
  z4 := Try.sizeOf4
  v4 := Try.zeroValue4
  i4 := by kernel_rfl
  t5 := Try.underlying5
  a5 := Try.isAgg5
  z5 := Try.sizeOf5
  v5 := Try.zeroValue5
  i5 := by kernel_rfl
  t9 := Try.underlying9
  a9 := Try.isAgg9
  z9 := Try.sizeOf9
  v9 := Try.zeroValue9
  i9 := by kernel_rfl
  t12 := Try.underlying12
  a12 := Try.isAgg12
  z12 := Try.sizeOf12
  v12 := Try.zeroValue12
  i12 := by kernel_rfl
  t17 := Try.underlying17
  a17 := Try.isAgg17
  z17 := Try.sizeOf17
  v17 := Try.zeroValue17
  i17 := by kernel_rfl
  t20 := Try.underlying20
  a20 := Try.isAgg20
  z20 := Try.sizeOf20
  v20 := Try.zeroValue20
  i20 := by kernel_rfl
  t26 := Try.underlying133
  a26 := Try.isAgg133
  z26 := Try.sizeOf133
  v26 := Try.zeroValue133
  i26 := by kernel_rfl
  t32 := Try.underlying155
  a32 := Try.isAgg155
  z32 := Try.sizeOf155
  v32 := Try.zeroValue155
  i32 := by kernel_rfl
  t33 := Try.underlying156
  a33 := Try.isAgg156
  z33 := Try.sizeOf156
  v33 := Try.zeroValue156
  i33 := by kernel_rfl
  t35 := Try.underlying158
  a35 := Try.isAgg158
  z35 := Try.sizeOf158
  v35 := Try.zeroValue158
  i35 := by kernel_rfl
  t37 := Try.underlying160
  a37 := Try.isAgg160
  z37 := Try.sizeOf160
  v37 := Try.zeroValue160
  i37 := by kernel_rfl
  t41 := Try.underlying163
  a41 := Try.isAgg163
  z41 := Try.sizeOf163
  v41 := Try.zeroValue163
  i41 := by kernel_rfl
  t44 := Try.underlying166
  a44 := Try.isAgg166
  z44 := Try.sizeOf166
  v44 := Try.zeroValue166
  i44 := by kernel_rfl
  t49 := Try.underlying175
  a49 := Try.isAgg175
  z49 := Try.sizeOf175
  v49 := Try.zeroValue175
  i49 := by kernel_rfl
  t51 := Try.underlying136
  a51 := Try.isAgg136
  z51 := Try.sizeOf136
  v51 := Try.zeroValue136
  i51 := by kernel_rfl
  t53 := Try.underlying178
  a53 := Try.isAgg178
  z53 := Try.sizeOf178
  v53 := Try.zeroValue178
  i53 := by kernel_rfl
  t54 := Try.underlying179
  a54 := Try.isAgg179
  z54 := Try.sizeOf179
  v54 := Try.zeroValue179
  i54 := by kernel_rfl
  t58 := Try.underlying183
  a58 := Try.isAgg183
  z58 := Try.sizeOf183
  v58 := Try.zeroValue183
  i58 := by kernel_rfl
  t60 := Try.underlying186
  a60 := Try.isAgg186
  z60 := Try.sizeOf186
  v60 := Try.zeroValue186
  i60 := by kernel_rfl
  t64 := Try.underlying190
  a64 := Try.isAgg190
  z64 := Try.sizeOf190
  v64 := Try.zeroValue190
  i64 := by kernel_rfl
  t66 := Try.underlying192
  a66 := Try.isAgg192
  z66 := Try.sizeOf192
  v66 := Try.zeroValue192
  i66 := by kernel_rfl
  t67 := Try.underlying193
  a67 := Try.isAgg193
  z67 := Try.sizeOf193
  v67 := Try.zeroValue193
  i67 := by kernel_rfl
  t75 := Try.underlying201
  a75 := Try.isAgg201
  z75 := Try.sizeOf201
  v75 := Try.zeroValue201
  i75 := by kernel_rfl
  t76 := Try.underlying202
  a76 := Try.isAgg202
  z76 := Try.sizeOf202
  v76 := Try.zeroValue202
  i76 := by kernel_rfl
  t77 := Try.underlying203
  a77 := Try.isAgg203
  z77 := Try.sizeOf203
  v77 := Try.zeroValue203
  i77 := by kernel_rfl
  t78 := Try.underlying204
  a78 := Try.isAgg204
  z78 := Try.sizeOf204
  v78 := Try.zeroValue204
  i78 := by kernel_rfl
  t79 := Try.underlying205
  a79 := Try.isAgg205
  z79 := Try.sizeOf205
  v79 := Try.zeroValue205
  i79 := by kernel_rfl
  t80 := Try.underlying206
  a80 := Try.isAgg206
  z80 := Try.sizeOf206
  v80 := Try.zeroValue206
  i80 := by kernel_rfl
  t82 := Try.underlying208
  a82 := Try.isAgg208
  z82 := Try.sizeOf208
  v82 := Try.zeroValue208
  i82 := by kernel_rfl }
end Go.Proofs
