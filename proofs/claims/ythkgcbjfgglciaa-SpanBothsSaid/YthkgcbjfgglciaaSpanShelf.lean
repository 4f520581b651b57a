/-
  The laying of the library's sort.Slice at this program, in plain words (written by the kit's lay-shelf and lay-plain; numbers of the seat of g3).
-/
import Derived.Shelf.Small.Bits
import Derived.Shelf.Strconv.Itoa0
import Derived.Ground.GgsProg
import Derived.Shelf.GgSortFunc.Insertion
import Derived.Shelf.GgSortFunc.Small
import Derived.Shelf.GgSortFunc.InsertionK
import Derived.Shelf.GgSortFunc.SmallK
import Derived.Shelf.GgSortFunc.Compose
import Derived.Shelf.GgSortFunc.LotD
import Derived.Shelf.SlSortFunc.Xorshift
import Derived.Shelf.SlSortFuncK.ComposeK
import Derived.Shelf.SlSortFuncK.SiftDownK
import Derived.Shelf.SlSortFuncK.HeapSortK
import Derived.Shelf.SlSortFuncK.PartialInsertionK
import Derived.Shelf.SlSortFuncK.LotDK
import Derived.Shelf.SlSortFuncK.PivotK
import Derived.Shelf.SlSortFuncK.PartitionK
import Derived.Shelf.SlSortFuncK.PdqK
import Derived.Shelf.SlSortFuncK.WholeK
import Derived.Test.YthkgcbjfgglciaaProg
namespace Go.Proofs.Ythkgcbjfgglciaa.spans
open Go.Shelf
def laysGg6_ren : Go.Shelf.Ren := ⟨fun | 6 => 66 | 10 => 72 | 11 => 73 | 12 => 74 | 13 => 75 | 14 => 76 | 24 => 89 | 25 => 90 | 26 => 91 | 27 => 92 | 28 => 93 | 29 => 94 | 30 => 95 | 31 => 96 | 32 => 97 | 33 => 98 | 34 => 99 | 35 => 100 | 36 => 101 | 37 => 102 | 38 => 103 | 39 => 104 | n => n, fun | 20 => 20 | 26 => 85 | 35 => 96 | 0 => 0 | 37 => 98 | 3 => 3 | 41 => 81 | 44 => 104 | 49 => 114 | 51 => 92 | 4 => 4 | 54 => 118 | 53 => 117 | 58 => 122 | 5 => 5 | 9 => 9 | 60 => 124 | 64 => 65 | 66 => 129 | 67 => 130 | 17 => 17 | 32 => 93 | 33 => 94 | 82 => 145 | 12 => 12 | 75 => 138 | 76 => 139 | 77 => 140 | 78 => 141 | 79 => 142 | 80 => 143 | n => n, fun | n => n⟩
theorem laysGg6 : Go.Proofs.LaysGg.n6 Try.prog laysGg6_ren := {
  mixed := by kernel_rfl
  f6 := Try.func66.trans (congrArg some (by kernel_rfl))
  f10 := Try.func72.trans (congrArg some (by kernel_rfl))
  f11 := Try.func73.trans (congrArg some (by kernel_rfl))
  f12 := Try.func74.trans (congrArg some (by kernel_rfl))
  f13 := Try.func75.trans (congrArg some (by kernel_rfl))
  f14 := Try.func76.trans (congrArg some (by kernel_rfl))
  f24 := Try.func89.trans (congrArg some (by kernel_rfl))
  f25 := Try.func90.trans (congrArg some (by kernel_rfl))
  f26 := Try.func91.trans (congrArg some (by kernel_rfl))
  f27 := Try.func92.trans (congrArg some (by kernel_rfl))
  f28 := Try.func93.trans (congrArg some (by kernel_rfl))
  f29 := Try.func94.trans (congrArg some (by kernel_rfl))
  f30 := Try.func95.trans (congrArg some (by kernel_rfl))
  f31 := Try.func96.trans (congrArg some (by kernel_rfl))
  f32 := Try.func97.trans (congrArg some (by kernel_rfl))
  f33 := Try.func98.trans (congrArg some (by kernel_rfl))
  f34 := Try.func99.trans (congrArg some (by kernel_rfl))
  f35 := Try.func100.trans (congrArg some (by kernel_rfl))
  f36 := Try.func101.trans (congrArg some (by kernel_rfl))
  f37 := Try.func102.trans (congrArg some (by kernel_rfl))
  f38 := Try.func103.trans (congrArg some (by kernel_rfl))
  f39 := Try.func104.trans (congrArg some (by kernel_rfl))
  t0 := Try.underlying0
  a0 := Try.isAgg0
  z0 := Try.sizeOf0
  v0 := Try.zeroValue0
  i0 := by kernel_rfl
  t3 := Try.underlying3
  a3 := Try.isAgg3
  z3 := Try.sizeOf3
  v3 := Try.zeroValue3
  i3 := by kernel_rfl
  t4 := Try.underlying4
  a4 := Try.isAgg4
  z4 := Try.sizeOf4
  v4 := Try.zeroValue4
  i4 := by kernel_rfl
  t5 := Try.underlying5
  a5 := Try.isAgg5
  z5 := Try.sizeOf5
  v5 := Try.zeroValue5
  i5 := by kernel_rfl
  t9 := Try.underlying9
  a9 := Try.isAgg9
  z9 := Try.sizeOf9
  v9 := Try.zeroValue9
  i9 := by kernel_rfl
  t12 := Try.underlying12
  a12 := Try.isAgg12
  z12 := Try.sizeOf12
  v12 := Try.zeroValue12
  i12 := by kernel_rfl
  t17 := Try.underlying17
  a17 := Try.isAgg17
  z17 := Try.sizeOf17
  v17 := Try.zeroValue17
  i17 := by kernel_rfl
  t20 := Try.underlying20
  a20 := Try.isAgg20
  z20 := Try.sizeOf20
  v20 := Try.zeroValue20
  i20 := by kernel_rfl
  t26 := Try.underlying85
  a26 := Try.isAgg85
  z26 := Try.sizeOf85
  v26 := Try.zeroValue85
  i26 := by kernel_rfl
  t32 := Try.underlying93
  a32 := Try.isAgg93
  z32 := Try.sizeOf93
  v32 := Try.zeroValue93
  i32 := by kernel_rfl
  t33 := Try.underlying94
  a33 := Try.isAgg94
  z33 := Try.sizeOf94
  v33 := Try.zeroValue94
  i33 := by kernel_rfl
  t35 := Try.underlying96
  a35 := Try.isAgg96
  z35 := Try.sizeOf96
  v35 := Try.zeroValue96
  i35 := by kernel_rfl
  t37 := Try.underlying98
  a37 := Try.isAgg98
  z37 := Try.sizeOf98
  v37 := Try.zeroValue98
  i37 := by kernel_rfl
  t41 := Try.underlying81
  a41 := Try.isAgg81
  z41 := Try.sizeOf81
  v41 := Try.zeroValue81
  i41 := by kernel_rfl
  t44 := Try.underlying104
  a44 := Try.isAgg104
  z44 := Try.sizeOf104
  v44 := Try.zeroValue104
  i44 := by kernel_rfl
  t49 := Try.underlying114
  a49 := Try.isAgg114
  z49 := Try.sizeOf114
  v49 := Try.zeroValue114
  i49 := by kernel_rfl
  t51 := Try.underlying92
  a51 := Try.isAgg92
  z51 := Try.sizeOf92
  v51 := Try.zeroValue92
  i51 := by kernel_rfl
  t53 := Try.underlying117
  a53 := Try.isAgg117
  z53 := Try.sizeOf117
  v53 := Try.zeroValue117
  i53 := by kernel_rfl
  t54 := Try.underlying118
  a54 := Try.isAgg118
  z54 := Try.sizeOf118
  v54 := Try.zeroValue118
  i54 := by kernel_rfl
  t58 := Try.underlying122
  a58 := Try.isAgg122
  z58 := Try.sizeOf122
  v58 := Try.zeroValue122
  i58 := by kernel_rfl
  t60 := Try.underlying124
  a60 := Try.isAgg124
  z60 := Try.sizeOf124
  v60 := Try.zeroValue124
  i60 := by kernel_rfl
  t64 := Try.underlying65
  a64 := Try.isAgg65
  z64 := Try.sizeOf65
  v64 := Try.zeroValue65
  i64 := by kernel_rfl
  t66 := Try.underlying129
  a66 := Try.isAgg129
  z66 := Try.sizeOf129
  v66 := Try.zeroValue129
  i66 := by kernel_rfl
  t67 := Try.underlying130
  a67 := Try.isAgg130
  z67 := Try.sizeOf130
  v67 := Try.zeroValue130
  i67 := by kernel_rfl
  t75 := Try.underlying138
  a75 := Try.isAgg138
  z75 := Try.sizeOf138
  v75 := Try.zeroValue138
  i75 := by kernel_rfl
  t76 := Try.underlying139
  a76 := Try.isAgg139
  z76 := Try.sizeOf139
  v76 := Try.zeroValue139
  i76 := by kernel_rfl
  t77 := Try.underlying140
  a77 := Try.isAgg140
  z77 := Try.sizeOf140
  v77 := Try.zeroValue140
  i77 := by kernel_rfl
  t78 := Try.underlying141
  a78 := Try.isAgg141
  z78 := Try.sizeOf141
  v78 := Try.zeroValue141
  i78 := by kernel_rfl
  t79 := Try.underlying142
  a79 := Try.isAgg142
  z79 := Try.sizeOf142
  v79 := Try.zeroValue142
  i79 := by kernel_rfl
  t80 := Try.underlying143
  a80 := Try.isAgg143
  z80 := Try.sizeOf143
  v80 := Try.zeroValue143
  i80 := by kernel_rfl
  t82 := Try.underlying145
  a82 := Try.isAgg145
  z82 := Try.sizeOf145
  v82 := Try.zeroValue145
  i82 := by kernel_rfl }
end Go.Proofs.Ythkgcbjfgglciaa.spans
