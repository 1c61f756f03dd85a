/- The shelf's contracts at this program: the tables of numbers were printed by the kit's laying tool. -/
import Derived.Shelf.Sort.Plain
import Derived.Shelf.Slices.In.SortNone
import Derived.Test.YtdjnccnecgblmaaDoorProg
namespace Go.Proofs.YtdjnccnecgblmaaDoor
open Go.RowKit Go.Shelf
set_option linter.unusedVariables false
def lays190_ren : Go.Shelf.Ren := ⟨fun | 190 => 17 | 125 => 29 | 258 => 28 | 128 => 52 | 129 => 53 | 302 => 43 | 303 => 44 | 304 => 45 | 305 => 46 | 306 => 47 | 307 => 48 | 308 => 49 | 309 => 50 | 310 => 51 | 333 => 66 | 329 => 67 | 330 => 68 | 334 => 69 | 335 => 70 | 336 => 71 | 344 => 80 | n => n,fun | 31 => 23 | 9 => 9 | 3 => 3 | 46 => 69 | 0 => 0 | 51 => 93 | 53 => 95 | 4 => 4 | 183 => 85 | 182 => 84 | 131 => 90 | 5 => 5 | 218 => 104 | 222 => 108 | 228 => 115 | 229 => 116 | n => n,fun | n => n⟩
theorem lays190 : Go.Proofs.Lays.n190 Tryd.prog lays190_ren := {
 mixed := by kernel_rfl
 f125 := Tryd.func29.trans (congrArg some (by kernel_rfl))
 f128 := Tryd.func52.trans (congrArg some (by kernel_rfl))
 f129 := Tryd.func53.trans (congrArg some (by kernel_rfl))
 f190 := Tryd.func17.trans (congrArg some (by kernel_rfl))
 f258 := Tryd.func28.trans (congrArg some (by kernel_rfl))
 f302 := Tryd.func43.trans (congrArg some (by kernel_rfl))
 f303 := Tryd.func44.trans (congrArg some (by kernel_rfl))
 f304 := Tryd.func45.trans (congrArg some (by kernel_rfl))
 f305 := Tryd.func46.trans (congrArg some (by kernel_rfl))
 f306 := Tryd.func47.trans (congrArg some (by kernel_rfl))
 f307 := Tryd.func48.trans (congrArg some (by kernel_rfl))
 f308 := Tryd.func49.trans (congrArg some (by kernel_rfl))
 f309 := Tryd.func50.trans (congrArg some (by kernel_rfl))
 f310 := Tryd.func51.trans (congrArg some (by kernel_rfl))
 f329 := Tryd.func67.trans (congrArg some (by kernel_rfl))
 f330 := Tryd.func68.trans (congrArg some (by kernel_rfl))
 f333 := Tryd.func66.trans (congrArg some (by kernel_rfl))
 f334 := Tryd.func69.trans (congrArg some (by kernel_rfl))
 f335 := Tryd.func70.trans (congrArg some (by kernel_rfl))
 f336 := Tryd.func71.trans (congrArg some (by kernel_rfl))
 f344 := Tryd.func80.trans (congrArg some (by kernel_rfl))
 t0 := Tryd.underlying0
 a0 := Tryd.isAgg0
 z0 := Tryd.sizeOf0
 v0 := Tryd.zeroValue0
 t3 := Tryd.underlying3
 a3 := Tryd.isAgg3
 z3 := Tryd.sizeOf3
 v3 := Tryd.zeroValue3
 t4 := Tryd.underlying4
 a4 := Tryd.isAgg4
 z4 := Tryd.sizeOf4
 v4 := Tryd.zeroValue4
 t5 := Tryd.underlying5
 a5 := Tryd.isAgg5
 z5 := Tryd.sizeOf5
 v5 := Tryd.zeroValue5
 t9 := Tryd.underlying9
 a9 := Tryd.isAgg9
 z9 := Tryd.sizeOf9
 v9 := Tryd.zeroValue9
 t31 := Tryd.underlying23
 a31 := Tryd.isAgg23
 z31 := Tryd.sizeOf23
 v31 := Tryd.zeroValue23
 t46 := Tryd.underlying69
 a46 := Tryd.isAgg69
 z46 := Tryd.sizeOf69
 v46 := Tryd.zeroValue69
 t51 := Tryd.underlying93
 a51 := Tryd.isAgg93
 z51 := Tryd.sizeOf93
 v51 := Tryd.zeroValue93
 t53 := Tryd.underlying95
 a53 := Tryd.isAgg95
 z53 := Tryd.sizeOf95
 v53 := Tryd.zeroValue95
 t131 := Tryd.underlying90
 a131 := Tryd.isAgg90
 z131 := Tryd.sizeOf90
 v131 := Tryd.zeroValue90
 t182 := Tryd.underlying84
 a182 := Tryd.isAgg84
 z182 := Tryd.sizeOf84
 v182 := Tryd.zeroValue84
 t183 := Tryd.underlying85
 a183 := Tryd.isAgg85
 z183 := Tryd.sizeOf85
 v183 := Tryd.zeroValue85
 t218 := Tryd.underlying104
 a218 := Tryd.isAgg104
 z218 := Tryd.sizeOf104
 v218 := Tryd.zeroValue104
 t222 := Tryd.underlying108
 a222 := Tryd.isAgg108
 z222 := Tryd.sizeOf108
 v222 := Tryd.zeroValue108
 t228 := Tryd.underlying115
 a228 := Tryd.isAgg115
 z228 := Tryd.sizeOf115
 v228 := Tryd.zeroValue115
 t229 := Tryd.underlying116
 a229 := Tryd.isAgg116
 z229 := Tryd.sizeOf116
 v229 := Tryd.zeroValue116 }
end Go.Proofs.YtdjnccnecgblmaaDoor
