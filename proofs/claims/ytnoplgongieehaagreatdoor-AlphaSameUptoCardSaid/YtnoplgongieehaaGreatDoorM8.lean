import Derived.Test.YtnoplgongieehaaGreatDoorM6
import Derived.Test.YtnoplgongieehaaGreatDoorM5
namespace Go.Proofs.YtnoplgongieehaaGreatDoor
open Go.RowKit
set_option maxRecDepth 100000
set_option linter.unusedVariables false
set_option linter.unusedSimpArgs false
theorem Qa:uB Bp 300 60 20 [.Z (.string EQ)] vY=true:=by kernel_rfl
theorem LA(H:Y):D Tryz.prog 20 [.Z (.string EQ)] H (.ret (fH vY)) H:=pG sn Qa (.cons .Z .nil)
end Go.Proofs.YtnoplgongieehaaGreatDoor
