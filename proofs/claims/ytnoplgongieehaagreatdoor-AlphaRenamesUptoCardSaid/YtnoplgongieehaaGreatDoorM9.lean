import Derived.Test.YtnoplgongieehaaGreatDoorM6
import Derived.Test.YtnoplgongieehaaGreatDoorProg
namespace Go.Proofs.YtnoplgongieehaaGreatDoor
open Go.RowKit
set_option maxHeartbeats 0
set_option maxRecDepth 100000
set_option linter.unusedVariables false
set_option linter.unusedSimpArgs false
theorem aao:xV (BJ Tryz.prog (List.range 200)) 300 60 20 [.sc (.string Qs)] EP=true:=by kernel_rfl
theorem U7(H:Y):D Tryz.prog 20 [.sc (.string Qs)] H (.ret (eu EP)) H:=sB sA aao (.cons .sc .nil)
theorem aap:xV (BJ Tryz.prog (List.range 200)) 300 60 20 [.sc (.string Qt)] EQ=true:=by kernel_rfl
theorem U8(H:Y):D Tryz.prog 20 [.sc (.string Qt)] H (.ret (eu EQ)) H:=sB sA aap (.cons .sc .nil)
end Go.Proofs.YtnoplgongieehaaGreatDoor
