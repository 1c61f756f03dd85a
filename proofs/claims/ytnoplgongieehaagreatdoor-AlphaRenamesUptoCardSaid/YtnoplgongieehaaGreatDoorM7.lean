import Derived.Test.YtnoplgongieehaaGreatDoorM6
import Derived.Test.YtnoplgongieehaaGreatDoorProg
namespace Go.Proofs.YtnoplgongieehaaGreatDoor
open Go.RowKit
set_option maxHeartbeats 0
set_option maxRecDepth 100000
set_option linter.unusedVariables false
set_option linter.unusedSimpArgs false
theorem aaq:xW (BK Tryz.prog (List.range 200)) 300 60 20 [.sc (.string Qt)] tG=true:=by kernel_rfl
theorem U9(H:Y):D Tryz.prog 20 [.sc (.string Qt)] H (.ret (eu tG)) H:=sC sB aaq (.cons .sc .nil)
theorem aar:xW (BK Tryz.prog (List.range 200)) 300 60 20 [.sc (.string Qu)] EQ=true:=by kernel_rfl
theorem Va(H:Y):D Tryz.prog 20 [.sc (.string Qu)] H (.ret (eu EQ)) H:=sC sB aar (.cons .sc .nil)
end Go.Proofs.YtnoplgongieehaaGreatDoor
