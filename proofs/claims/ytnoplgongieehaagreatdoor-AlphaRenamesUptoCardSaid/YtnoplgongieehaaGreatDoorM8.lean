import Derived.Test.YtnoplgongieehaaGreatDoorM6
import Derived.Test.YtnoplgongieehaaGreatDoorProg
namespace Go.Proofs.YtnoplgongieehaaGreatDoor
open Go.RowKit
set_option maxHeartbeats 0
set_option maxRecDepth 100000
set_option linter.unusedVariables false
set_option linter.unusedSimpArgs false
theorem Vb:xW (BK Tryz.prog (List.range 200)) 300 60 20 [.sc (.string Jm)] zK=true:=by kernel_rfl
theorem QG(H:Y):D Tryz.prog 20 [.sc (.string Jm)] H (.ret (eu zK)) H:=sC sB Vb (.cons .sc .nil)
end Go.Proofs.YtnoplgongieehaaGreatDoor
