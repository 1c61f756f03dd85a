import Derived.Test.YtnoplgongieehaaGreatDoorM6
import Derived.Test.YtnoplgongieehaaGreatDoorProg
namespace Go.Proofs.YtnoplgongieehaaGreatDoor
open Go.RowKit
set_option maxHeartbeats 0
set_option maxRecDepth 100000
set_option linter.unusedVariables false
set_option linter.unusedSimpArgs false
theorem U6:xV (BJ Tryz.prog (List.range 200)) 300 60 20 [.sc (.string Jj)] zJ=true:=by kernel_rfl
theorem QC(H:Y):D Tryz.prog 20 [.sc (.string Jj)] H (.ret (eu zJ)) H:=sB sA U6 (.cons .sc .nil)
end Go.Proofs.YtnoplgongieehaaGreatDoor
