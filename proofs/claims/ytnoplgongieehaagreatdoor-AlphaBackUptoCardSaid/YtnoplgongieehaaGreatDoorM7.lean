import Derived.Test.YtnoplgongieehaaGreatDoorM5
import Derived.Test.YtnoplgongieehaaGreatDoorProg
namespace Go.Proofs.YtnoplgongieehaaGreatDoor
open Go.RowKit
set_option maxRecDepth 100000
set_option linter.unusedVariables false
set_option linter.unusedSimpArgs false
theorem Qh:uh (BH Tryz.prog (List.range 200)) 300 60 20 [.sc (.string Fe)] vL=true:=by kernel_rfl
theorem L3(H:Y):D Tryz.prog 20 [.sc (.string Fe)] H (.ret (fI vL)) H:=oY rT Qh (.cons .sc .nil)
end Go.Proofs.YtnoplgongieehaaGreatDoor
