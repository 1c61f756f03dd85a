import Derived.Test.YtnoplgongieehaaGreatDoorM5
import Derived.Test.YtnoplgongieehaaGreatDoorProg
namespace Go.Proofs.YtnoplgongieehaaGreatDoor
open Go.RowKit
set_option maxRecDepth 100000
set_option linter.unusedVariables false
set_option linter.unusedSimpArgs false
theorem VI:uh (BH Tryz.prog (List.range 200)) 300 60 20 [.sc (.string LQ)] pW=true:=by kernel_rfl
theorem Qf(H:Y):D Tryz.prog 20 [.sc (.string LQ)] H (.ret (fI pW)) H:=oY rT VI (.cons .sc .nil)
theorem VJ:uh (BH Tryz.prog (List.range 200)) 300 60 20 [.sc (.string LR)] Bx=true:=by kernel_rfl
theorem Qg(H:Y):D Tryz.prog 20 [.sc (.string LR)] H (.ret (fI Bx)) H:=oY rT VJ (.cons .sc .nil)
end Go.Proofs.YtnoplgongieehaaGreatDoor
