import Derived.Test.YtnoplgongieehaaGreatDoorM5
import Derived.Test.YtnoplgongieehaaGreatDoorProg
namespace Go.Proofs.YtnoplgongieehaaGreatDoor
open Go.RowKit
set_option maxRecDepth 100000
set_option linter.unusedVariables false
set_option linter.unusedSimpArgs false
theorem VK:uh (BH Tryz.prog (List.range 200)) 300 60 20 [.sc (.string LS)] Bz=true:=by kernel_rfl
theorem Qi(H:Y):D Tryz.prog 20 [.sc (.string LS)] H (.ret (fI Bz)) H:=oY rT VK (.cons .sc .nil)
theorem VL:uh (BH Tryz.prog (List.range 200)) 300 60 20 [.sc (.string LU)] BA=true:=by kernel_rfl
theorem Qj(H:Y):D Tryz.prog 20 [.sc (.string LU)] H (.ret (fI BA)) H:=oY rT VL (.cons .sc .nil)
end Go.Proofs.YtnoplgongieehaaGreatDoor
