import Derived.Test.YtnoplgongieehaaGreatDoorM6
import Derived.Test.YtnoplgongieehaaGreatDoorProg
namespace Go.Proofs.YtnoplgongieehaaGreatDoor
open Go.RowKit
set_option maxHeartbeats 0
set_option maxRecDepth 100000
set_option linter.unusedVariables false
set_option linter.unusedSimpArgs false
theorem aam:xV (BJ Tryz.prog (List.range 200)) 300 60 20 [.sc (.string Qq)] tF=true:=by kernel_rfl
theorem U4(H:Y):D Tryz.prog 20 [.sc (.string Qq)] H (.ret (eu tF)) H:=sB sA aam (.cons .sc .nil)
theorem aan:xV (BJ Tryz.prog (List.range 200)) 300 60 20 [.sc (.string Qr)] EO=true:=by kernel_rfl
theorem U5(H:Y):D Tryz.prog 20 [.sc (.string Qr)] H (.ret (eu EO)) H:=sB sA aan (.cons .sc .nil)
end Go.Proofs.YtnoplgongieehaaGreatDoor
