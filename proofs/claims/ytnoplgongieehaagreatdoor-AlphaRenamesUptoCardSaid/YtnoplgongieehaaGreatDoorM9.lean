import Derived.Test.YtnoplgongieehaaGreatDoorM6
import Derived.Test.YtnoplgongieehaaGreatDoorProg
namespace Go.Proofs.YtnoplgongieehaaGreatDoor
open Go.RowKit
set_option maxHeartbeats 0
set_option maxRecDepth 100000
set_option linter.unusedVariables false
set_option linter.unusedSimpArgs false
theorem aas:xW (BK Tryz.prog (List.range 200)) 300 60 20 [.sc (.string Qv)] ER=true:=by kernel_rfl
theorem Vc(H:Y):D Tryz.prog 20 [.sc (.string Qv)] H (.ret (eu ER)) H:=sC sB aas (.cons .sc .nil)
theorem aat:xW (BK Tryz.prog (List.range 200)) 300 60 20 [.sc (.string Qw)] ET=true:=by kernel_rfl
theorem Vd(H:Y):D Tryz.prog 20 [.sc (.string Qw)] H (.ret (eu ET)) H:=sC sB aat (.cons .sc .nil)
end Go.Proofs.YtnoplgongieehaaGreatDoor
