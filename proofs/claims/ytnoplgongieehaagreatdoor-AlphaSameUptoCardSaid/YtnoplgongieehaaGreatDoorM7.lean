import Derived.Test.YtnoplgongieehaaGreatDoorM6
import Derived.Test.YtnoplgongieehaaGreatDoorM5
namespace Go.Proofs.YtnoplgongieehaaGreatDoor
open Go.RowKit
set_option maxRecDepth 100000
set_option linter.unusedVariables false
set_option linter.unusedSimpArgs false
theorem VZ:uB Bp 300 60 20 [.Z (.string Lo)] qp=true:=by kernel_rfl
theorem P8(H:Y):D Tryz.prog 20 [.Z (.string Lo)] H (.ret (fH qp)) H:=pG sn VZ (.cons .Z .nil)
theorem V0:uB Bp 300 60 20 [.Z (.string Lp)] Bj=true:=by kernel_rfl
theorem P9(H:Y):D Tryz.prog 20 [.Z (.string Lp)] H (.ret (fH Bj)) H:=pG sn V0 (.cons .Z .nil)
end Go.Proofs.YtnoplgongieehaaGreatDoor
