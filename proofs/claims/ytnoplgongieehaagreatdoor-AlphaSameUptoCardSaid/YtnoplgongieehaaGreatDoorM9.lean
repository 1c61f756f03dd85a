import Derived.Test.YtnoplgongieehaaGreatDoorM6
import Derived.Test.YtnoplgongieehaaGreatDoorM5
namespace Go.Proofs.YtnoplgongieehaaGreatDoor
open Go.RowKit
set_option maxRecDepth 100000
set_option linter.unusedVariables false
set_option linter.unusedSimpArgs false
theorem V1:uB Bp 300 60 20 [.Z (.string Lq)] Bk=true:=by kernel_rfl
theorem Qb(H:Y):D Tryz.prog 20 [.Z (.string Lq)] H (.ret (fH Bk)) H:=pG sn V1 (.cons .Z .nil)
theorem V2:uB Bp 300 60 20 [.Z (.string Lr)] Bl=true:=by kernel_rfl
theorem Qc(H:Y):D Tryz.prog 20 [.Z (.string Lr)] H (.ret (fH Bl)) H:=pG sn V2 (.cons .Z .nil)
end Go.Proofs.YtnoplgongieehaaGreatDoor
