import Derived.Test.YtfnahogjkgcklaaGreatDoorSA
import Derived.Test.YtfnahogjkgcklaaGreatDoorIc4
namespace Go.Proofs.YtfnahogjkgcklaaGreatDoor
open Go.RowKit
set_option maxRecDepth 100000
set_option linter.unusedVariables false
set_option linter.unusedSimpArgs false
def markI (k i : Int) : Int:=IntKind.i64.wrap (IntKind.i64.wrap (1000003 * IntKind.i64.wrap (k+7))+i)
theorem mark_d (k i : Int) (H : AHeap) : D Tryz.prog 40 [.sc (.int .i64 k),.sc (.int .i64 i)] H (.ret (.sc (.int .i64 (markI k i)))) H:=by
 refine D_of_DK (Nat.le_refl _) (dk40 (E_of_ES ?_))
 unfold markI
 simp -implicitDefEqProofs (maxSteps:=99999999) only[ic40,va,vs,vh,↓reduceIte]
 exact Weak.refl _ _ _
end Go.Proofs.YtfnahogjkgcklaaGreatDoor
