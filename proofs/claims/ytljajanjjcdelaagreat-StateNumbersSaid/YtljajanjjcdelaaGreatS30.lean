/- Marks; lists of texts that are lent. -/
import Derived.Test.YtljajanjjcdelaaGreatSA
import Derived.Test.YtljajanjjcdelaaGreatIc4
import Derived.Test.YtljajanjjcdelaaGreatVE
namespace Go.Proofs.YtljajanjjcdelaaGreat
open Go.RowKit
set_option maxRecDepth 100000
set_option linter.unusedVariables false
set_option linter.unusedSimpArgs false
/-- A text that marks a place. -/
def markT (k i : Int) : ByteArray := bytesV [.sc (.int .u8 35),.sc (.int .u8 (IntKind.u8.wrap k)),.sc (.int .u8 (IntKind.u8.wrap (k.fdiv (2 ^ min 8 IntKind.i64.bits)))),.sc (.int .u8 (IntKind.u8.wrap (k.fdiv (2 ^ min 16 IntKind.i64.bits)))),
 .sc (.int .u8 47),.sc (.int .u8 (IntKind.u8.wrap i)),.sc (.int .u8 (IntKind.u8.wrap (i.fdiv (2 ^ min 8 IntKind.i64.bits)))),.sc (.int .u8 (IntKind.u8.wrap (i.fdiv (2 ^ min 16 IntKind.i64.bits))))]
theorem markText_d (k i : Int) (H : AHeap) : D Tryz.prog 47 [.sc (.int .i64 k),.sc (.int .i64 i)] H (.ret (.sc (.string (markT k i)))) H := by
 refine D_of_DK (Nat.le_refl _) (dk47 (E_of_ES ?_))
 simp -implicitDefEqProofs (maxSteps := 99999999) (disch := omega) only [ic47,va,vg,vs,vh,Nat.reduceMul,ite_true,ite_false,eq_self,forall_const,implies_true,Nat.reduceAdd,Nat.reduceSub,Nat.reduceLT,Nat.reduceLeDiff,↓reduceIte,reduceCtorEq,Int.reduceEq,Int.reduceLT,Int.reduceLE,Int.reduceGT,Int.reduceGE,Int.reduceAdd,Int.reduceSub,Int.reduceNeg,Int.reduceToNat,Nat.reduceBEq,Nat.reduceEqDiff]
 exact weak_sc .refl
end Go.Proofs.YtljajanjjcdelaaGreat
