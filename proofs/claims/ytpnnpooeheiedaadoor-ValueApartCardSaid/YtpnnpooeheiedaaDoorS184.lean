/- Values: the document's operators of one. -/
import Derived.Test.YtpnnpooeheiedaaDoorS183
namespace Go.Proofs.YtpnnpooeheiedaaDoor
open Go.RowKit
set_option maxRecDepth 100000
set_option linter.unusedVariables false
set_option linter.unusedSimpArgs false
theorem over_op {F H : AHeap} (k n e : Int) (h : Over H F) : Weak H (.ret (.tup [.agg [.sc (.int .u8 k),.sc (.int .i64 n),.lst 0 [] (some [])],.sc (.int .i64 e)])) F (.ret (.tup [nvA k n,.sc (.int .i64 e)])) H := weak_over h (.same (by simp [AV.ids,AV.idsL,AV.idsM]))
end Go.Proofs.YtpnnpooeheiedaaDoor
