/- Lists of 64-bit numbers: lent; kept. -/
import Derived.Test.YtpnnpooeheiedaaDoorSM
import Derived.Test.YtpnnpooeheiedaaDoorS200
import Derived.Test.YtpnnpooeheiedaaDoorIc30
import Derived.Test.YtpnnpooeheiedaaDoorVE
namespace Go.Proofs.YtpnnpooeheiedaaDoor
open Go.RowKit
set_option maxRecDepth 100000
set_option linter.unusedVariables false
set_option linter.unusedSimpArgs false
def nthQ (xs : List Int) (k : Nat) : Int := xs.getD k 0
theorem nthQ_eq {xs : List Int} {k : Nat} (h : k < xs.length) : nthQ xs k = xs[k] := by simp [nthQ,List.getD,h]
theorem lng_getN {l : List Int} {k : Nat} (h : k < l.length) : (lng l).getD k .top = .sc (.int .i64 (nthQ l k)) := by
 simp [lng,nthQ,List.getD,h]
end Go.Proofs.YtpnnpooeheiedaaDoor
