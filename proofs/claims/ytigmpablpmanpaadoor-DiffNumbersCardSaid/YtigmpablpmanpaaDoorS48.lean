/- All rows of the bag are looked at; ApartTexts, ApartHunks. -/
import Derived.Test.YtigmpablpmanpaaDoorS47
namespace Go.Proofs.YtigmpablpmanpaaDoor
open Go.RowKit
set_option maxRecDepth 100000
set_option linter.unusedVariables false
set_option linter.unusedSimpArgs false
/-- What is given up when a row of rows was looked at. -/
def gone (os : List ORow) (it : Nat) : List Nat := if os = [] then [] else it :: ownIds os
end Go.Proofs.YtigmpablpmanpaaDoor
