/- A text's lines: plain. -/
import Derived.Test.YtigmpablpmanpaaDoorSA
namespace Go.Proofs.YtigmpablpmanpaaDoor
open Go.RowKit
set_option linter.unusedVariables false
set_option linter.unusedSimpArgs false
theorem bytes_len (s : ByteArray) : s.data.toList.length = s.size := by rw [Array.length_toList]; rfl
end Go.Proofs.YtigmpablpmanpaaDoor
