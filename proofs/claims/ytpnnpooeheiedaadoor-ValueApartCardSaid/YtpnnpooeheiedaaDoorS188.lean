/- Values: the document's operators of two ints. -/
import Derived.Test.YtpnnpooeheiedaaDoorS187
namespace Go.Proofs.YtpnnpooeheiedaaDoor
open Go.RowKit
set_option maxRecDepth 100000
set_option linter.unusedVariables false
set_option linter.unusedSimpArgs false
def knownL : List ByteArray := [⟨#[124,124]⟩,⟨#[38,38]⟩,⟨#[61,61]⟩,⟨#[33,61]⟩,⟨#[60]⟩,⟨#[60,61]⟩,⟨#[62]⟩,⟨#[62,61]⟩,⟨#[43]⟩,⟨#[45]⟩,⟨#[42]⟩,⟨#[47]⟩,⟨#[37]⟩]
end Go.Proofs.YtpnnpooeheiedaaDoor
