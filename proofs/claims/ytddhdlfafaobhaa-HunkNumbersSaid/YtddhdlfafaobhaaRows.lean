/-
  No cell of these rows narrows 'for every input' (looked for: loops, veiled, ifaces, maps, wideKeys, modest, calm, conditions, laid).
  DERIVED. THE GIVEN ROWS OF THIS SEAT. 7 by the template 'for every input the law returns true; each argument reads behind the call as it read before'; 0 by the template 'total and deterministic' (their statements: YtddhdlfafaobhaaTotals.lean).
  GIVEN WITH THE SEED: the statements are not yours to turn. If you find one false, say at which input.
  Laid BY PROGRAM, IN A SANDBOX (cutbox-rows.mjs): the forced cells as the released guide's own fill.sh prints them over the translation 500ee3efd18be042… (all of the seat's roots in one cut). By AI agents, Wed Nov 11 2026. No macro, syntax, notation, axiom, sorry.
-/
import Derived.Test.YtddhdlfafaobhaaChecked
import GoSem.Claim
import GoSem.ClaimJoined
import GoSem.ClaimMapViews
import Derived.JoinedTies
import Derived.KernelRfl
namespace Go.Proofs.Ytddhdlfafaobhaa
/- THE CELL 'sum', in the pinned program and in every row, IS THE sha256 OF THE DUMP (.gsa) THAT YtddhdlfafaobhaaProg.lean LOADS. Nothing in Lean hashes anything: it is a label: what it is worth is what the hold of that sum in a sandbox is worth. -/
noncomputable def Try.pinned : Pinned := { name := "ytddhdlfafaobhaa", sum := "500ee3efd18be04258e0d23cf0375fefd7a0b180f78e83ff77151dba795e4d11", checked := Try.checked }
namespace Rows
def none {H : Type} : Left H := { results := [], args := [] }

/-- 'clerestorylaw03.HunkApplies': WHATEVER THE INPUT: true; the input reads as it did. -/
def hunkAppliesSpec : ChangeSpec := { name := "hunkApplies", fn := fun _ => fun
  | [d1, d2] => { results := [.lit (.bool true)], args := [d1, d2] }
  | _ => none }
def hunkAppliesRow : OpenClaim := { program := "ytddhdlfafaobhaa", sum := "500ee3efd18be04258e0d23cf0375fefd7a0b180f78e83ff77151dba795e4d11", func := "clerestory/clerestorylaw03.HunkApplies", spec := "hunkApplies", inPlace := ["internal/bytealg.IndexByteString"], unfollowed := true, recurses := true, apart := false }
def HunkAppliesSaid : Prop := hunkAppliesRow.holds Try.pinned (OpenSpec.ofChange hunkAppliesSpec)

/-- ITS FALSE NEIGHBOUR: 'it returns false'. Refute it at one input. -/
def hunkAppliesWrong : ChangeSpec := { name := "hunkApplies", fn := fun _ => fun
  | [d1, d2] => { results := [.lit (.bool false)], args := [d1, d2] }
  | _ => none }
def HunkAppliesWrongFalsely : Prop := hunkAppliesRow.holds Try.pinned (OpenSpec.ofChange hunkAppliesWrong)

/-- 'clerestorylaw03.HunkRight': WHATEVER THE INPUT: true; the input reads as it did. -/
def hunkRightSpec : ChangeSpec := { name := "hunkRight", fn := fun _ => fun
  | [d] => { results := [.lit (.bool true)], args := [d] }
  | _ => none }
def hunkRightRow : OpenClaim := { program := "ytddhdlfafaobhaa", sum := "500ee3efd18be04258e0d23cf0375fefd7a0b180f78e83ff77151dba795e4d11", func := "clerestory/clerestorylaw03.HunkRight", spec := "hunkRight", inPlace := ["internal/bytealg.IndexByteString"], unfollowed := true, recurses := true, apart := false }
def HunkRightSaid : Prop := hunkRightRow.holds Try.pinned (OpenSpec.ofChange hunkRightSpec)

/-- ITS FALSE NEIGHBOUR: 'it returns false'. Refute it at one input. -/
def hunkRightWrong : ChangeSpec := { name := "hunkRight", fn := fun _ => fun
  | [d] => { results := [.lit (.bool false)], args := [d] }
  | _ => none }
def HunkRightWrongFalsely : Prop := hunkRightRow.holds Try.pinned (OpenSpec.ofChange hunkRightWrong)

/-- 'clerestorylaw03.HunkNumbers': WHATEVER THE INPUT: true; the input reads as it did. -/
def hunkNumbersSpec : ChangeSpec := { name := "hunkNumbers", fn := fun _ => fun
  | [] => { results := [.lit (.bool true)], args := [] }
  | _ => none }
def hunkNumbersRow : OpenClaim := { program := "ytddhdlfafaobhaa", sum := "500ee3efd18be04258e0d23cf0375fefd7a0b180f78e83ff77151dba795e4d11", func := "clerestory/clerestorylaw03.HunkNumbers", spec := "hunkNumbers", inPlace := ["internal/bytealg.IndexByteString"], unfollowed := true, recurses := true, apart := false }
def HunkNumbersSaid : Prop := hunkNumbersRow.holds Try.pinned (OpenSpec.ofChange hunkNumbersSpec)

/-- ITS FALSE NEIGHBOUR: 'it returns false'. Refute it at one input. -/
def hunkNumbersWrong : ChangeSpec := { name := "hunkNumbers", fn := fun _ => fun
  | [] => { results := [.lit (.bool false)], args := [] }
  | _ => none }
def HunkNumbersWrongFalsely : Prop := hunkNumbersRow.holds Try.pinned (OpenSpec.ofChange hunkNumbersWrong)

/-- 'clerestorylaw03.HunkBack': WHATEVER THE INPUT: true; the input reads as it did. -/
def hunkBackSpec : ChangeSpec := { name := "hunkBack", fn := fun _ => fun
  | [d1, d2] => { results := [.lit (.bool true)], args := [d1, d2] }
  | _ => none }
def hunkBackRow : OpenClaim := { program := "ytddhdlfafaobhaa", sum := "500ee3efd18be04258e0d23cf0375fefd7a0b180f78e83ff77151dba795e4d11", func := "clerestory/clerestorylaw03.HunkBack", spec := "hunkBack", inPlace := ["internal/bytealg.IndexByteString"], unfollowed := true, recurses := true, apart := false }
def HunkBackSaid : Prop := hunkBackRow.holds Try.pinned (OpenSpec.ofChange hunkBackSpec)

/-- ITS FALSE NEIGHBOUR: 'it returns false'. Refute it at one input. -/
def hunkBackWrong : ChangeSpec := { name := "hunkBack", fn := fun _ => fun
  | [d1, d2] => { results := [.lit (.bool false)], args := [d1, d2] }
  | _ => none }
def HunkBackWrongFalsely : Prop := hunkBackRow.holds Try.pinned (OpenSpec.ofChange hunkBackWrong)

/-- 'clerestorylaw04.ShiftThree': WHATEVER THE INPUT: true; the input reads as it did. -/
def shiftThreeSpec : ChangeSpec := { name := "shiftThree", fn := fun _ => fun
  | [d1, d2, d3] => { results := [.lit (.bool true)], args := [d1, d2, d3] }
  | _ => none }
def shiftThreeRow : OpenClaim := { program := "ytddhdlfafaobhaa", sum := "500ee3efd18be04258e0d23cf0375fefd7a0b180f78e83ff77151dba795e4d11", func := "clerestory/clerestorylaw04.ShiftThree", spec := "shiftThree", inPlace := ["internal/bytealg.IndexByteString"], unfollowed := true, recurses := true, apart := false }
def ShiftThreeSaid : Prop := shiftThreeRow.holds Try.pinned (OpenSpec.ofChange shiftThreeSpec)

/-- ITS FALSE NEIGHBOUR: 'it returns false'. Refute it at one input. -/
def shiftThreeWrong : ChangeSpec := { name := "shiftThree", fn := fun _ => fun
  | [d1, d2, d3] => { results := [.lit (.bool false)], args := [d1, d2, d3] }
  | _ => none }
def ShiftThreeWrongFalsely : Prop := shiftThreeRow.holds Try.pinned (OpenSpec.ofChange shiftThreeWrong)

/-- 'clerestorylaw04.ShiftPast': WHATEVER THE INPUT: true; the input reads as it did. -/
def shiftPastSpec : ChangeSpec := { name := "shiftPast", fn := fun _ => fun
  | [d1, d2, d3] => { results := [.lit (.bool true)], args := [d1, d2, d3] }
  | _ => none }
def shiftPastRow : OpenClaim := { program := "ytddhdlfafaobhaa", sum := "500ee3efd18be04258e0d23cf0375fefd7a0b180f78e83ff77151dba795e4d11", func := "clerestory/clerestorylaw04.ShiftPast", spec := "shiftPast", inPlace := ["internal/bytealg.IndexByteString"], unfollowed := true, recurses := true, apart := false }
def ShiftPastSaid : Prop := shiftPastRow.holds Try.pinned (OpenSpec.ofChange shiftPastSpec)

/-- ITS FALSE NEIGHBOUR: 'it returns false'. Refute it at one input. -/
def shiftPastWrong : ChangeSpec := { name := "shiftPast", fn := fun _ => fun
  | [d1, d2, d3] => { results := [.lit (.bool false)], args := [d1, d2, d3] }
  | _ => none }
def ShiftPastWrongFalsely : Prop := shiftPastRow.holds Try.pinned (OpenSpec.ofChange shiftPastWrong)

/-- 'clerestorylaw03.HunkDiffs': WHATEVER THE INPUT: true; the input reads as it did. -/
def hunkDiffsSpec : ChangeSpec := { name := "hunkDiffs", fn := fun _ => fun
  | [d1, d2] => { results := [.lit (.bool true)], args := [d1, d2] }
  | _ => none }
def hunkDiffsRow : OpenClaim := { program := "ytddhdlfafaobhaa", sum := "500ee3efd18be04258e0d23cf0375fefd7a0b180f78e83ff77151dba795e4d11", func := "clerestory/clerestorylaw03.HunkDiffs", spec := "hunkDiffs", inPlace := ["internal/bytealg.IndexByteString"], unfollowed := true, recurses := true, apart := false }
def HunkDiffsSaid : Prop := hunkDiffsRow.holds Try.pinned (OpenSpec.ofChange hunkDiffsSpec)

/-- ITS FALSE NEIGHBOUR: 'it returns false'. Refute it at one input. -/
def hunkDiffsWrong : ChangeSpec := { name := "hunkDiffs", fn := fun _ => fun
  | [d1, d2] => { results := [.lit (.bool false)], args := [d1, d2] }
  | _ => none }
def HunkDiffsWrongFalsely : Prop := hunkDiffsRow.holds Try.pinned (OpenSpec.ofChange hunkDiffsWrong)

/- THE SECOND FORM. 'bulk': how many values and letters a reading holds, each counted each time it is reached (what is shared counts as often as it is met; a slice's spare places count too). A statement '..UptoSaid' is the law's where the arguments, and the package variables that the reading takes, are together of bulk at most 1048576: NARROWER than '..Said'. Prove '..Said' where nothing that the law and all that it calls make is longer than what came in: it says more and counts as full. Else prove '..UptoSaid'. A law counts once. -/
mutual
def uptoBulk {H : Type} : DataW H → Nat
  | .lit (.string bytes) => bytes.length + 1
  | .lit _ => 1
  | .nil => 1
  | .ptr d => uptoBulk d + 1
  | .slice elems spare => uptoBulkAll elems + uptoBulkAll spare + 1
  | .agg parts => uptoBulkAll parts + 1
  | .iface _ d => uptoBulk d + 1
  | .map entries => uptoBulkEntries entries + 1
  | .held _ => 1
def uptoBulkAll {H : Type} : List (DataW H) → Nat
  | [] => 0
  | d :: r => uptoBulk d + uptoBulkAll r
def uptoBulkEntries {H : Type} : List (Lit × DataW H) → Nat
  | [] => 0
  | x :: r => uptoBulkEntry x + uptoBulkEntries r
def uptoBulkEntry {H : Type} : Lit × DataW H → Nat
  | (.string bytes, d) => bytes.length + uptoBulk d + 1
  | (_, d) => uptoBulk d + 1
 end
def uptoSmall : (H : Type) → List (DataW H) → Bool := fun _ ds => decide (uptoBulkAll ds ≤ 1048576)
def OpenSpec.upto (s : _root_.Go.ChangeSpec) : _root_.Go.OpenSpec := { _root_.Go.OpenSpec.ofChange s with cond := some uptoSmall }

/-- 'clerestorylaw03.HunkApplies', WHERE WHAT IT READS IS OF BULK AT MOST 1048576: true; the input reads as it did. -/
def hunkAppliesUptoRow : OpenClaim := { program := "ytddhdlfafaobhaa", sum := "500ee3efd18be04258e0d23cf0375fefd7a0b180f78e83ff77151dba795e4d11", func := "clerestory/clerestorylaw03.HunkApplies", spec := "hunkApplies", inPlace := ["internal/bytealg.IndexByteString"], unfollowed := true, recurses := true, apart := false, narrowed := true }
def HunkAppliesUptoSaid : Prop := hunkAppliesUptoRow.holds Try.pinned (OpenSpec.upto hunkAppliesSpec)

/-- 'clerestorylaw03.HunkRight', WHERE WHAT IT READS IS OF BULK AT MOST 1048576: true; the input reads as it did. -/
def hunkRightUptoRow : OpenClaim := { program := "ytddhdlfafaobhaa", sum := "500ee3efd18be04258e0d23cf0375fefd7a0b180f78e83ff77151dba795e4d11", func := "clerestory/clerestorylaw03.HunkRight", spec := "hunkRight", inPlace := ["internal/bytealg.IndexByteString"], unfollowed := true, recurses := true, apart := false, narrowed := true }
def HunkRightUptoSaid : Prop := hunkRightUptoRow.holds Try.pinned (OpenSpec.upto hunkRightSpec)

/-- 'clerestorylaw03.HunkNumbers', WHERE WHAT IT READS IS OF BULK AT MOST 1048576: true; the input reads as it did. -/
def hunkNumbersUptoRow : OpenClaim := { program := "ytddhdlfafaobhaa", sum := "500ee3efd18be04258e0d23cf0375fefd7a0b180f78e83ff77151dba795e4d11", func := "clerestory/clerestorylaw03.HunkNumbers", spec := "hunkNumbers", inPlace := ["internal/bytealg.IndexByteString"], unfollowed := true, recurses := true, apart := false, narrowed := true }
def HunkNumbersUptoSaid : Prop := hunkNumbersUptoRow.holds Try.pinned (OpenSpec.upto hunkNumbersSpec)

/-- 'clerestorylaw03.HunkBack', WHERE WHAT IT READS IS OF BULK AT MOST 1048576: true; the input reads as it did. -/
def hunkBackUptoRow : OpenClaim := { program := "ytddhdlfafaobhaa", sum := "500ee3efd18be04258e0d23cf0375fefd7a0b180f78e83ff77151dba795e4d11", func := "clerestory/clerestorylaw03.HunkBack", spec := "hunkBack", inPlace := ["internal/bytealg.IndexByteString"], unfollowed := true, recurses := true, apart := false, narrowed := true }
def HunkBackUptoSaid : Prop := hunkBackUptoRow.holds Try.pinned (OpenSpec.upto hunkBackSpec)

/-- 'clerestorylaw04.ShiftThree', WHERE WHAT IT READS IS OF BULK AT MOST 1048576: true; the input reads as it did. -/
def shiftThreeUptoRow : OpenClaim := { program := "ytddhdlfafaobhaa", sum := "500ee3efd18be04258e0d23cf0375fefd7a0b180f78e83ff77151dba795e4d11", func := "clerestory/clerestorylaw04.ShiftThree", spec := "shiftThree", inPlace := ["internal/bytealg.IndexByteString"], unfollowed := true, recurses := true, apart := false, narrowed := true }
def ShiftThreeUptoSaid : Prop := shiftThreeUptoRow.holds Try.pinned (OpenSpec.upto shiftThreeSpec)

/-- 'clerestorylaw04.ShiftPast', WHERE WHAT IT READS IS OF BULK AT MOST 1048576: true; the input reads as it did. -/
def shiftPastUptoRow : OpenClaim := { program := "ytddhdlfafaobhaa", sum := "500ee3efd18be04258e0d23cf0375fefd7a0b180f78e83ff77151dba795e4d11", func := "clerestory/clerestorylaw04.ShiftPast", spec := "shiftPast", inPlace := ["internal/bytealg.IndexByteString"], unfollowed := true, recurses := true, apart := false, narrowed := true }
def ShiftPastUptoSaid : Prop := shiftPastUptoRow.holds Try.pinned (OpenSpec.upto shiftPastSpec)

/-- 'clerestorylaw03.HunkDiffs', WHERE WHAT IT READS IS OF BULK AT MOST 1048576: true; the input reads as it did. -/
def hunkDiffsUptoRow : OpenClaim := { program := "ytddhdlfafaobhaa", sum := "500ee3efd18be04258e0d23cf0375fefd7a0b180f78e83ff77151dba795e4d11", func := "clerestory/clerestorylaw03.HunkDiffs", spec := "hunkDiffs", inPlace := ["internal/bytealg.IndexByteString"], unfollowed := true, recurses := true, apart := false, narrowed := true }
def HunkDiffsUptoSaid : Prop := hunkDiffsUptoRow.holds Try.pinned (OpenSpec.upto hunkDiffsSpec)

end Rows
end Go.Proofs.Ytddhdlfafaobhaa
