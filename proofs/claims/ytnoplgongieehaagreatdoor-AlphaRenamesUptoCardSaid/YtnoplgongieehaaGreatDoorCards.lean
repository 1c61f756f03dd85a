/-
  DERIVED. GIVEN WITH THE SEED: THE CARDS: each row of YtnoplgongieehaaGreatDoorRows.lean that lists a variable, with what it lists TIED to the program's text (the seventh form; the later family's looks); each row that meets fmt, with fmt's text TOLD by the authors' own Lean function (tested against real Go, not proved from fmt's source: count such statements apart). THE CARD IS WHAT COUNTS. Prove the row's statement (the work); the ties are given (YtnoplgongieehaaGreatDoorTie.lean); close each card by the builder's one call (the guide's Derived/Test/ToyasCard.lean, 'card_holds'). Laid BY PROGRAM, IN A SANDBOX (cutbox-door.mjs). By AI agents, Wed Nov 11 2026. No macro, syntax, notation, axiom, sorry.
-/
import Derived.Test.YtnoplgongieehaaGreatDoorRows
import GoSem.ClaimSeven
namespace Go.Proofs.YtnoplgongieehaaGreatDoor
namespace Rows

/-- THE TIED CARD OF 'clerestorylaw10.AlphaSame'. -/
def alphaSameCard : Claim7 := { stood := { row := alphaSameRow, standIns := [], harness := (true, "bc1b8575fafc86f2f0190100a98c1e370a7e8f813e95446e74616edda011b1c8"), looks := true }, kinds := [], alts := [], laidByText := true, laidKinds := [.listed, .data], laidTests := true, laidLooks := .later }
def AlphaSameCardSaid : Prop := Claim7.holds Tryz.pinned (.plain (OpenSpec.ofChange alphaSameSpec)) alphaSameCard

/-- THE TIED CARD OF 'clerestorylaw10.AlphaRenames'. -/
def alphaRenamesCard : Claim7 := { stood := { row := alphaRenamesRow, standIns := [], harness := (true, "bc1b8575fafc86f2f0190100a98c1e370a7e8f813e95446e74616edda011b1c8"), looks := true }, kinds := [], alts := [], laidByText := true, laidKinds := [.listed, .data], laidTests := true, laidLooks := .later }
def AlphaRenamesCardSaid : Prop := Claim7.holds Tryz.pinned (.plain (OpenSpec.ofChange alphaRenamesSpec)) alphaRenamesCard

/-- THE TIED CARD OF 'clerestorylaw10.AlphaNumbers'. -/
def alphaNumbersCard : Claim7 := { stood := { row := alphaNumbersRow, standIns := [], harness := (true, "bc1b8575fafc86f2f0190100a98c1e370a7e8f813e95446e74616edda011b1c8"), looks := true }, kinds := [], alts := [], laidByText := true, laidKinds := [.listed, .data], laidTests := true, laidLooks := .later }
def AlphaNumbersCardSaid : Prop := Claim7.holds Tryz.pinned (.plain (OpenSpec.ofChange alphaNumbersSpec)) alphaNumbersCard

/-- THE TIED CARD OF 'clerestorylaw10.AlphaBack'. -/
def alphaBackCard : Claim7 := { stood := { row := alphaBackRow, standIns := [], harness := (true, "bc1b8575fafc86f2f0190100a98c1e370a7e8f813e95446e74616edda011b1c8"), looks := true }, kinds := [], alts := [], laidByText := true, laidKinds := [.listed, .data], laidTests := true, laidLooks := .later }
def AlphaBackCardSaid : Prop := Claim7.holds Tryz.pinned (.plain (OpenSpec.ofChange alphaBackSpec)) alphaBackCard

/-- THE SECOND FORM's CARD OF 'clerestorylaw10.AlphaSame'. -/
def alphaSameUptoCard : Claim7 := { stood := { row := alphaSameUptoRow, standIns := [], harness := (true, "bc1b8575fafc86f2f0190100a98c1e370a7e8f813e95446e74616edda011b1c8"), looks := true }, kinds := [], alts := [], laidByText := true, laidKinds := [.listed, .data], laidTests := true, laidLooks := .later }
def AlphaSameUptoCardSaid : Prop := Claim7.holds Tryz.pinned (.plain (OpenSpec.upto alphaSameSpec)) alphaSameUptoCard

/-- THE SECOND FORM's CARD OF 'clerestorylaw10.AlphaRenames'. -/
def alphaRenamesUptoCard : Claim7 := { stood := { row := alphaRenamesUptoRow, standIns := [], harness := (true, "bc1b8575fafc86f2f0190100a98c1e370a7e8f813e95446e74616edda011b1c8"), looks := true }, kinds := [], alts := [], laidByText := true, laidKinds := [.listed, .data], laidTests := true, laidLooks := .later }
def AlphaRenamesUptoCardSaid : Prop := Claim7.holds Tryz.pinned (.plain (OpenSpec.upto alphaRenamesSpec)) alphaRenamesUptoCard

/-- THE SECOND FORM's CARD OF 'clerestorylaw10.AlphaNumbers'. -/
def alphaNumbersUptoCard : Claim7 := { stood := { row := alphaNumbersUptoRow, standIns := [], harness := (true, "bc1b8575fafc86f2f0190100a98c1e370a7e8f813e95446e74616edda011b1c8"), looks := true }, kinds := [], alts := [], laidByText := true, laidKinds := [.listed, .data], laidTests := true, laidLooks := .later }
def AlphaNumbersUptoCardSaid : Prop := Claim7.holds Tryz.pinned (.plain (OpenSpec.upto alphaNumbersSpec)) alphaNumbersUptoCard

/-- THE SECOND FORM's CARD OF 'clerestorylaw10.AlphaBack'. -/
def alphaBackUptoCard : Claim7 := { stood := { row := alphaBackUptoRow, standIns := [], harness := (true, "bc1b8575fafc86f2f0190100a98c1e370a7e8f813e95446e74616edda011b1c8"), looks := true }, kinds := [], alts := [], laidByText := true, laidKinds := [.listed, .data], laidTests := true, laidLooks := .later }
def AlphaBackUptoCardSaid : Prop := Claim7.holds Tryz.pinned (.plain (OpenSpec.upto alphaBackSpec)) alphaBackUptoCard
end Rows
end Go.Proofs.YtnoplgongieehaaGreatDoor
