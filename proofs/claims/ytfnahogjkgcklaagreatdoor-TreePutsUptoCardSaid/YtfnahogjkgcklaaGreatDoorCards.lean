/-
  DERIVED. GIVEN WITH THE SEED: THE CARDS: each row of YtfnahogjkgcklaaGreatDoorRows.lean that lists a variable, with what it lists TIED to the program's text (the seventh form; the later family's looks); each row that meets fmt, with fmt's text TOLD by the authors' own Lean function (tested against real Go, not proved from fmt's source: count such statements apart). THE CARD IS WHAT COUNTS. Prove the row's statement (the work); the ties are given (YtfnahogjkgcklaaGreatDoorTie.lean); close each card by the builder's one call (the guide's Derived/Test/ToyasCard.lean, 'card_holds'). Laid BY PROGRAM, IN A SANDBOX (cutbox-door.mjs). By AI agents, Wed Nov 11 2026. No macro, syntax, notation, axiom, sorry.
-/
import Derived.Test.YtfnahogjkgcklaaGreatDoorRows
import GoSem.ClaimSeven
namespace Go.Proofs.YtfnahogjkgcklaaGreatDoor
namespace Rows

/-- THE TIED CARD OF 'clerestorylaw06.TreePuts'. -/
def treePutsCard : Claim7 := { stood := { row := treePutsRow, standIns := [], harness := (true, "f1b626ce193235b896e8923a0f2ea65f879e55c56613e3d976e7546bd9ffcbc8"), looks := false }, kinds := [], alts := [], laidByText := true, laidKinds := [.listed, .data], laidTests := true, laidLooks := .later }
def TreePutsCardSaid : Prop := Claim7.holds Tryz.pinned (.plain (OpenSpec.ofChange treePutsSpec)) treePutsCard

/-- THE SECOND FORM's CARD OF 'clerestorylaw06.TreePuts'. -/
def treePutsUptoCard : Claim7 := { stood := { row := treePutsUptoRow, standIns := [], harness := (true, "f1b626ce193235b896e8923a0f2ea65f879e55c56613e3d976e7546bd9ffcbc8"), looks := false }, kinds := [], alts := [], laidByText := true, laidKinds := [.listed, .data], laidTests := true, laidLooks := .later }
def TreePutsUptoCardSaid : Prop := Claim7.holds Tryz.pinned (.plain (OpenSpec.upto treePutsSpec)) treePutsUptoCard
end Rows
end Go.Proofs.YtfnahogjkgcklaaGreatDoor
