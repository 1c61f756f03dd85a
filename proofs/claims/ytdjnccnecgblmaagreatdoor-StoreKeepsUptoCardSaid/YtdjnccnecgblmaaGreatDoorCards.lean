/-
  DERIVED. GIVEN WITH THE SEED: THE CARDS: each row of YtdjnccnecgblmaaGreatDoorRows.lean that lists a variable, with what it lists TIED to the program's text (the seventh form; the later family's looks); each row that meets fmt, with fmt's text TOLD by the authors' own Lean function (tested against real Go, not proved from fmt's source: count such statements apart). THE CARD IS WHAT COUNTS. Prove the row's statement (the work); the ties are given (YtdjnccnecgblmaaGreatDoorTie.lean); close each card by the builder's one call (the guide's Derived/Test/ToyasCard.lean, 'card_holds'). Laid BY PROGRAM, IN A SANDBOX (cutbox-door.mjs). By AI agents, Wed Nov 11 2026. No macro, syntax, notation, axiom, sorry.
-/
import Derived.Test.YtdjnccnecgblmaaGreatDoorRows
import GoSem.ClaimSeven
namespace Go.Proofs.YtdjnccnecgblmaaGreatDoor
namespace Rows

/-- THE TIED CARD OF 'clerestorylaw25.StoreLives'. -/
def storeLivesCard : Claim7 := { stood := { row := storeLivesRow, standIns := [], harness := (true, "6973818371a1b263581e531ab2882a3eab463cbedbec78a28dfe219494be75b1"), looks := true }, kinds := [], alts := [], laidByText := true, laidKinds := [.listed, .data], laidTests := true, laidLooks := .later }
def StoreLivesCardSaid : Prop := Claim7.holds Tryz.pinned (.plain (OpenSpec.ofChange storeLivesSpec)) storeLivesCard

/-- THE TIED CARD OF 'clerestorylaw25.StoreNumbers'. -/
def storeNumbersCard : Claim7 := { stood := { row := storeNumbersRow, standIns := [], harness := (true, "6973818371a1b263581e531ab2882a3eab463cbedbec78a28dfe219494be75b1"), looks := true }, kinds := [], alts := [], laidByText := true, laidKinds := [.listed, .data], laidTests := true, laidLooks := .later }
def StoreNumbersCardSaid : Prop := Claim7.holds Tryz.pinned (.plain (OpenSpec.ofChange storeNumbersSpec)) storeNumbersCard

/-- THE TIED CARD OF 'clerestorylaw25.StoreKeeps'. -/
def storeKeepsCard : Claim7 := { stood := { row := storeKeepsRow, standIns := [], harness := (true, "6973818371a1b263581e531ab2882a3eab463cbedbec78a28dfe219494be75b1"), looks := true }, kinds := [], alts := [], laidByText := true, laidKinds := [.listed, .data], laidTests := true, laidLooks := .later }
def StoreKeepsCardSaid : Prop := Claim7.holds Tryz.pinned (.plain (OpenSpec.ofChange storeKeepsSpec)) storeKeepsCard

/-- THE SECOND FORM's CARD OF 'clerestorylaw25.StoreLives'. -/
def storeLivesUptoCard : Claim7 := { stood := { row := storeLivesUptoRow, standIns := [], harness := (true, "6973818371a1b263581e531ab2882a3eab463cbedbec78a28dfe219494be75b1"), looks := true }, kinds := [], alts := [], laidByText := true, laidKinds := [.listed, .data], laidTests := true, laidLooks := .later }
def StoreLivesUptoCardSaid : Prop := Claim7.holds Tryz.pinned (.plain (OpenSpec.upto storeLivesSpec)) storeLivesUptoCard

/-- THE SECOND FORM's CARD OF 'clerestorylaw25.StoreNumbers'. -/
def storeNumbersUptoCard : Claim7 := { stood := { row := storeNumbersUptoRow, standIns := [], harness := (true, "6973818371a1b263581e531ab2882a3eab463cbedbec78a28dfe219494be75b1"), looks := true }, kinds := [], alts := [], laidByText := true, laidKinds := [.listed, .data], laidTests := true, laidLooks := .later }
def StoreNumbersUptoCardSaid : Prop := Claim7.holds Tryz.pinned (.plain (OpenSpec.upto storeNumbersSpec)) storeNumbersUptoCard

/-- THE SECOND FORM's CARD OF 'clerestorylaw25.StoreKeeps'. -/
def storeKeepsUptoCard : Claim7 := { stood := { row := storeKeepsUptoRow, standIns := [], harness := (true, "6973818371a1b263581e531ab2882a3eab463cbedbec78a28dfe219494be75b1"), looks := true }, kinds := [], alts := [], laidByText := true, laidKinds := [.listed, .data], laidTests := true, laidLooks := .later }
def StoreKeepsUptoCardSaid : Prop := Claim7.holds Tryz.pinned (.plain (OpenSpec.upto storeKeepsSpec)) storeKeepsUptoCard
end Rows
end Go.Proofs.YtdjnccnecgblmaaGreatDoor
