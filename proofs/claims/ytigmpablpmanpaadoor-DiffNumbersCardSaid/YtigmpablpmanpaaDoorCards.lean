/-
  DERIVED. GIVEN WITH THE SEED: THE CARDS: each row of YtigmpablpmanpaaDoorRows.lean that lists a variable, with what it lists TIED to the program's text (the seventh form; the later family's looks); each row that meets fmt, with fmt's text TOLD by the authors' own Lean function (tested against real Go, not proved from fmt's source: count such statements apart). THE CARD IS WHAT COUNTS. Prove the row's statement (the work); the ties are given (YtigmpablpmanpaaDoorTie.lean); close each card by the builder's one call (the guide's Derived/Test/ToyasCard.lean, 'card_holds'). Laid BY PROGRAM, IN A SANDBOX (cutbox-door.mjs). By AI agents, Wed Nov 11 2026. No macro, syntax, notation, axiom, sorry.
-/
import Derived.Test.YtigmpablpmanpaaDoorRows
import GoSem.ClaimSeven
namespace Go.Proofs.YtigmpablpmanpaaDoor
namespace Rows

/-- THE TIED CARD OF 'clerestorylaw02.DiffTells'. -/
def diffTellsCard : Claim7 := { stood := { row := diffTellsRow, standIns := [], harness := (true, "8400248568546e029fc8179381ef7ccc4792aeab64d681fcb474d738e1e63558"), looks := false }, kinds := [], alts := [], laidByText := true, laidKinds := [.data, .pinned], laidTests := true, laidLooks := .later }
def DiffTellsCardSaid : Prop := Claim7.holds Tryd.pinned (.plain (OpenSpec.ofChange diffTellsSpec)) diffTellsCard

/-- THE TIED CARD OF 'clerestorylaw02.DiffNumbers'. -/
def diffNumbersCard : Claim7 := { stood := { row := diffNumbersRow, standIns := [], harness := (true, "8400248568546e029fc8179381ef7ccc4792aeab64d681fcb474d738e1e63558"), looks := false }, kinds := [], alts := [], laidByText := true, laidKinds := [.data, .pinned], laidTests := true, laidLooks := .later }
def DiffNumbersCardSaid : Prop := Claim7.holds Tryd.pinned (.plain (OpenSpec.ofChange diffNumbersSpec)) diffNumbersCard

/-- THE TIED CARD OF 'clerestorylaw02.DiffMakes'. -/
def diffMakesCard : Claim7 := { stood := { row := diffMakesRow, standIns := [], harness := (true, "8400248568546e029fc8179381ef7ccc4792aeab64d681fcb474d738e1e63558"), looks := false }, kinds := [], alts := [], laidByText := true, laidKinds := [.data, .pinned], laidTests := true, laidLooks := .later }
def DiffMakesCardSaid : Prop := Claim7.holds Tryd.pinned (.plain (OpenSpec.ofChange diffMakesSpec)) diffMakesCard

/-- THE SECOND FORM's CARD OF 'clerestorylaw02.DiffTells'. -/
def diffTellsUptoCard : Claim7 := { stood := { row := diffTellsUptoRow, standIns := [], harness := (true, "8400248568546e029fc8179381ef7ccc4792aeab64d681fcb474d738e1e63558"), looks := false }, kinds := [], alts := [], laidByText := true, laidKinds := [.data, .pinned], laidTests := true, laidLooks := .later }
def DiffTellsUptoCardSaid : Prop := Claim7.holds Tryd.pinned (.plain (OpenSpec.upto diffTellsSpec)) diffTellsUptoCard

/-- THE SECOND FORM's CARD OF 'clerestorylaw02.DiffNumbers'. -/
def diffNumbersUptoCard : Claim7 := { stood := { row := diffNumbersUptoRow, standIns := [], harness := (true, "8400248568546e029fc8179381ef7ccc4792aeab64d681fcb474d738e1e63558"), looks := false }, kinds := [], alts := [], laidByText := true, laidKinds := [.data, .pinned], laidTests := true, laidLooks := .later }
def DiffNumbersUptoCardSaid : Prop := Claim7.holds Tryd.pinned (.plain (OpenSpec.upto diffNumbersSpec)) diffNumbersUptoCard

/-- THE SECOND FORM's CARD OF 'clerestorylaw02.DiffMakes'. -/
def diffMakesUptoCard : Claim7 := { stood := { row := diffMakesUptoRow, standIns := [], harness := (true, "8400248568546e029fc8179381ef7ccc4792aeab64d681fcb474d738e1e63558"), looks := false }, kinds := [], alts := [], laidByText := true, laidKinds := [.data, .pinned], laidTests := true, laidLooks := .later }
def DiffMakesUptoCardSaid : Prop := Claim7.holds Tryd.pinned (.plain (OpenSpec.upto diffMakesSpec)) diffMakesUptoCard
end Rows
end Go.Proofs.YtigmpablpmanpaaDoor
