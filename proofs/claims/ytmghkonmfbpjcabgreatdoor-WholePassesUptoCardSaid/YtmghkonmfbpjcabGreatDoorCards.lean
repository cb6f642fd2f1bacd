/-
  DERIVED. GIVEN WITH THE SEED: THE CARDS: each row of YtmghkonmfbpjcabGreatDoorRows.lean that lists a variable, with what it lists TIED to the program's text (the seventh form; the later family's looks); each row that meets fmt, with fmt's text TOLD by the authors' own Lean function (tested against real Go, not proved from fmt's source: count such statements apart). THE CARD IS WHAT COUNTS. Prove the row's statement (the work); the ties are given (YtmghkonmfbpjcabGreatDoorTie.lean); close each card by the builder's one call (the guide's Derived/Test/ToyasCard.lean, 'card_holds'). Laid BY PROGRAM, IN A SANDBOX (cutbox-door.mjs). By AI agents, Wed Nov 11 2026. No macro, syntax, notation, axiom, sorry.
-/
import Derived.Test.YtmghkonmfbpjcabGreatDoorRows
import GoSem.ClaimSeven
namespace Go.Proofs.YtmghkonmfbpjcabGreatDoor
namespace Rows

/-- THE TIED CARD OF 'hoistwaylaw.WholePasses'. -/
def wholePassesCard : Claim7 := { stood := { row := wholePassesRow, standIns := [], harness := (true, "46737faa96a3ede8f96c5363ad1344fca2edf1b7a8e3dccfc5e6d1f65799c6bc"), looks := true }, kinds := [], alts := [], laidByText := true, laidKinds := [.data, .data, .data, .data, .sentinel, .sentinel, .pinned], laidTests := true, laidLooks := .later }
def WholePassesCardSaid : Prop := Claim7.holds Tryz.pinned (.plain (OpenSpec.ofChange wholePassesSpec)) wholePassesCard

/-- THE SECOND FORM's CARD OF 'hoistwaylaw.WholePasses'. -/
def wholePassesUptoCard : Claim7 := { stood := { row := wholePassesUptoRow, standIns := [], harness := (true, "46737faa96a3ede8f96c5363ad1344fca2edf1b7a8e3dccfc5e6d1f65799c6bc"), looks := true }, kinds := [], alts := [], laidByText := true, laidKinds := [.data, .data, .data, .data, .sentinel, .sentinel, .pinned], laidTests := true, laidLooks := .later }
def WholePassesUptoCardSaid : Prop := Claim7.holds Tryz.pinned (.plain (OpenSpec.upto wholePassesSpec)) wholePassesUptoCard
end Rows
end Go.Proofs.YtmghkonmfbpjcabGreatDoor
