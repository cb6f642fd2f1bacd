/-
  DERIVED. GIVEN WITH THE SEED: THE CARDS: each row of YtmghkonmfbpjcaaGreatDoorRows.lean that lists a variable, with what it lists TIED to the program's text (the seventh form; the later family's looks); each row that meets fmt, with fmt's text TOLD by the authors' own Lean function (tested against real Go, not proved from fmt's source: count such statements apart). THE CARD IS WHAT COUNTS. Prove the row's statement (the work); the ties are given (YtmghkonmfbpjcaaGreatDoorTie.lean); close each card by the builder's one call (the guide's Derived/Test/ToyasCard.lean, 'card_holds'). Laid BY PROGRAM, IN A SANDBOX (cutbox-door.mjs). By AI agents, Wed Nov 11 2026. No macro, syntax, notation, axiom, sorry.
-/
import Derived.Test.YtmghkonmfbpjcaaGreatDoorRows
import GoSem.ClaimSeven
namespace Go.Proofs.YtmghkonmfbpjcaaGreatDoor
namespace Rows

/-- THE TIED CARD OF 'hoistwaylaw.WholeSame'. -/
def wholeSameCard : Claim7 := { stood := { row := wholeSameRow, standIns := [], harness := (true, "7e01e889d8495d33a119a4dae55b7a1e00a063c7d953fdc49634de7ff7eb8926"), looks := true }, kinds := [], alts := [], laidByText := true, laidKinds := [.data, .data, .data, .data, .sentinel, .sentinel, .pinned], laidTests := true, laidLooks := .later }
def WholeSameCardSaid : Prop := Claim7.holds Tryz.pinned (.plain (OpenSpec.ofChange wholeSameSpec)) wholeSameCard

/-- THE TIED CARD OF 'hoistwaylaw.RestProgs'. -/
def restProgsCard : Claim7 := { stood := { row := restProgsRow, standIns := [], harness := (true, "7e01e889d8495d33a119a4dae55b7a1e00a063c7d953fdc49634de7ff7eb8926"), looks := true }, kinds := [], alts := [], laidByText := true, laidKinds := [.data, .data, .data, .data, .sentinel, .sentinel, .pinned], laidTests := true, laidLooks := .later }
def RestProgsCardSaid : Prop := Claim7.holds Tryz.pinned (.plain (OpenSpec.ofChange restProgsSpec)) restProgsCard

/-- THE SECOND FORM's CARD OF 'hoistwaylaw.WholeSame'. -/
def wholeSameUptoCard : Claim7 := { stood := { row := wholeSameUptoRow, standIns := [], harness := (true, "7e01e889d8495d33a119a4dae55b7a1e00a063c7d953fdc49634de7ff7eb8926"), looks := true }, kinds := [], alts := [], laidByText := true, laidKinds := [.data, .data, .data, .data, .sentinel, .sentinel, .pinned], laidTests := true, laidLooks := .later }
def WholeSameUptoCardSaid : Prop := Claim7.holds Tryz.pinned (.plain (OpenSpec.upto wholeSameSpec)) wholeSameUptoCard

/-- THE SECOND FORM's CARD OF 'hoistwaylaw.RestProgs'. -/
def restProgsUptoCard : Claim7 := { stood := { row := restProgsUptoRow, standIns := [], harness := (true, "7e01e889d8495d33a119a4dae55b7a1e00a063c7d953fdc49634de7ff7eb8926"), looks := true }, kinds := [], alts := [], laidByText := true, laidKinds := [.data, .data, .data, .data, .sentinel, .sentinel, .pinned], laidTests := true, laidLooks := .later }
def RestProgsUptoCardSaid : Prop := Claim7.holds Tryz.pinned (.plain (OpenSpec.upto restProgsSpec)) restProgsUptoCard
end Rows
end Go.Proofs.YtmghkonmfbpjcaaGreatDoor
