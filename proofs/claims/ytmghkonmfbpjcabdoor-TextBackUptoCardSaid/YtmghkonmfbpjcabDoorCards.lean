/-
  DERIVED. GIVEN WITH THE SEED: THE CARDS: each row of YtmghkonmfbpjcabDoorRows.lean that lists a variable, with what it lists TIED to the program's text (the seventh form; the later family's looks); each row that meets fmt, with fmt's text TOLD by the authors' own Lean function (tested against real Go, not proved from fmt's source: count such statements apart). THE CARD IS WHAT COUNTS. Prove the row's statement (the work); the ties are given (YtmghkonmfbpjcabDoorTie.lean); close each card by the builder's one call (the guide's Derived/Test/ToyasCard.lean, 'card_holds'). Laid BY PROGRAM, IN A SANDBOX (cutbox-door.mjs). By AI agents, Wed Nov 11 2026. No macro, syntax, notation, axiom, sorry.
-/
import Derived.Test.YtmghkonmfbpjcabDoorRows
import GoSem.ClaimSeven
namespace Go.Proofs.YtmghkonmfbpjcabDoor
namespace Rows

/-- THE TIED CARD OF 'hoistwaylaw.LiveSame'. -/
def liveSameCard : Claim7 := { stood := { row := liveSameRow, standIns := [], harness := (true, "939892d2980837fde98244c7d104489fb0b0cfa41792c02b6593dee691b7c879"), looks := true }, kinds := [], alts := [], laidByText := true, laidKinds := [.data], laidTests := true, laidLooks := .later }
def LiveSameCardSaid : Prop := Claim7.holds Tryd.pinned (.plain (OpenSpec.ofChange liveSameSpec)) liveSameCard

/-- THE TIED CARD OF 'hoistwaylaw.TextShows'. -/
def textShowsCard : Claim7 := { stood := { row := textShowsRow, standIns := [], harness := (true, "939892d2980837fde98244c7d104489fb0b0cfa41792c02b6593dee691b7c879"), looks := true }, kinds := [], alts := [], laidByText := true, laidKinds := [.data, .data, .data, .data, .sentinel, .sentinel, .pinned], laidTests := true, laidLooks := .later }
def TextShowsCardSaid : Prop := Claim7.holds Tryd.pinned (.plain (OpenSpec.ofChange textShowsSpec)) textShowsCard

/-- THE TIED CARD OF 'hoistwaylaw.TextBack'. -/
def textBackCard : Claim7 := { stood := { row := textBackRow, standIns := [], harness := (true, "939892d2980837fde98244c7d104489fb0b0cfa41792c02b6593dee691b7c879"), looks := true }, kinds := [], alts := [], laidByText := true, laidKinds := [.data, .data, .data, .data, .sentinel, .sentinel, .pinned], laidTests := true, laidLooks := .later }
def TextBackCardSaid : Prop := Claim7.holds Tryd.pinned (.plain (OpenSpec.ofChange textBackSpec)) textBackCard

/-- THE SECOND FORM's CARD OF 'hoistwaylaw.LiveSame'. -/
def liveSameUptoCard : Claim7 := { stood := { row := liveSameUptoRow, standIns := [], harness := (true, "939892d2980837fde98244c7d104489fb0b0cfa41792c02b6593dee691b7c879"), looks := true }, kinds := [], alts := [], laidByText := true, laidKinds := [.data], laidTests := true, laidLooks := .later }
def LiveSameUptoCardSaid : Prop := Claim7.holds Tryd.pinned (.plain (OpenSpec.upto liveSameSpec)) liveSameUptoCard

/-- THE SECOND FORM's CARD OF 'hoistwaylaw.TextShows'. -/
def textShowsUptoCard : Claim7 := { stood := { row := textShowsUptoRow, standIns := [], harness := (true, "939892d2980837fde98244c7d104489fb0b0cfa41792c02b6593dee691b7c879"), looks := true }, kinds := [], alts := [], laidByText := true, laidKinds := [.data, .data, .data, .data, .sentinel, .sentinel, .pinned], laidTests := true, laidLooks := .later }
def TextShowsUptoCardSaid : Prop := Claim7.holds Tryd.pinned (.plain (OpenSpec.upto textShowsSpec)) textShowsUptoCard

/-- THE SECOND FORM's CARD OF 'hoistwaylaw.TextBack'. -/
def textBackUptoCard : Claim7 := { stood := { row := textBackUptoRow, standIns := [], harness := (true, "939892d2980837fde98244c7d104489fb0b0cfa41792c02b6593dee691b7c879"), looks := true }, kinds := [], alts := [], laidByText := true, laidKinds := [.data, .data, .data, .data, .sentinel, .sentinel, .pinned], laidTests := true, laidLooks := .later }
def TextBackUptoCardSaid : Prop := Claim7.holds Tryd.pinned (.plain (OpenSpec.upto textBackSpec)) textBackUptoCard
end Rows
end Go.Proofs.YtmghkonmfbpjcabDoor
