/-
  DERIVED. GIVEN WITH THE SEED: THE CARDS: each row of YtmghkonmfbpjcaaDoorRows.lean that lists a variable, with what it lists TIED to the program's text (the seventh form; the later family's looks); each row that meets fmt, with fmt's text TOLD by the authors' own Lean function (tested against real Go, not proved from fmt's source: count such statements apart). THE CARD IS WHAT COUNTS. Prove the row's statement (the work); the ties are given (YtmghkonmfbpjcaaDoorTie.lean); close each card by the builder's one call (the guide's Derived/Test/ToyasCard.lean, 'card_holds'). Laid BY PROGRAM, IN A SANDBOX (cutbox-door.mjs). By AI agents, Wed Nov 11 2026. No macro, syntax, notation, axiom, sorry.
-/
import Derived.Test.YtmghkonmfbpjcaaDoorRows
import GoSem.ClaimSeven
namespace Go.Proofs.YtmghkonmfbpjcaaDoor
namespace Rows

/-- THE TIED CARD OF 'hoistwaylaw.LiveTurns'. -/
def liveTurnsCard : Claim7 := { stood := { row := liveTurnsRow, standIns := [], harness := (true, "91beb682a27acdc7506395aaf28948dffa2e9233606c9a0049c288d504e73b32"), looks := false }, kinds := [], alts := [], laidByText := true, laidKinds := [.data], laidTests := true, laidLooks := .later }
def LiveTurnsCardSaid : Prop := Claim7.holds Tryd.pinned (.plain (OpenSpec.ofChange liveTurnsSpec)) liveTurnsCard

/-- THE TIED CARD OF 'hoistwaylaw.LiveLess'. -/
def liveLessCard : Claim7 := { stood := { row := liveLessRow, standIns := [], harness := (true, "91beb682a27acdc7506395aaf28948dffa2e9233606c9a0049c288d504e73b32"), looks := false }, kinds := [], alts := [], laidByText := true, laidKinds := [.data], laidTests := true, laidLooks := .later }
def LiveLessCardSaid : Prop := Claim7.holds Tryd.pinned (.plain (OpenSpec.ofChange liveLessSpec)) liveLessCard

/-- THE SECOND FORM's CARD OF 'hoistwaylaw.LiveTurns'. -/
def liveTurnsUptoCard : Claim7 := { stood := { row := liveTurnsUptoRow, standIns := [], harness := (true, "91beb682a27acdc7506395aaf28948dffa2e9233606c9a0049c288d504e73b32"), looks := false }, kinds := [], alts := [], laidByText := true, laidKinds := [.data], laidTests := true, laidLooks := .later }
def LiveTurnsUptoCardSaid : Prop := Claim7.holds Tryd.pinned (.plain (OpenSpec.upto liveTurnsSpec)) liveTurnsUptoCard

/-- THE SECOND FORM's CARD OF 'hoistwaylaw.LiveLess'. -/
def liveLessUptoCard : Claim7 := { stood := { row := liveLessUptoRow, standIns := [], harness := (true, "91beb682a27acdc7506395aaf28948dffa2e9233606c9a0049c288d504e73b32"), looks := false }, kinds := [], alts := [], laidByText := true, laidKinds := [.data], laidTests := true, laidLooks := .later }
def LiveLessUptoCardSaid : Prop := Claim7.holds Tryd.pinned (.plain (OpenSpec.upto liveLessSpec)) liveLessUptoCard
end Rows
end Go.Proofs.YtmghkonmfbpjcaaDoor
