/-
  No cell of these rows narrows 'for every input' (looked for: loops, veiled, ifaces, maps, wideKeys, modest, calm, conditions, laid).
  DERIVED. THE GIVEN ROWS OF THIS SEAT. 8 by the template 'for every input the law returns true; each argument reads behind the call as it read before'; 0 by the template 'total and deterministic' (their statements: YtmghkonmfbpjcaaTotals.lean).
  GIVEN WITH THE SEED: the statements are not yours to turn. If you find one false, say at which input.
  Laid BY PROGRAM, IN A SANDBOX (cutbox-rows.mjs): the forced cells as the released guide's own fill.sh prints them over the translation 87fe7c78d8070b11… (all of the seat's roots in one cut). By AI agents, Wed Nov 11 2026. No macro, syntax, notation, axiom, sorry.
-/
import Derived.Test.YtmghkonmfbpjcaaChecked
import GoSem.Claim
import GoSem.ClaimJoined
import GoSem.ClaimMapViews
import Derived.JoinedTies
import Derived.KernelRfl
namespace Go.Proofs.Ytmghkonmfbpjcaa
/- THE CELL 'sum', in the pinned program and in every row, IS THE sha256 OF THE DUMP (.gsa) THAT YtmghkonmfbpjcaaProg.lean LOADS. Nothing in Lean hashes anything: it is a label: what it is worth is what the hold of that sum in a sandbox is worth. -/
noncomputable def Try.pinned : Pinned := { name := "ytmghkonmfbpjcaa", sum := "87fe7c78d8070b11f4e22f90961751e9ff7df27e78a07432c51d66b65674fcf1", checked := Try.checked }
namespace Rows
def none {H : Type} : Left H := { results := [], args := [] }

/-- 'hoistwaylaw.FlowSolves': WHATEVER THE INPUT: true; the input reads as it did. -/
def flowSolvesSpec : ChangeSpec := { name := "flowSolves", fn := fun _ => fun
  | [d1, d2, d3] => { results := [.lit (.bool true)], args := [d1, d2, d3] }
  | _ => none }
def flowSolvesRow : OpenClaim := { program := "ytmghkonmfbpjcaa", sum := "87fe7c78d8070b11f4e22f90961751e9ff7df27e78a07432c51d66b65674fcf1", func := "hoistway/hoistwaylaw.FlowSolves", spec := "flowSolves", unfollowed := true, recurses := true, plainKeys := false, apart := false }
def FlowSolvesSaid : Prop := flowSolvesRow.holds Try.pinned (OpenSpec.ofChange flowSolvesSpec)

/-- ITS FALSE NEIGHBOUR: 'it returns false'. Refute it at one input. -/
def flowSolvesWrong : ChangeSpec := { name := "flowSolves", fn := fun _ => fun
  | [d1, d2, d3] => { results := [.lit (.bool false)], args := [d1, d2, d3] }
  | _ => none }
def FlowSolvesWrongFalsely : Prop := flowSolvesRow.holds Try.pinned (OpenSpec.ofChange flowSolvesWrong)

/-- 'hoistwaylaw.FlowGreatest': WHATEVER THE INPUT: true; the input reads as it did. -/
def flowGreatestSpec : ChangeSpec := { name := "flowGreatest", fn := fun _ => fun
  | [d1, d2, d3] => { results := [.lit (.bool true)], args := [d1, d2, d3] }
  | _ => none }
def flowGreatestRow : OpenClaim := { program := "ytmghkonmfbpjcaa", sum := "87fe7c78d8070b11f4e22f90961751e9ff7df27e78a07432c51d66b65674fcf1", func := "hoistway/hoistwaylaw.FlowGreatest", spec := "flowGreatest", unfollowed := true, recurses := true, plainKeys := false, apart := false }
def FlowGreatestSaid : Prop := flowGreatestRow.holds Try.pinned (OpenSpec.ofChange flowGreatestSpec)

/-- ITS FALSE NEIGHBOUR: 'it returns false'. Refute it at one input. -/
def flowGreatestWrong : ChangeSpec := { name := "flowGreatest", fn := fun _ => fun
  | [d1, d2, d3] => { results := [.lit (.bool false)], args := [d1, d2, d3] }
  | _ => none }
def FlowGreatestWrongFalsely : Prop := flowGreatestRow.holds Try.pinned (OpenSpec.ofChange flowGreatestWrong)

/-- 'hoistwaylaw.GraphTurns': WHATEVER THE INPUT: true; the input reads as it did. -/
def graphTurnsSpec : ChangeSpec := { name := "graphTurns", fn := fun _ => fun
  | [d] => { results := [.lit (.bool true)], args := [d] }
  | _ => none }
def graphTurnsRow : OpenClaim := { program := "ytmghkonmfbpjcaa", sum := "87fe7c78d8070b11f4e22f90961751e9ff7df27e78a07432c51d66b65674fcf1", func := "hoistway/hoistwaylaw.GraphTurns", spec := "graphTurns", unfollowed := true, recurses := true, plainKeys := false, apart := false }
def GraphTurnsSaid : Prop := graphTurnsRow.holds Try.pinned (OpenSpec.ofChange graphTurnsSpec)

/-- ITS FALSE NEIGHBOUR: 'it returns false'. Refute it at one input. -/
def graphTurnsWrong : ChangeSpec := { name := "graphTurns", fn := fun _ => fun
  | [d] => { results := [.lit (.bool false)], args := [d] }
  | _ => none }
def GraphTurnsWrongFalsely : Prop := graphTurnsRow.holds Try.pinned (OpenSpec.ofChange graphTurnsWrong)

/-- 'hoistwaylaw.FactsOf': WHATEVER THE INPUT: true; the input reads as it did. -/
def factsOfSpec : ChangeSpec := { name := "factsOf", fn := fun _ => fun
  | [d1, d2] => { results := [.lit (.bool true)], args := [d1, d2] }
  | _ => none }
def factsOfRow : OpenClaim := { program := "ytmghkonmfbpjcaa", sum := "87fe7c78d8070b11f4e22f90961751e9ff7df27e78a07432c51d66b65674fcf1", func := "hoistway/hoistwaylaw.FactsOf", spec := "factsOf", unfollowed := true, recurses := true, plainKeys := false, apart := false }
def FactsOfSaid : Prop := factsOfRow.holds Try.pinned (OpenSpec.ofChange factsOfSpec)

/-- ITS FALSE NEIGHBOUR: 'it returns false'. Refute it at one input. -/
def factsOfWrong : ChangeSpec := { name := "factsOf", fn := fun _ => fun
  | [d1, d2] => { results := [.lit (.bool false)], args := [d1, d2] }
  | _ => none }
def FactsOfWrongFalsely : Prop := factsOfRow.holds Try.pinned (OpenSpec.ofChange factsOfWrong)

/-- 'hoistwaylaw.ProgChecks': WHATEVER THE INPUT: true; the input reads as it did. -/
def progChecksSpec : ChangeSpec := { name := "progChecks", fn := fun _ => fun
  | [d1, d2] => { results := [.lit (.bool true)], args := [d1, d2] }
  | _ => none }
def progChecksRow : OpenClaim := { program := "ytmghkonmfbpjcaa", sum := "87fe7c78d8070b11f4e22f90961751e9ff7df27e78a07432c51d66b65674fcf1", func := "hoistway/hoistwaylaw.ProgChecks", spec := "progChecks", unfollowed := true, recurses := true, plainKeys := false, apart := false }
def ProgChecksSaid : Prop := progChecksRow.holds Try.pinned (OpenSpec.ofChange progChecksSpec)

/-- ITS FALSE NEIGHBOUR: 'it returns false'. Refute it at one input. -/
def progChecksWrong : ChangeSpec := { name := "progChecks", fn := fun _ => fun
  | [d1, d2] => { results := [.lit (.bool false)], args := [d1, d2] }
  | _ => none }
def ProgChecksWrongFalsely : Prop := progChecksRow.holds Try.pinned (OpenSpec.ofChange progChecksWrong)

/-- 'hoistwaylaw.RunRuns': WHATEVER THE INPUT: true; the input reads as it did. -/
def runRunsSpec : ChangeSpec := { name := "runRuns", fn := fun _ => fun
  | [d1, d2, d3] => { results := [.lit (.bool true)], args := [d1, d2, d3] }
  | _ => none }
def runRunsRow : OpenClaim := { program := "ytmghkonmfbpjcaa", sum := "87fe7c78d8070b11f4e22f90961751e9ff7df27e78a07432c51d66b65674fcf1", func := "hoistway/hoistwaylaw.RunRuns", spec := "runRuns", unfollowed := true, recurses := true, plainKeys := false, apart := false }
def RunRunsSaid : Prop := runRunsRow.holds Try.pinned (OpenSpec.ofChange runRunsSpec)

/-- ITS FALSE NEIGHBOUR: 'it returns false'. Refute it at one input. -/
def runRunsWrong : ChangeSpec := { name := "runRuns", fn := fun _ => fun
  | [d1, d2, d3] => { results := [.lit (.bool false)], args := [d1, d2, d3] }
  | _ => none }
def RunRunsWrongFalsely : Prop := runRunsRow.holds Try.pinned (OpenSpec.ofChange runRunsWrong)

/-- 'hoistwaylaw.RunTimes': WHATEVER THE INPUT: true; the input reads as it did. -/
def runTimesSpec : ChangeSpec := { name := "runTimes", fn := fun _ => fun
  | [d1, d2] => { results := [.lit (.bool true)], args := [d1, d2] }
  | _ => none }
def runTimesRow : OpenClaim := { program := "ytmghkonmfbpjcaa", sum := "87fe7c78d8070b11f4e22f90961751e9ff7df27e78a07432c51d66b65674fcf1", func := "hoistway/hoistwaylaw.RunTimes", spec := "runTimes", unfollowed := true, recurses := true, plainKeys := false, apart := false }
def RunTimesSaid : Prop := runTimesRow.holds Try.pinned (OpenSpec.ofChange runTimesSpec)

/-- ITS FALSE NEIGHBOUR: 'it returns false'. Refute it at one input. -/
def runTimesWrong : ChangeSpec := { name := "runTimes", fn := fun _ => fun
  | [d1, d2] => { results := [.lit (.bool false)], args := [d1, d2] }
  | _ => none }
def RunTimesWrongFalsely : Prop := runTimesRow.holds Try.pinned (OpenSpec.ofChange runTimesWrong)

/-- 'hoistwaylaw.RunMore': WHATEVER THE INPUT: true; the input reads as it did. -/
def runMoreSpec : ChangeSpec := { name := "runMore", fn := fun _ => fun
  | [d1, d2, d3, d4] => { results := [.lit (.bool true)], args := [d1, d2, d3, d4] }
  | _ => none }
def runMoreRow : OpenClaim := { program := "ytmghkonmfbpjcaa", sum := "87fe7c78d8070b11f4e22f90961751e9ff7df27e78a07432c51d66b65674fcf1", func := "hoistway/hoistwaylaw.RunMore", spec := "runMore", unfollowed := true, recurses := true, plainKeys := false, apart := false }
def RunMoreSaid : Prop := runMoreRow.holds Try.pinned (OpenSpec.ofChange runMoreSpec)

/-- ITS FALSE NEIGHBOUR: 'it returns false'. Refute it at one input. -/
def runMoreWrong : ChangeSpec := { name := "runMore", fn := fun _ => fun
  | [d1, d2, d3, d4] => { results := [.lit (.bool false)], args := [d1, d2, d3, d4] }
  | _ => none }
def RunMoreWrongFalsely : Prop := runMoreRow.holds Try.pinned (OpenSpec.ofChange runMoreWrong)

/- THE SECOND FORM. 'bulk': how many values and letters a reading holds, each counted each time it is reached (what is shared counts as often as it is met; a slice's spare places count too). A statement '..UptoSaid' is the law's where the arguments, and the package variables that the reading takes, are together of bulk at most 1048576: NARROWER than '..Said'. Prove '..Said' where nothing that the law and all that it calls make is longer than what came in: it says more and counts as full. Else prove '..UptoSaid'. A law counts once. -/
mutual
def uptoBulk {H : Type} : DataW H → Nat
  | .lit (.string bytes) => bytes.length + 1
  | .lit _ => 1
  | .nil => 1
  | .ptr d => uptoBulk d + 1
  | .slice elems spare => uptoBulkAll elems + uptoBulkAll spare + 1
  | .agg parts => uptoBulkAll parts + 1
  | .iface _ d => uptoBulk d + 1
  | .map entries => uptoBulkEntries entries + 1
  | .held _ => 1
def uptoBulkAll {H : Type} : List (DataW H) → Nat
  | [] => 0
  | d :: r => uptoBulk d + uptoBulkAll r
def uptoBulkEntries {H : Type} : List (Lit × DataW H) → Nat
  | [] => 0
  | x :: r => uptoBulkEntry x + uptoBulkEntries r
def uptoBulkEntry {H : Type} : Lit × DataW H → Nat
  | (.string bytes, d) => bytes.length + uptoBulk d + 1
  | (_, d) => uptoBulk d + 1
 end
def uptoSmall : (H : Type) → List (DataW H) → Bool := fun _ ds => decide (uptoBulkAll ds ≤ 1048576)
def OpenSpec.upto (s : _root_.Go.ChangeSpec) : _root_.Go.OpenSpec := { _root_.Go.OpenSpec.ofChange s with cond := some uptoSmall }

/-- 'hoistwaylaw.FlowSolves', WHERE WHAT IT READS IS OF BULK AT MOST 1048576: true; the input reads as it did. -/
def flowSolvesUptoRow : OpenClaim := { program := "ytmghkonmfbpjcaa", sum := "87fe7c78d8070b11f4e22f90961751e9ff7df27e78a07432c51d66b65674fcf1", func := "hoistway/hoistwaylaw.FlowSolves", spec := "flowSolves", unfollowed := true, recurses := true, plainKeys := false, apart := false, narrowed := true }
def FlowSolvesUptoSaid : Prop := flowSolvesUptoRow.holds Try.pinned (OpenSpec.upto flowSolvesSpec)

/-- 'hoistwaylaw.FlowGreatest', WHERE WHAT IT READS IS OF BULK AT MOST 1048576: true; the input reads as it did. -/
def flowGreatestUptoRow : OpenClaim := { program := "ytmghkonmfbpjcaa", sum := "87fe7c78d8070b11f4e22f90961751e9ff7df27e78a07432c51d66b65674fcf1", func := "hoistway/hoistwaylaw.FlowGreatest", spec := "flowGreatest", unfollowed := true, recurses := true, plainKeys := false, apart := false, narrowed := true }
def FlowGreatestUptoSaid : Prop := flowGreatestUptoRow.holds Try.pinned (OpenSpec.upto flowGreatestSpec)

/-- 'hoistwaylaw.GraphTurns', WHERE WHAT IT READS IS OF BULK AT MOST 1048576: true; the input reads as it did. -/
def graphTurnsUptoRow : OpenClaim := { program := "ytmghkonmfbpjcaa", sum := "87fe7c78d8070b11f4e22f90961751e9ff7df27e78a07432c51d66b65674fcf1", func := "hoistway/hoistwaylaw.GraphTurns", spec := "graphTurns", unfollowed := true, recurses := true, plainKeys := false, apart := false, narrowed := true }
def GraphTurnsUptoSaid : Prop := graphTurnsUptoRow.holds Try.pinned (OpenSpec.upto graphTurnsSpec)

/-- 'hoistwaylaw.FactsOf', WHERE WHAT IT READS IS OF BULK AT MOST 1048576: true; the input reads as it did. -/
def factsOfUptoRow : OpenClaim := { program := "ytmghkonmfbpjcaa", sum := "87fe7c78d8070b11f4e22f90961751e9ff7df27e78a07432c51d66b65674fcf1", func := "hoistway/hoistwaylaw.FactsOf", spec := "factsOf", unfollowed := true, recurses := true, plainKeys := false, apart := false, narrowed := true }
def FactsOfUptoSaid : Prop := factsOfUptoRow.holds Try.pinned (OpenSpec.upto factsOfSpec)

/-- 'hoistwaylaw.ProgChecks', WHERE WHAT IT READS IS OF BULK AT MOST 1048576: true; the input reads as it did. -/
def progChecksUptoRow : OpenClaim := { program := "ytmghkonmfbpjcaa", sum := "87fe7c78d8070b11f4e22f90961751e9ff7df27e78a07432c51d66b65674fcf1", func := "hoistway/hoistwaylaw.ProgChecks", spec := "progChecks", unfollowed := true, recurses := true, plainKeys := false, apart := false, narrowed := true }
def ProgChecksUptoSaid : Prop := progChecksUptoRow.holds Try.pinned (OpenSpec.upto progChecksSpec)

/-- 'hoistwaylaw.RunRuns', WHERE WHAT IT READS IS OF BULK AT MOST 1048576: true; the input reads as it did. -/
def runRunsUptoRow : OpenClaim := { program := "ytmghkonmfbpjcaa", sum := "87fe7c78d8070b11f4e22f90961751e9ff7df27e78a07432c51d66b65674fcf1", func := "hoistway/hoistwaylaw.RunRuns", spec := "runRuns", unfollowed := true, recurses := true, plainKeys := false, apart := false, narrowed := true }
def RunRunsUptoSaid : Prop := runRunsUptoRow.holds Try.pinned (OpenSpec.upto runRunsSpec)

/-- 'hoistwaylaw.RunTimes', WHERE WHAT IT READS IS OF BULK AT MOST 1048576: true; the input reads as it did. -/
def runTimesUptoRow : OpenClaim := { program := "ytmghkonmfbpjcaa", sum := "87fe7c78d8070b11f4e22f90961751e9ff7df27e78a07432c51d66b65674fcf1", func := "hoistway/hoistwaylaw.RunTimes", spec := "runTimes", unfollowed := true, recurses := true, plainKeys := false, apart := false, narrowed := true }
def RunTimesUptoSaid : Prop := runTimesUptoRow.holds Try.pinned (OpenSpec.upto runTimesSpec)

/-- 'hoistwaylaw.RunMore', WHERE WHAT IT READS IS OF BULK AT MOST 1048576: true; the input reads as it did. -/
def runMoreUptoRow : OpenClaim := { program := "ytmghkonmfbpjcaa", sum := "87fe7c78d8070b11f4e22f90961751e9ff7df27e78a07432c51d66b65674fcf1", func := "hoistway/hoistwaylaw.RunMore", spec := "runMore", unfollowed := true, recurses := true, plainKeys := false, apart := false, narrowed := true }
def RunMoreUptoSaid : Prop := runMoreUptoRow.holds Try.pinned (OpenSpec.upto runMoreSpec)

end Rows
end Go.Proofs.Ytmghkonmfbpjcaa
