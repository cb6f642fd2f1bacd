/-
  No cell of these rows narrows 'for every input' (looked for: loops, veiled, ifaces, maps, wideKeys, modest, calm, conditions, laid).
  DERIVED. THE GIVEN ROWS OF THIS SEAT. 5 by the template 'for every input the law returns true; each argument reads behind the call as it read before'; 0 by the template 'total and deterministic' (their statements: YtmghkonmfbpjcabTotals.lean).
  GIVEN WITH THE SEED: the statements are not yours to turn. If you find one false, say at which input.
  Laid BY PROGRAM, IN A SANDBOX (cutbox-rows.mjs): the forced cells as the released guide's own fill.sh prints them over the translation fd8e957c0db500dd… (all of the seat's roots in one cut). By AI agents, Wed Nov 11 2026. No macro, syntax, notation, axiom, sorry.
-/
import Derived.Test.YtmghkonmfbpjcabChecked
import GoSem.Claim
import GoSem.ClaimJoined
import GoSem.ClaimMapViews
import Derived.JoinedTies
import Derived.KernelRfl
namespace Go.Proofs.Ytmghkonmfbpjcab
/- THE CELL 'sum', in the pinned program and in every row, IS THE sha256 OF THE DUMP (.gsa) THAT YtmghkonmfbpjcabProg.lean LOADS. Nothing in Lean hashes anything: it is a label: what it is worth is what the hold of that sum in a sandbox is worth. -/
noncomputable def Try.pinned : Pinned := { name := "ytmghkonmfbpjcab", sum := "fd8e957c0db500dd785bcd06eba16228dcc790d0f80abe323d2ac996756014b4", checked := Try.checked }
namespace Rows
def none {H : Type} : Left H := { results := [], args := [] }

/-- 'hoistwaylaw.GraphSame': WHATEVER THE INPUT: true; the input reads as it did. -/
def graphSameSpec : ChangeSpec := { name := "graphSame", fn := fun _ => fun
  | [d1, d2, d3] => { results := [.lit (.bool true)], args := [d1, d2, d3] }
  | _ => none }
def graphSameRow : OpenClaim := { program := "ytmghkonmfbpjcab", sum := "fd8e957c0db500dd785bcd06eba16228dcc790d0f80abe323d2ac996756014b4", func := "hoistway/hoistwaylaw.GraphSame", spec := "graphSame", unfollowed := true, recurses := true, plainKeys := false, apart := false }
def GraphSameSaid : Prop := graphSameRow.holds Try.pinned (OpenSpec.ofChange graphSameSpec)

/-- ITS FALSE NEIGHBOUR: 'it returns false'. Refute it at one input. -/
def graphSameWrong : ChangeSpec := { name := "graphSame", fn := fun _ => fun
  | [d1, d2, d3] => { results := [.lit (.bool false)], args := [d1, d2, d3] }
  | _ => none }
def GraphSameWrongFalsely : Prop := graphSameRow.holds Try.pinned (OpenSpec.ofChange graphSameWrong)

/-- 'hoistwaylaw.MoveSaves': WHATEVER THE INPUT: true; the input reads as it did. -/
def moveSavesSpec : ChangeSpec := { name := "moveSaves", fn := fun _ => fun
  | [d1, d2, d3, d4] => { results := [.lit (.bool true)], args := [d1, d2, d3, d4] }
  | _ => none }
def moveSavesRow : OpenClaim := { program := "ytmghkonmfbpjcab", sum := "fd8e957c0db500dd785bcd06eba16228dcc790d0f80abe323d2ac996756014b4", func := "hoistway/hoistwaylaw.MoveSaves", spec := "moveSaves", unfollowed := true, recurses := true, plainKeys := false, apart := false }
def MoveSavesSaid : Prop := moveSavesRow.holds Try.pinned (OpenSpec.ofChange moveSavesSpec)

/-- ITS FALSE NEIGHBOUR: 'it returns false'. Refute it at one input. -/
def moveSavesWrong : ChangeSpec := { name := "moveSaves", fn := fun _ => fun
  | [d1, d2, d3, d4] => { results := [.lit (.bool false)], args := [d1, d2, d3, d4] }
  | _ => none }
def MoveSavesWrongFalsely : Prop := moveSavesRow.holds Try.pinned (OpenSpec.ofChange moveSavesWrong)

/-- 'hoistwaylaw.MoveOnce': WHATEVER THE INPUT: true; the input reads as it did. -/
def moveOnceSpec : ChangeSpec := { name := "moveOnce", fn := fun _ => fun
  | [d1, d2] => { results := [.lit (.bool true)], args := [d1, d2] }
  | _ => none }
def moveOnceRow : OpenClaim := { program := "ytmghkonmfbpjcab", sum := "fd8e957c0db500dd785bcd06eba16228dcc790d0f80abe323d2ac996756014b4", func := "hoistway/hoistwaylaw.MoveOnce", spec := "moveOnce", unfollowed := true, recurses := true, plainKeys := false, apart := false }
def MoveOnceSaid : Prop := moveOnceRow.holds Try.pinned (OpenSpec.ofChange moveOnceSpec)

/-- ITS FALSE NEIGHBOUR: 'it returns false'. Refute it at one input. -/
def moveOnceWrong : ChangeSpec := { name := "moveOnce", fn := fun _ => fun
  | [d1, d2] => { results := [.lit (.bool false)], args := [d1, d2] }
  | _ => none }
def MoveOnceWrongFalsely : Prop := moveOnceRow.holds Try.pinned (OpenSpec.ofChange moveOnceWrong)

/-- 'hoistwaylaw.MoveLeast': WHATEVER THE INPUT: true; the input reads as it did. -/
def moveLeastSpec : ChangeSpec := { name := "moveLeast", fn := fun _ => fun
  | [d1, d2, d3, d4, d5] => { results := [.lit (.bool true)], args := [d1, d2, d3, d4, d5] }
  | _ => none }
def moveLeastRow : OpenClaim := { program := "ytmghkonmfbpjcab", sum := "fd8e957c0db500dd785bcd06eba16228dcc790d0f80abe323d2ac996756014b4", func := "hoistway/hoistwaylaw.MoveLeast", spec := "moveLeast", unfollowed := true, recurses := true, plainKeys := false, apart := false }
def MoveLeastSaid : Prop := moveLeastRow.holds Try.pinned (OpenSpec.ofChange moveLeastSpec)

/-- ITS FALSE NEIGHBOUR: 'it returns false'. Refute it at one input. -/
def moveLeastWrong : ChangeSpec := { name := "moveLeast", fn := fun _ => fun
  | [d1, d2, d3, d4, d5] => { results := [.lit (.bool false)], args := [d1, d2, d3, d4, d5] }
  | _ => none }
def MoveLeastWrongFalsely : Prop := moveLeastRow.holds Try.pinned (OpenSpec.ofChange moveLeastWrong)

/-- 'hoistwaylaw.MoveSame': WHATEVER THE INPUT: true; the input reads as it did. -/
def moveSameSpec : ChangeSpec := { name := "moveSame", fn := fun _ => fun
  | [d1, d2, d3, d4, d5] => { results := [.lit (.bool true)], args := [d1, d2, d3, d4, d5] }
  | _ => none }
def moveSameRow : OpenClaim := { program := "ytmghkonmfbpjcab", sum := "fd8e957c0db500dd785bcd06eba16228dcc790d0f80abe323d2ac996756014b4", func := "hoistway/hoistwaylaw.MoveSame", spec := "moveSame", unfollowed := true, recurses := true, plainKeys := false, apart := false }
def MoveSameSaid : Prop := moveSameRow.holds Try.pinned (OpenSpec.ofChange moveSameSpec)

/-- ITS FALSE NEIGHBOUR: 'it returns false'. Refute it at one input. -/
def moveSameWrong : ChangeSpec := { name := "moveSame", fn := fun _ => fun
  | [d1, d2, d3, d4, d5] => { results := [.lit (.bool false)], args := [d1, d2, d3, d4, d5] }
  | _ => none }
def MoveSameWrongFalsely : Prop := moveSameRow.holds Try.pinned (OpenSpec.ofChange moveSameWrong)

/- THE SECOND FORM. 'bulk': how many values and letters a reading holds, each counted each time it is reached (what is shared counts as often as it is met; a slice's spare places count too). A statement '..UptoSaid' is the law's where the arguments, and the package variables that the reading takes, are together of bulk at most 1048576: NARROWER than '..Said'. Prove '..Said' where nothing that the law and all that it calls make is longer than what came in: it says more and counts as full. Else prove '..UptoSaid'. A law counts once. -/
mutual
def uptoBulk {H : Type} : DataW H → Nat
  | .lit (.string bytes) => bytes.length + 1
  | .lit _ => 1
  | .nil => 1
  | .ptr d => uptoBulk d + 1
  | .slice elems spare => uptoBulkAll elems + uptoBulkAll spare + 1
  | .agg parts => uptoBulkAll parts + 1
  | .iface _ d => uptoBulk d + 1
  | .map entries => uptoBulkEntries entries + 1
  | .held _ => 1
def uptoBulkAll {H : Type} : List (DataW H) → Nat
  | [] => 0
  | d :: r => uptoBulk d + uptoBulkAll r
def uptoBulkEntries {H : Type} : List (Lit × DataW H) → Nat
  | [] => 0
  | x :: r => uptoBulkEntry x + uptoBulkEntries r
def uptoBulkEntry {H : Type} : Lit × DataW H → Nat
  | (.string bytes, d) => bytes.length + uptoBulk d + 1
  | (_, d) => uptoBulk d + 1
 end
def uptoSmall : (H : Type) → List (DataW H) → Bool := fun _ ds => decide (uptoBulkAll ds ≤ 1048576)
def OpenSpec.upto (s : _root_.Go.ChangeSpec) : _root_.Go.OpenSpec := { _root_.Go.OpenSpec.ofChange s with cond := some uptoSmall }

/-- 'hoistwaylaw.GraphSame', WHERE WHAT IT READS IS OF BULK AT MOST 1048576: true; the input reads as it did. -/
def graphSameUptoRow : OpenClaim := { program := "ytmghkonmfbpjcab", sum := "fd8e957c0db500dd785bcd06eba16228dcc790d0f80abe323d2ac996756014b4", func := "hoistway/hoistwaylaw.GraphSame", spec := "graphSame", unfollowed := true, recurses := true, plainKeys := false, apart := false, narrowed := true }
def GraphSameUptoSaid : Prop := graphSameUptoRow.holds Try.pinned (OpenSpec.upto graphSameSpec)

/-- 'hoistwaylaw.MoveSaves', WHERE WHAT IT READS IS OF BULK AT MOST 1048576: true; the input reads as it did. -/
def moveSavesUptoRow : OpenClaim := { program := "ytmghkonmfbpjcab", sum := "fd8e957c0db500dd785bcd06eba16228dcc790d0f80abe323d2ac996756014b4", func := "hoistway/hoistwaylaw.MoveSaves", spec := "moveSaves", unfollowed := true, recurses := true, plainKeys := false, apart := false, narrowed := true }
def MoveSavesUptoSaid : Prop := moveSavesUptoRow.holds Try.pinned (OpenSpec.upto moveSavesSpec)

/-- 'hoistwaylaw.MoveOnce', WHERE WHAT IT READS IS OF BULK AT MOST 1048576: true; the input reads as it did. -/
def moveOnceUptoRow : OpenClaim := { program := "ytmghkonmfbpjcab", sum := "fd8e957c0db500dd785bcd06eba16228dcc790d0f80abe323d2ac996756014b4", func := "hoistway/hoistwaylaw.MoveOnce", spec := "moveOnce", unfollowed := true, recurses := true, plainKeys := false, apart := false, narrowed := true }
def MoveOnceUptoSaid : Prop := moveOnceUptoRow.holds Try.pinned (OpenSpec.upto moveOnceSpec)

/-- 'hoistwaylaw.MoveLeast', WHERE WHAT IT READS IS OF BULK AT MOST 1048576: true; the input reads as it did. -/
def moveLeastUptoRow : OpenClaim := { program := "ytmghkonmfbpjcab", sum := "fd8e957c0db500dd785bcd06eba16228dcc790d0f80abe323d2ac996756014b4", func := "hoistway/hoistwaylaw.MoveLeast", spec := "moveLeast", unfollowed := true, recurses := true, plainKeys := false, apart := false, narrowed := true }
def MoveLeastUptoSaid : Prop := moveLeastUptoRow.holds Try.pinned (OpenSpec.upto moveLeastSpec)

/-- 'hoistwaylaw.MoveSame', WHERE WHAT IT READS IS OF BULK AT MOST 1048576: true; the input reads as it did. -/
def moveSameUptoRow : OpenClaim := { program := "ytmghkonmfbpjcab", sum := "fd8e957c0db500dd785bcd06eba16228dcc790d0f80abe323d2ac996756014b4", func := "hoistway/hoistwaylaw.MoveSame", spec := "moveSame", unfollowed := true, recurses := true, plainKeys := false, apart := false, narrowed := true }
def MoveSameUptoSaid : Prop := moveSameUptoRow.holds Try.pinned (OpenSpec.upto moveSameSpec)

end Rows
end Go.Proofs.Ytmghkonmfbpjcab
