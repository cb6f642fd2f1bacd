/- A program as this program's types lay it: the argument that reads, written out. -/
import Derived.Test.YtmghkonmfbpjcabDoorLift
import Derived.Test.YtmghkonmfbpjcabDoorChecked
namespace Go.Proofs.YtmghkonmfbpjcabDoor
set_option linter.unusedVariables false
set_option linter.unusedSimpArgs false
open Go.RowKit Go.ChangeShapes Go.WideShapes Go.Deep

section
variable {H : Type} {enc : TypeId × Value → H} {w : World} {base : Nat} {spare : Nat → Bool} {held : Bool} {r : Reach} {b0 : Nat} {v : Value} {d : DataW H} {p : List MemPlace}

set_option maxRecDepth 100000 in
theorem prog_in (hv : Value.okWide Tryd.prog w r b0 24 v) (h : DataW.Trod enc Tryd.prog w base spare held 24 v d p) :
    ∃ (regs : Int) (A : Option Addr) (l : List Nd) (cap : Nat), v = .agg #[.int .i64 regs, .slice A l.length cap] ∧ l.length ≤ maxLen ∧ NodesAt w A l := by
  obtain ⟨cs, rfl, hsz, n, hf⟩ := agg_reads Tryd.underlying24 (by kernel_rfl) (by kernel_rfl) hv h
  obtain ⟨c0, c1, rfl⟩ := arr2 hsz
  obtain ⟨_, y0, e0, h0⟩ := hf 0 _ rfl
  obtain ⟨_, y1, e1, h1⟩ := hf 1 _ rfl
  simp at e0 e1
  subst e0; subst e1
  obtain ⟨z, hz, _⟩ := DataW.trod_int Tryd.underlying3 h0
  obtain ⟨A, c, l, hl, hm, hA⟩ := open_nodes Tryd.underlying22 Tryd.underlying55 (by kernel_rfl) (by kernel_rfl) (by simp [Tryd.underlying3]) h1
  simp at hz hl
  subst hz; subst hl
  exact ⟨z, A, l, c, rfl, hm, hA⟩

end
end Go.Proofs.YtmghkonmfbpjcabDoor
