/- ReachR; RefG; TrimR: merged texts. -/
import Derived.Test.YtmghkonmfbpjcabJB
import Derived.Test.YtmghkonmfbpjcabOps
import Derived.Deep.LoopGhost
import Derived.Deep.DeepCutAuto
import Derived.Test.YtmghkonmfbpjcabJA
import Derived.Test.YtmghkonmfbpjcabJG
import Derived.Test.YtmghkonmfbpjcabSame
/- The reference's ReachOf. -/
namespace Go.Proofs.Ytmghkonmfbpjcab
set_option linter.unusedVariables false
set_option linter.unusedSimpArgs false
open Go.RowKit
set_option maxHeartbeats 4000000
attribute [local irreducible] Row madeCells

theorem infoBoolG : (Try.prog.info? 4).map (fun i => (i.zero, i.size, i.bytes)) = some (some (.bool false), 1, 1) := by kernel_rfl
def BoolPost (t : TypeId) (x : List Bool) (w : World) (e : Ending) (w' : World) : Prop := ∃ v, e = .returned v ∧ Row w' w.heap.size t v (bools x) ∧ Below w.heap.size w w'
theorem Row.bool_at_ {w : World} {B g : Nat} {e : TypeId} {n c : Nat} {x : List Bool} (h : Row w B e (.slice (some ⟨g, 0, none⟩) n c) (bools x)) {k : Nat} (hk : k < x.length) :
    w.cell? ⟨g, k, none⟩ = some (.bool (yn x k)) ∧ w.frozen? ⟨g, k, none⟩ = false := by
  obtain ⟨g0, o0, cp0, e0, _, _, cx, fx⟩ := h.bool hk
  injection e0 with e0 e1 e2
  injection e0 with e0
  injection e0 with e0 e3
  subst e0 e3
  rw [Nat.zero_add] at cx fx
  exact ⟨cx, fx⟩
theorem Row.setb0 {w : World} {B : Nat} {e : TypeId} {g n cap : Nat} {x : List Bool} (h : Row w B e (.slice (some ⟨g, 0, none⟩) n cap) (bools x)) (k : Nat) (b : Bool) :
    Row (w.setCell ⟨g, k, none⟩ (.bool b)) B e (.slice (some ⟨g, 0, none⟩) n cap) (bools (x.set k b)) := by
  have := h.setb k b
  rwa [Nat.zero_add] at this

end Go.Proofs.Ytmghkonmfbpjcab

/- The reference's leads, NextOf, AheadOf. -/
namespace Go.Proofs.Ytmghkonmfbpjcab
set_option linter.unusedVariables false
set_option linter.unusedSimpArgs false
open Go.RowKit
set_option maxHeartbeats 2000000



def RowPost (B : Nat) (t : TypeId) (xs : List Value) (w : World) (e : Ending) (w' : World) : Prop := ∃ v, e = .returned v ∧ Row w' B t v xs ∧ Below w.heap.size w w'

end Go.Proofs.Ytmghkonmfbpjcab

/- The reference's TrimOf. -/
namespace Go.Proofs.Ytmghkonmfbpjcab
set_option linter.unusedVariables false
set_option linter.unusedSimpArgs false
open Go.RowKit
set_option maxHeartbeats 4000000
attribute [local irreducible] Row madeCells

theorem flip_ne {a b : Option Nat} (h : a = none ∨ a ≠ b) : b = none ∨ b ≠ a := by
  rcases b with _ | b
  · exact .inl rfl
  · rcases h with h | h
    · exact .inr (by rw [h]; simp)
    · exact .inr h.symm
theorem map_const_range (z : Value) (n : Nat) : ((List.range n).map fun _ => z) = List.replicate n z := by rw [List.map_const', List.length_range]

end Go.Proofs.Ytmghkonmfbpjcab
