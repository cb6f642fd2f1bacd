/- SplitR. -/
import Derived.Test.YtmghkonmfbpjcaaGreatDoorGC
import Derived.Test.YtmghkonmfbpjcaaGreatDoorGH
import Derived.Test.YtmghkonmfbpjcaaGreatDoorGB
import Derived.Test.YtmghkonmfbpjcaaGreatDoorGA
set_option linter.unusedVariables false
set_option linter.unusedSimpArgs false
namespace Go.Proofs.YtmghkonmfbpjcaaGreatDoor
section
open Go.RowKit
set_option maxHeartbeats 40000000
attribute [local irreducible] Row madeCells
def SplitPost (t : TypeId) (regs : Int) (l : List Nd) (w : World) (e : Ending) (w' : World) : Prop :=
 Below w.heap.size w w' ∧ ((256 < (splitL l).length ∧ e = .returned (.tuple #[.agg #[.int .i64 0, .slice none 0 0], .int .i64 2])) ∨
  ((splitL l).length ≤ 256 ∧ ∃ v, e = .returned (.tuple #[.agg #[.int .i64 regs, v], .int .i64 0]) ∧ NRow w' w.heap.size t v (splitL l)))
theorem NRow.at_ {w : World} {base g n cap k : Nat} {e : TypeId} {l : List Nd} {y : Nd} (h : NRow w base e (.slice (some ⟨g, 0, none⟩) n cap) l) (hk : l[k]? = some y) : y.lies w g (k * 6) ∧ ∀ j, j < 6 → w.frozen? ⟨g, k * 6 + j, none⟩ = false := by (
 have hlt : k < l.length := (List.getElem?_eq_some_iff.1 hk).1
 obtain ⟨g', c', y', ev, _, _, hy, hl, hf⟩ := h.get hlt
 injection ev with ev
 injection ev with ev
 injection ev with ev
 subst ev
 rw [hk] at hy
 injection hy with hy
 subst hy
 exact ⟨hl, fun j hj => hf _ (by omega)⟩)
structure SpSt (tN tP : TypeId) (B bQ bX : Nat) (w : World) (regs : Int) (pv : Value) (xc : Array Value) (W : World) (v : Value) (out : List Nd) : Prop where
 nrow : NRow W B tN v out
 q : Blk W bQ tP #[.int .i64 regs, v]
 x : Blk W bX tN xc
 p : Blk W B tP #[.int .i64 regs, pv]
 o : Blk W (B + 1) tP #[.int .i64 0, .slice none 0 0]
 below : Below B w W
 bq : B + 1 < bQ
 nx : v.ownBlock ≠ some bX
 sz : B ≤ W.heap.size
section
variable {tN tP : TypeId} {B bQ bX : Nat} {w W W' : World} {regs : Int} {pv v : Value} {xc : Array Value} {out : List Nd}
end
end
end Go.Proofs.YtmghkonmfbpjcaaGreatDoor
