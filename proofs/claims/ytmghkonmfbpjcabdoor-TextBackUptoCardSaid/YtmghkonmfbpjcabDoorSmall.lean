/- small: the program that the statements begin with. -/
import Derived.Test.YtmghkonmfbpjcabDoorNRow
import Derived.Test.YtmghkonmfbpjcabDoorOps
namespace Go.Proofs.YtmghkonmfbpjcabDoor
set_option linter.unusedVariables false
set_option linter.unusedSimpArgs false
open Go.RowKit
set_option maxHeartbeats 4000000

def smallL : List Nd := [⟨9, 0, 0, 0, 1, 0⟩, ⟨9, 1, 0, 0, 2, 0⟩, ⟨11, 0, 0, 0, 3, 5⟩, ⟨3, 2, 0, 1, 4, 0⟩, ⟨10, 0, 2, 0, 5, 0⟩, ⟨3, 2, 0, 1, 6, 0⟩, ⟨12, 0, 2, 0, 0, 0⟩]

theorem small_row (w : World) : Calls Tryd.prog 26 #[] w fun e w' => ∃ g, e = .returned (.agg #[.int .i64 3, .slice (some ⟨g, 0, none⟩) 7 7]) ∧ NRow w' w.heap.size 55 (.slice (some ⟨g, 0, none⟩) 7 7) smallL ∧ Below w.heap.size w w' := by
  go_enter Tryd.func26, Tryd.ntmps26
  go_wp2
  refine bodyPost_ret (v := .agg #[.int .i64 3, .slice (some ⟨w.heap.size + 1, 0, none⟩) 7 7]) (by simp [results, Tryd.results26, go_sem]) rfl ⟨_, rfl, ?_, (by repeat (first | (with_reducible exact Below.refl _ _) | (with_reducible assumption) | (with_reducible refine Below.drew ?_) | (with_reducible refine below_drewN ?_ _) | (with_reducible refine Below.alloc ?_ (by (try simp only [World.size_alloc, World.size_setCell, World.size_drew, World.heap_drewN]); (first | done | omega | ((try simp only [World.size_alloc, World.size_setCell, World.size_drew, World.heap_drewN] at *); omega))) _) | (with_reducible refine Below.setCell ?_ (by (try simp only [World.size_alloc, World.size_setCell, World.size_drew, World.heap_drewN]); (first | done | omega | ((try simp only [World.size_alloc, World.size_setCell, World.size_drew, World.heap_drewN] at *); omega))) _) | (with_reducible refine Below.trans ?_ (Below.mono (by assumption) (by (try simp only [World.size_alloc, World.size_setCell, World.size_drew, World.heap_drewN]); (first | done | omega | ((try simp only [World.size_alloc, World.size_setCell, World.size_drew, World.heap_drewN] at *); omega)))))))⟩
  refine NRow.close (l := smallL) (cur := (ncells smallL).toArray) (g := w.heap.size + 1) (cap := 7) (by omega) ?_ (by simp [smallL]) (by simp [maxLen]) (by simp [ncells_len, smallL]) (fun k _ => by simp)
  have h := Blk.new' (w := w.alloc (.cells #[.int .i64 3, .slice (some ⟨w.heap.size + 1, 0, none⟩) 7 7] 24)) (g := w.heap.size + 1) (t := 55) (cs := (ncells smallL).toArray) (by simp)
  unfold Blk at h
  exact h
theorem small_any (w : World) : Calls Tryd.prog 26 #[] w fun e w' => ∃ g, e = .returned (.agg #[.int .i64 3, .slice (some ⟨g, 0, none⟩) 7 7]) ∧ NodesAt w' (some ⟨g, 0, none⟩) smallL ∧ Below w.heap.size w w' :=
  (small_row w).mono fun _ _ ⟨g, h1, h2, h3⟩ => ⟨g, h1, h2.nodes, h3⟩
end Go.Proofs.YtmghkonmfbpjcabDoor
