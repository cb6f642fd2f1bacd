/- The small functions on operations and terms: of, fields, within, Reckons. -/
import Derived.Test.YtmghkonmfbpjcabDoorProg
import Derived.Test.YtmghkonmfbpjcabDoorNode
import Derived.WalkLawsBesides
import Derived.Deep.QuietTactic
import Derived.BigQuiet
namespace Go.Proofs.YtmghkonmfbpjcabDoor
set_option linter.unusedVariables false
set_option linter.unusedSimpArgs false
open Go.RowKit
set_option maxHeartbeats 800000

theorem within_any (n lo hi : Int) (w : World) :
    Calls Tryd.prog 38 #[.int .i64 n, .int .i64 lo, .int .i64 hi] w fun e w' => e = .returned (.bool (inB n lo hi)) ∧ w = w' := by
  by_cases h : lo ≤ n
  · go_enter Tryd.func38, Tryd.ntmps38
    go_wp2
    go_ret
    exact ⟨by simp [h, inB], rfl⟩
  · go_enter Tryd.func38, Tryd.ntmps38
    go_wp2
    go_ret
    exact ⟨by simp [inB]; omega, rfl⟩


theorem fields_any (op : Int) (w : World) :
    Calls Tryd.prog 39 #[.int .i64 op] w fun e w' => e = .returned (.tuple #[.bool (hasD op), .bool (hasA op), .bool (hasB op), .bool (hasT op), .bool (hasE op)]) ∧ w = w' := by
  go_enter Tryd.func39, Tryd.ntmps39
  go_wp2_with (go_at_call 38; refine (within_any _ _ _ _).mono ?_; rintro e w' ⟨rfl, rfl⟩)
  all_goals refine bodyPost_ret (v := .tuple #[.bool (hasD op), .bool (hasA op), .bool (hasB op), .bool (hasT op), .bool (hasE op)]) ?_ rfl ⟨rfl, rfl⟩
  all_goals simp_all [results, Tryd.results39, go_sem, hasD, hasA, hasB, hasT, hasE]

theorem of_any (op : Int) (w : World) :
    Calls Tryd.prog 51 #[.int .i64 op] w fun e w' => e = .returned (.tuple #[.agg #[.bool (hasD op), .bool (hasA op), .bool (hasB op), .bool (isSet op), .bool (shT op), .bool (hasE op)], .bool (opOk op)]) ∧ Below w.heap.size w w' := by
  go_enter Tryd.func51, Tryd.ntmps51
  go_wp2
  all_goals go_tidy
  all_goals refine bodyPost_ret (v := .tuple #[.agg #[.bool (hasD op), .bool (hasA op), .bool (hasB op), .bool (isSet op), .bool (shT op), .bool (hasE op)], .bool (opOk op)]) ?_ rfl ⟨rfl, (by repeat (first | (with_reducible exact Below.refl _ _) | (with_reducible assumption) | (with_reducible refine Below.drew ?_) | (with_reducible refine below_drewN ?_ _) | (with_reducible refine Below.alloc ?_ (by (try simp only [World.size_alloc, World.size_setCell, World.size_drew, World.heap_drewN]); (first | done | omega | ((try simp only [World.size_alloc, World.size_setCell, World.size_drew, World.heap_drewN] at *); omega))) _) | (with_reducible refine Below.setCell ?_ (by (try simp only [World.size_alloc, World.size_setCell, World.size_drew, World.heap_drewN]); (first | done | omega | ((try simp only [World.size_alloc, World.size_setCell, World.size_drew, World.heap_drewN] at *); omega))) _) | (with_reducible refine Below.trans ?_ (Below.mono (by assumption) (by (try simp only [World.size_alloc, World.size_setCell, World.size_drew, World.heap_drewN]); (first | done | omega | ((try simp only [World.size_alloc, World.size_setCell, World.size_drew, World.heap_drewN] at *); omega)))))))⟩
  all_goals simp only [beq_iff_eq, beq_eq_false_iff_ne, ne_eq, Bool.or_eq_true, not_or] at *
  all_goals first
    | (rename_i h; subst h; simp [results, Tryd.results51, go_sem]; exact ⟨⟨rfl, rfl, rfl, rfl, rfl, rfl⟩, rfl⟩)
    | (have h13 : opOk op = false := by
         simp [opOk, inB]
         omega
       have h14 : hasD op = false ∧ hasA op = false ∧ hasB op = false ∧ isSet op = false ∧ hasE op = false := by
         simp [hasD, hasA, hasB, isSet, hasE, inB]
         omega
       simp [results, Tryd.results51, go_sem, shT, h13, h14])
end Go.Proofs.YtmghkonmfbpjcabDoor
