/- What a term comes to: the reference's Reckon; which of two terms comes first: the reference's above. -/
import Derived.Test.YtmghkonmfbpjcaaRunQ
import Derived.Test.YtmghkonmfbpjcaaOps
namespace Go.Proofs.Ytmghkonmfbpjcaa
set_option linter.unusedVariables false
set_option linter.unusedSimpArgs false
open Go.RowKit
set_option maxHeartbeats 2000000

theorem Reckon_any (op x y : Int) (w : World) : Calls Try.prog 93 #[.int .i64 op, .int .i64 x, .int .i64 y] w fun e w' => e = .returned (.int .i64 (reckV op x y)) ∧ w' = w := by
  go_enter Try.func93, Try.ntmps93
  go_wp2
  all_goals go_tidy
  all_goals go_ret
  all_goals exact ⟨ret_int (by simp_all [reckV]), rfl⟩
theorem above_any (a b : Tm) (w : World) : Calls Try.prog 110 #[.agg #[.int .i64 a.op, .int .i64 a.a, .int .i64 a.b], .agg #[.int .i64 b.op, .int .i64 b.a, .int .i64 b.b]] w fun e w' => e = .returned (.bool (ltT b a)) ∧ Below w.heap.size w w' := by
  go_enter Try.func110, Try.ntmps110
  go_wp2
  all_goals go_tidy
  all_goals go_ret
  all_goals refine ⟨ret_bool ?_, (by repeat (first | (with_reducible exact Below.refl _ _) | (with_reducible assumption) | (with_reducible refine Below.drew ?_) | (with_reducible refine below_drewN ?_ _) | (with_reducible refine Below.alloc ?_ (by (try simp only [World.size_alloc, World.size_setCell, World.size_drew, World.heap_drewN]); (first | done | omega | ((try simp only [World.size_alloc, World.size_setCell, World.size_drew, World.heap_drewN] at *); omega))) _) | (with_reducible refine Below.setCell ?_ (by (try simp only [World.size_alloc, World.size_setCell, World.size_drew, World.heap_drewN]); (first | done | omega | ((try simp only [World.size_alloc, World.size_setCell, World.size_drew, World.heap_drewN] at *); omega))) _) | (with_reducible refine Below.trans ?_ (Below.mono (by assumption) (by (try simp only [World.size_alloc, World.size_setCell, World.size_drew, World.heap_drewN]); (first | done | omega | ((try simp only [World.size_alloc, World.size_setCell, World.size_drew, World.heap_drewN] at *); omega)))))))⟩
  all_goals (simp only [ltT]; simp_all <;> (first | omega | (rw [Bool.eq_iff_iff]; simp; omega)))
end Go.Proofs.Ytmghkonmfbpjcaa
