/- choose and begins, of the statements' own. -/
import Derived.Test.YtmghkonmfbpjcabDoorJD
import Derived.Test.YtmghkonmfbpjcabDoorSame
namespace Go.Proofs.YtmghkonmfbpjcabDoor
set_option linter.unusedVariables false
set_option linter.unusedSimpArgs false
open Go.RowKit
set_option maxHeartbeats 4000000

theorem choose_any (c n : Int) (hn : 0 < n) (hn2 : n ≤ 1000000) (hc : i64ok c) (w : World) : Calls Tryd.prog 8 #[.int .i64 c, .int .i64 n] w fun e w' => e = .returned (.int .i64 (chV c n)) ∧ w' = w := by
  obtain ⟨hc1, hc2⟩ := hc
  have hz : ¬ (n = 0) := by omega
  unfold chV
  by_cases h : c < 0
  · rw [if_pos h]
    have e1 : IntKind.i64.wrap (c + 1) = c + 1 := by rw [IntKind.wrap_i64]; omega
    have e2 : IntKind.i64.wrap (-(c + 1)) = -(c + 1) := by rw [IntKind.wrap_i64]; omega
    go_enter Tryd.func8, Tryd.ntmps8
    go_wp2
    go_ret
    have e3 : -(c + 1).tmod n = -(c + 1) % n := by rw [← Int.neg_tmod, Int.tmod_eq_emod_of_nonneg (by omega)]
    exact ⟨ret_int e3, rfl⟩
  · rw [if_neg h]
    go_enter Tryd.func8, Tryd.ntmps8
    go_wp2
    go_ret
    exact ⟨rfl, rfl⟩
end Go.Proofs.YtmghkonmfbpjcabDoor
