/- choose and begins, of the statements' own. -/
import Derived.Test.YtmghkonmfbpjcabJC
import Derived.Test.YtmghkonmfbpjcabSame
namespace Go.Proofs.Ytmghkonmfbpjcab
set_option linter.unusedVariables false
set_option linter.unusedSimpArgs false
open Go.RowKit
set_option maxHeartbeats 4000000

theorem choose_any (c n : Int) (hn : 0 < n) (hn2 : n ≤ 1000000) (hc : i64ok c) (w : World) : Calls Try.prog 11 #[.int .i64 c, .int .i64 n] w fun e w' => e = .returned (.int .i64 (chV c n)) ∧ w' = w := by
  obtain ⟨hc1, hc2⟩ := hc
  have hz : ¬ (n = 0) := by omega
  unfold chV
  by_cases h : c < 0
  · rw [if_pos h]
    have e1 : IntKind.i64.wrap (c + 1) = c + 1 := by rw [IntKind.wrap_i64]; omega
    have e2 : IntKind.i64.wrap (-(c + 1)) = -(c + 1) := by rw [IntKind.wrap_i64]; omega
    go_enter Try.func11, Try.ntmps11
    go_wp2
    go_ret
    have e3 : -(c + 1).tmod n = -(c + 1) % n := by rw [← Int.neg_tmod, Int.tmod_eq_emod_of_nonneg (by omega)]
    exact ⟨ret_int e3, rfl⟩
  · rw [if_neg h]
    go_enter Try.func11, Try.ntmps11
    go_wp2
    go_ret
    exact ⟨rfl, rfl⟩
theorem begins_any (X Y : Option Addr) (xc yc : Nat) (y z : List Int) (w : World) (hX : ValsAt w X (ints (y ++ z))) (hY : ValsAt w Y (ints y)) (h1 : (y ++ z).length ≤ xc) (h2 : xc ≤ maxLen) :
    Calls Try.prog 37 #[.slice X (y ++ z).length xc, .slice Y y.length yc] w fun e w' => e = .returned (.bool true) ∧ ∃ d, w' = w.drewN d := by
  have hl : y.length ≤ (y ++ z).length := by simp
  have hX' : ValsAt w X (ints y) := fun hne => by
    obtain ⟨b, o, e, hb, hc⟩ := hX (by intro e; apply hne; simp [ints] at e ⊢; exact e.1)
    exact ⟨b, o, e, hb, fun i v hi => hc i v (by
      have hil : i < y.length := by
        have := (List.getElem?_eq_some_iff.1 hi).1
        rwa [ints_length] at this
      rw [ints_get] at hi ⊢
      rw [List.getElem?_append_left hil]
      exact hi)⟩
  have HS := hide (SameInts_any X Y xc yc y y w hX' hY (by unfold maxLen at *; omega) (by unfold maxLen at *; omega))
  generalize (y ++ z).length = n at *
  have hd : decide ((y.length : Int) ≤ (n : Int)) = true := decide_eq_true (by omega)
  have k0 : (0 : Int) ≤ (y.length : Int) := by omega
  have k1 : (y.length : Int) ≤ (xc : Int) := by omega
  clear hX hX' hY
  go_enter Try.func37, Try.ntmps37
  go_wp2_with fail
  refine (HS.out).mono ?_
  rintro e w1 ⟨rfl, d, rfl⟩
  rw [beq_self_eq_true]
  go_wp2_with fail
  go_ret
  exact ⟨rfl, d, rfl⟩
end Go.Proofs.Ytmghkonmfbpjcab
