/- The reference's SameFacts, of facts that are the same. -/
import Derived.Test.YtmghkonmfbpjcaaSameB
import Derived.Test.YtmghkonmfbpjcaaOps
namespace Go.Proofs.Ytmghkonmfbpjcaa
set_option linter.unusedVariables false
set_option linter.unusedSimpArgs false
open Go.RowKit
set_option maxHeartbeats 2000000

theorem SameFacts_any (x0 x1 x2 x3 x4 x5 : List Bool) (A0 A1 A2 A3 A4 A5 B0 B1 B2 B3 B4 B5 : Option Addr) (c0 c1 c2 c3 c4 c5 d0 d1 d2 d3 d4 d5 : Nat) (w : World)
    (h0 : ValsAt w A0 (bools x0)) (h1 : ValsAt w A1 (bools x1)) (h2 : ValsAt w A2 (bools x2)) (h3 : ValsAt w A3 (bools x3)) (h4 : ValsAt w A4 (bools x4)) (h5 : ValsAt w A5 (bools x5))
    (g0 : ValsAt w B0 (bools x0)) (g1 : ValsAt w B1 (bools x1)) (g2 : ValsAt w B2 (bools x2)) (g3 : ValsAt w B3 (bools x3)) (g4 : ValsAt w B4 (bools x4)) (g5 : ValsAt w B5 (bools x5))
    (l0 : x0.length ≤ maxLen) (l1 : x1.length ≤ maxLen) (l2 : x2.length ≤ maxLen) (l3 : x3.length ≤ maxLen) (l4 : x4.length ≤ maxLen) (l5 : x5.length ≤ maxLen) :
    Calls Try.prog 32 #[.agg #[.slice A0 x0.length c0, .slice A1 x1.length c1, .slice A2 x2.length c2, .slice A3 x3.length c3, .slice A4 x4.length c4, .slice A5 x5.length c5],
      .agg #[.slice B0 x0.length d0, .slice B1 x1.length d1, .slice B2 x2.length d2, .slice B3 x3.length d3, .slice B4 x4.length d4, .slice B5 x5.length d5]] w fun e w' => e = .returned (.bool true) ∧ Below w.heap.size w w' := by
  have hS : ∀ (W : World) (hW : Below w.heap.size w W) (x : List Bool) (A B : Option Addr) (c d : Nat), ValsAt w A (bools x) → ValsAt w B (bools x) → x.length ≤ maxLen →
      Calls Try.prog 18 #[.slice A x.length c, .slice B x.length d] W fun e w' => e = .returned (.bool true) ∧ ∃ d, w' = W.drewN d := fun W hW x A B c d ha hb hl => by
    have h := SameBools_any A B c d x x W (ha.below hW) (hb.below hW) hl hl
    rwa [show (x == x) = true by simp] at h
  have HS := hide hS
  clear hS
  go_enter Try.func32, Try.ntmps32
  go_wp2_with (go_at_call 18; refine (HS.out _ (by repeat (first | (with_reducible exact Below.refl _ _) | (with_reducible assumption) | (with_reducible refine Below.drew ?_) | (with_reducible refine below_drewN ?_ _) | (with_reducible refine Below.alloc ?_ (by simp <;> omega) _))) _ _ _ _ _ (by assumption) (by assumption) (by assumption)).mono ?_; rintro e w1 ⟨rfl, d, rfl⟩)
  go_ret
  exact ⟨rfl, (by repeat (first | (with_reducible exact Below.refl _ _) | (with_reducible assumption) | (with_reducible refine Below.drew ?_) | (with_reducible refine below_drewN ?_ _) | (with_reducible refine Below.alloc ?_ (by simp <;> omega) _)))⟩
end Go.Proofs.Ytmghkonmfbpjcaa
