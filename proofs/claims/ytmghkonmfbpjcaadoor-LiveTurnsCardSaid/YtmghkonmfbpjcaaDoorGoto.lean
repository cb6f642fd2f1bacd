/- A scope in which the run jumps back to one label: what holds there bears a number that every pass lowers. No program in sight. -/
import Derived.ScopeJumps
import Derived.WalkMore
import Derived.Deep.LoopGhost
namespace Go.Proofs.YtmghkonmfbpjcaaDoor
set_option linter.unusedVariables false
set_option linter.unusedSimpArgs false

theorem wp_scope_again {P : Program} {a : Act} {w : World} {Q : Exit → Act → World → Prop} {c rest : Code} (l : Nat) (I : Nat → Act → World → Prop) (hf : findLabel c l = some (Code.skip.seq rest))
    (pass : ∀ n a w, I n a w → rest.wp P (Exit.jump l (fun a' w' => ∃ k, k < n ∧ I k a' w') Q) a w)
    (first : (∀ n a w, I n a w → rest.wp P (Exit.jump l (fun a' w' => ∃ k, I k a' w') Q) a w) → c.wp P (Exit.jump l (fun a' w' => ∃ k, I k a' w') Q) a w) : (Code.scope c).wp P Q a w := by
  refine wp_scope_jumps l (fun a w => ∃ n, I n a w) (fun a w => leastOf (fun n => I n a w)) hf (first fun n a w h => wp_mono (pass n a w h) ?_) ?_
  · intro e a' w' hq
    cases e with
    | goto t => exact ⟨hq.1, hq.2.elim fun k h => ⟨k, h.2⟩⟩
    | normal => exact hq
    | exit id => exact hq
    | ret => exact hq
    | panic ch => exact hq
    | outgrown => exact hq
  · intro a w hI
    refine wp_seq (wp_skip ?_)
    refine wp_mono (pass _ a w (leastOf_spec hI).1) ?_
    intro e a' w' hq
    cases e with
    | goto t =>
      obtain ⟨h1, k, hlt, hk⟩ := hq
      exact ⟨h1, ⟨k, hk⟩, Nat.lt_of_le_of_lt ((leastOf_spec ⟨k, hk⟩).2 k hk) hlt⟩
    | normal => exact hq
    | exit id => exact hq
    | ret => exact hq
    | panic ch => exact hq
    | outgrown => exact hq
end Go.Proofs.YtmghkonmfbpjcaaDoor
