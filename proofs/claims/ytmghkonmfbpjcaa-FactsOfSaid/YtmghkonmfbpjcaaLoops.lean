/- The loops of a function, one after the other, and a frame with letters. No program in sight. -/
import Derived.Test.YtmghkonmfbpjcaaWords
namespace Go.Proofs.Ytmghkonmfbpjcaa
set_option linter.unusedVariables false
open Go.RowKit

/-- the bodies of the outer loops, in order -/
def loopsOf : Code → List Code
  | .loop c => [c]
  | .seq a b => loopsOf a ++ loopsOf b
  | .block _ c => loopsOf c
  | .scope c => loopsOf c
  | .cond _ a b => loopsOf a ++ loopsOf b
  | _ => []
noncomputable def loopAt (c : Option Code) (k : Nat) : Code := ((c.map loopsOf).getD []).getD k .skip
/-- the slots of a frame, as letters -/
def lets (a : Array Value) (j : Nat) : Value := a.getD j undef
/-- a part that goes out by one exit, and does nothing else -/
def onlyExit (n : Nat) (R : Act → World → Prop) : Exit → Act → World → Prop
  | .exit m, a, w => m = n ∧ R a w
  | _, _, _ => False
theorem wp_onlyExit {P : Program} {c : Code} {Q : Exit → Act → World → Prop} {a : Act} {w : World} {n : Nat} (R : Act → World → Prop) (h : c.wp P (onlyExit n R) a w) (hq : ∀ a' w', R a' w' → Q (.exit n) a' w') : c.wp P Q a w :=
  Code.wp_mono (fun e a' w' hr => by
    cases e with
    | exit m => obtain ⟨rfl, hr⟩ := hr; exact hq _ _ hr
    | _ => exact hr.elim) h
end Go.Proofs.Ytmghkonmfbpjcaa
