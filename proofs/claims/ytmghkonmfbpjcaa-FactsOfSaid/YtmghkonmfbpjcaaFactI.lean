/- Plain law: the greatest answer by turns, reckoned; the facts of the small program's sum. No program in sight. -/
import Derived.Test.YtmghkonmfbpjcaaFactQ
import Derived.Test.YtmghkonmfbpjcaaSmall
namespace Go.Proofs.Ytmghkonmfbpjcaa
set_option linter.unusedVariables false
set_option linter.unusedSimpArgs false
open Go.RowKit

def turnL (S : List Bool → Nat → Bool) : Nat → List Bool → List Bool
  | 0, x => x
  | k + 1, x => let y := turnL S k x; y.set k (S y k)
def turnsL (S : List Bool → Nat → Bool) (n : Nat) : Nat → List Bool → List Bool
  | 0, x => x
  | c + 1, x => turnL S n (turnsL S n c x)
theorem turnOk {S : List Bool → Nat → Bool} {n c : Nat} (hm : Mono S) {x : List Bool} (h : Sweep S n c 0 x) : ∀ k, k ≤ n → Sweep S n c k (turnL S k x)
  | 0, _ => h
  | k + 1, hk => (turnOk hm h k (by omega)).step hm (by omega) rfl
theorem turnsOk {S : List Bool → Nat → Bool} {n : Nat} (hm : Mono S) : ∀ c, Sweep S n c 0 (turnsL S n c (List.replicate n true))
  | 0 => by
    unfold turnsL
    exact Sweep.start (by simp) fun i hi => by simp [yn, List.getD_eq_getElem?_getD, List.getElem?_replicate, hi]
  | c + 1 => (turnOk hm (turnsOk hm c) n (Nat.le_refl _)).turn
theorem great_turns {S : List Bool → Nat → Bool} {n : Nat} (hm : Mono S) : Great S n (turnsL S n (n + 1) (List.replicate n true)) := (turnsOk hm (n + 1)).great hm (by omega)
def sumT : Tm := ⟨3, 0, 1⟩
/-- the facts, reckoned -/
def fxOf (t : Tm) (l : List Nd) : Fx :=
  let d := turnsL (flowS true false (recL t l) (keepL t l) (noL l.length) (notL (noL l.length)) l) l.length (l.length + 1) (List.replicate l.length true)
  let u := turnsL (flowS false false (noL l.length) (notL (noL l.length)) (mk l.length fun k => yn (keepL t l) k && yn (recL t l) k) (keepL t l) l) l.length (l.length + 1) (List.replicate l.length true)
  let e := earlyL t l d u
  let y := turnsL (flowS false false e (notL (noL l.length)) (noL l.length) (notL (recL t l)) l) l.length (l.length + 1) (List.replicate l.length true)
  let f := lateL t l y
  ⟨d, u, e, y, f, turnsL (flowS true true (noL l.length) (notL (noL l.length)) f (notL (recL t l)) l) l.length (l.length + 1) (List.replicate l.length true)⟩
theorem fxOf_is (t : Tm) (l : List Nd) : IsFx t l (fxOf t l) :=
  ⟨great_turns (flowS_mono _ _ _ _ _ _ _), great_turns (flowS_mono _ _ _ _ _ _ _), rfl, great_turns (flowS_mono _ _ _ _ _ _ _), rfl, great_turns (flowS_mono _ _ _ _ _ _ _)⟩
theorem fx_small (F : Fx) (h : IsFx sumT smallL F) : F.down = [false, false, true, true, true, true, false] ∧ F.early = [false, false, true, false, false, false, false] ∧ F.delay.length = 7 ∧ yn F.delay 3 = true ∧ yn F.delay 4 = false := by
  have e : F = fxOf sumT smallL := h.unique (fxOf_is _ _)
  subst e
  decide +kernel
end Go.Proofs.Ytmghkonmfbpjcaa
