/- Parts. -/
import Derived.Test.YtmghkonmfbpjcabGreatDoorMvS
set_option linter.unusedVariables false
set_option linter.unusedSimpArgs false
set_option maxRecDepth 100000
namespace Go.Proofs.YtmghkonmfbpjcabGreatDoor
open Go.RowKit
def eK (l : List Nd) : List Nd := gA (iS l)
theorem rE {regs : Int} {l : List Nd} (h : chk regs l = 0) (h2 : (eK l).length ≤ 256) : bM regs (eK l) := ((bS h).trim).split h2
theorem fxE_q {regs : Int} {l q : List Nd} {t : Tm} (h : fxE regs l t = 0) (hR : bM regs q) : fxE regs q t = 0 := by (
 have hc := hR.chk
 have h1 := mH h
 unfold fxE at *
 rw [if_neg (by simp [h1])] at h
 rw [if_neg (by simp [hc])]
 exact h)
def iE (t : Tm) (l : List Nd) : List Bool := bNH (eK l) (bNT t (eK l))
def iD (t : Tm) (l : List Nd) : List Bool := bII t (eK l) (bNT t (eK l))
def mN (t : Tm) (l : List Nd) : Bool := (iE t l ++ iD t l).any id
theorem rY (t : Tm) (l : List Nd) : (iE t l).length = (eK l).length := dD _ _
theorem rX (t : Tm) (l : List Nd) : (iD t l).length = (eK l).length := dD _ _
def gH (regs : Int) (l : List Nd) (t : Tm) : Int :=
 if fxE regs l t ≠ 0 then fxE regs l t else if 256 < (eK l).length then 2 else if mN t l = true then maE regs (eK l) t (iE t l) (iD t l) else 0
def pG (regs : Int) (l : List Nd) (t : Tm) : Int := if mN t l = true then regs + 1 else regs
def pH (regs : Int) (l : List Nd) (t : Tm) : List Nd := if mN t l = true then dF regs t (iE t l) (iD t l) (eK l) else l
def sL (tN : TypeId) (regs : Int) (l : List Nd) (t : Tm) (w : World) (e : Ending) (w' : World) : Prop :=
 Below w.heap.size w w' ∧ ((gH regs l t ≠ 0 ∧ e = .returned (.tuple #[.agg #[.int .i64 0, .slice none 0 0], .int .i64 (gH regs l t)])) ∨
  (gH regs l t = 0 ∧ ∃ v, e = .returned (.tuple #[.agg #[.int .i64 (pG regs l t), v], .int .i64 0]) ∧ cO w' w.heap.size tN v (pH regs l t)))
theorem bNF {regs : Int} {l : List Nd} {t : Tm} (F : Fx) (hR : bM regs l) (ht : 3 ≤ t.op ∧ t.op ≤ 8) : bNG t l F = bII t l F := by (
 unfold bNG bII
 refine bNB fun k hk => ?_
 have hn : l[k]? = some (nd l k) := by rw [nd, Vy, Vx hk]; rfl
 rw [bFY hR (V4 hn) ht]
 cases fJ t (nd l k) <;> cases yn F.late k <;> cases yn F.alone k <;> rfl)
end Go.Proofs.YtmghkonmfbpjcabGreatDoor
