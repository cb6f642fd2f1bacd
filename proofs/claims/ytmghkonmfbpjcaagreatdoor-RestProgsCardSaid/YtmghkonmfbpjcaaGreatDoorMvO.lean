/- Parts. -/
import Derived.Test.YtmghkonmfbpjcaaGreatDoorMvS
set_option linter.unusedVariables false
set_option linter.unusedSimpArgs false
set_option maxRecDepth 100000
namespace Go.Proofs.YtmghkonmfbpjcaaGreatDoor
open Go.RowKit
def eI (l : List Nd) : List Nd := gA (iL l)
theorem qV {regs : Int} {l : List Nd} (h : chk regs l = 0) (h2 : (eI l).length ≤ 256) : bN regs (eI l) := ((bS h).trim).split h2
theorem fxE_q {regs : Int} {l q : List Nd} {t : Tm} (h : fxE regs l t = 0) (hR : bN regs q) : fxE regs q t = 0 := by (
 have hc := hR.chk
 have h1 := lS h
 unfold fxE at *
 rw [if_neg (by simp [h1])] at h
 rw [if_neg (by simp [hc])]
 exact h)
def iA (t : Tm) (l : List Nd) : List Bool := bMH (eI l) (bMR t (eI l))
def gZ (t : Tm) (l : List Nd) : List Bool := bHP t (eI l) (bMR t (eI l))
def mD (t : Tm) (l : List Nd) : Bool := (iA t l ++ gZ t l).any id
theorem rR (t : Tm) (l : List Nd) : (iA t l).length = (eI l).length := dC _ _
theorem rQ (t : Tm) (l : List Nd) : (gZ t l).length = (eI l).length := dC _ _
def fU (regs : Int) (l : List Nd) (t : Tm) : Int :=
 if fxE regs l t ≠ 0 then fxE regs l t else if 256 < (eI l).length then 2 else if mD t l = true then maE regs (eI l) t (iA t l) (gZ t l) else 0
def oK (regs : Int) (l : List Nd) (t : Tm) : Int := if mD t l = true then regs + 1 else regs
def oL (regs : Int) (l : List Nd) (t : Tm) : List Nd := if mD t l = true then dE regs t (iA t l) (gZ t l) (eI l) else l
def nZ (tN : TypeId) (regs : Int) (l : List Nd) (t : Tm) (w : World) (e : Ending) (w' : World) : Prop :=
 Below w.heap.size w w' ∧ ((fU regs l t ≠ 0 ∧ e = .returned (.tuple #[.agg #[.int .i64 0, .slice none 0 0], .int .i64 (fU regs l t)])) ∨
  (fU regs l t = 0 ∧ ∃ v, e = .returned (.tuple #[.agg #[.int .i64 (oK regs l t), v], .int .i64 0]) ∧ bK w' w.heap.size tN v (oL regs l t)))
theorem bMF {regs : Int} {l : List Nd} {t : Tm} (F : Fx) (hR : bN regs l) (ht : 3 ≤ t.op ∧ t.op ≤ 8) : bMG t l F = bHP t l F := by (
 unfold bMG bHP
 refine bMD fun k hk => ?_
 have hn : l[k]? = some (nd l k) := by rw [nd, Vt, Vs hk]; rfl
 rw [bFD hR (Vv hn) ht]
 cases fJ t (nd l k) <;> cases yn F.late k <;> cases yn F.alone k <;> rfl)
end Go.Proofs.YtmghkonmfbpjcaaGreatDoor
