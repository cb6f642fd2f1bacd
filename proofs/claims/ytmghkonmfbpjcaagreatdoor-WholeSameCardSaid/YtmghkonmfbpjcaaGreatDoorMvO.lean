/- MvO. -/
import Derived.Test.YtmghkonmfbpjcaaGreatDoorGE
import Derived.Test.YtmghkonmfbpjcaaGreatDoorMvS
import Derived.Test.YtmghkonmfbpjcaaGreatDoorGF
import Derived.Test.YtmghkonmfbpjcaaGreatDoorGA
set_option linter.unusedVariables false
set_option linter.unusedSimpArgs false
namespace Go.Proofs.YtmghkonmfbpjcaaGreatDoor
section
open Go.RowKit
def oneQ (l : List Nd) : List Nd := splitL (trimL l)
theorem oneQ_right {regs : Int} {l : List Nd} (h : chk regs l = 0) (h2 : (oneQ l).length ≤ 256) : Right regs (oneQ l) := ((right_of_chk h).trim).split h2
theorem fxE_q {regs : Int} {l q : List Nd} {t : Tm} (h : fxE regs l t = 0) (hR : Right regs q) : fxE regs q t = 0 := by (
 have hc := hR.chk
 have h1 := fxE_chk h
 unfold fxE at *
 rw [if_neg (by simp [h1])] at h
 rw [if_neg (by simp [hc])]
 exact h)
def oneX (t : Tm) (l : List Nd) : List Bool := lazyX (oneQ l) (fxOf t (oneQ l))
def oneY (t : Tm) (l : List Nd) : List Bool := lazyY t (oneQ l) (fxOf t (oneQ l))
def oneAny (t : Tm) (l : List Nd) : Bool := (oneX t l ++ oneY t l).any id
theorem oneX_len (t : Tm) (l : List Nd) : (oneX t l).length = (oneQ l).length := mk_len _ _
theorem oneY_len (t : Tm) (l : List Nd) : (oneY t l).length = (oneQ l).length := mk_len _ _
def oneE (regs : Int) (l : List Nd) (t : Tm) : Int :=
 if fxE regs l t ≠ 0 then fxE regs l t else if 256 < (oneQ l).length then 2 else if oneAny t l = true then maE regs (oneQ l) t (oneX t l) (oneY t l) else 0
def oneR (regs : Int) (l : List Nd) (t : Tm) : Int := if oneAny t l = true then regs + 1 else regs
def oneL (regs : Int) (l : List Nd) (t : Tm) : List Nd := if oneAny t l = true then applyL regs t (oneX t l) (oneY t l) (oneQ l) else l
def OnePost (tN : TypeId) (regs : Int) (l : List Nd) (t : Tm) (w : World) (e : Ending) (w' : World) : Prop :=
 Below w.heap.size w w' ∧ ((oneE regs l t ≠ 0 ∧ e = .returned (.tuple #[.agg #[.int .i64 0, .slice none 0 0], .int .i64 (oneE regs l t)])) ∨
  (oneE regs l t = 0 ∧ ∃ v, e = .returned (.tuple #[.agg #[.int .i64 (oneR regs l t), v], .int .i64 0]) ∧ NRow w' w.heap.size tN v (oneL regs l t)))
end
end Go.Proofs.YtmghkonmfbpjcaaGreatDoor
