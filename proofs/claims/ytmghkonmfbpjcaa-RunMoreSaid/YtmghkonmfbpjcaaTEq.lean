/- Whether two terms are the same, as the program asks it. -/
import Derived.Test.YtmghkonmfbpjcaaTRow
import Derived.Test.YtmghkonmfbpjcaaOps
import Derived.Laws.StructEq
namespace Go.Proofs.Ytmghkonmfbpjcaa
set_option linter.unusedVariables false
set_option linter.unusedSimpArgs false
open Go.RowKit
set_option maxHeartbeats 4000000

def Tm.val (n : Tm) : Value := .agg #[.int .i64 n.op, .int .i64 n.a, .int .i64 n.b]
theorem run_eq_term (x y : Tm) (w : World) : (Op.equalIn 10000 47 x.val y.val).run Try.prog w = .ok (x == y) w := by
  have u3 := Try.underlying3
  have a3 : ∀ w, (isAgg 3).run Try.prog w = .ok false w := fun w => by kernel_rfl
  have z3 : ∀ w, (sizeOf 3).run Try.prog w = .ok 1 w := fun w => by kernel_rfl
  have hS : Try.prog.underlying 47 = some (.struct (Try.prog.fieldsOf 47)) := by kernel_rfl
  have hp : Try.prog.stoodInHeld 47 = false := by kernel_rfl
  obtain ⟨x0, x1, x2⟩ := x
  obtain ⟨y0, y1, y2⟩ := y
  simp only [Tm.val]
  rw [show (10000 : Nat) = 9999 + 1 from rfl, run_equalIn_agg w 9999 47 _ _ hS hp]
  simp only [Program.fieldsOf, Try.underlying47]
  go_simp
  have hb : ((⟨x0, x1, x2⟩ : Tm) == ⟨y0, y1, y2⟩) = (x0 == y0 && (x1 == y1 && x2 == y2)) := by
    rw [Bool.eq_iff_iff]
    simp
  rw [hb]
  by_cases h0 : x0 = y0 <;> by_cases h1 : x1 = y1 <;> by_cases h2 : x2 = y2 <;> simp [h0, h1, h2]
theorem guardTerm : Try.prog.eqGuardType Try.prog.depth 47 = false := by kernel_rfl
theorem infoTerm : (Try.prog.info? 47).map (fun i => (i.zero, i.size, i.bytes)) = some (some (.agg #[.int .i64 0, .int .i64 0, .int .i64 0]), 3, 24) := by kernel_rfl

theorem contains_snoc (a : List Tm) (y t : Tm) : (a ++ [y]).contains t = (a.contains t || (y == t)) := by
  rw [Bool.eq_iff_iff]
  simp only [List.contains_iff_mem, List.mem_append, List.mem_singleton, Bool.or_eq_true, beq_iff_eq]
  exact or_congr_right eq_comm
end Go.Proofs.Ytmghkonmfbpjcaa
