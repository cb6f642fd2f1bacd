/- CheckP. -/
import Derived.Test.YtmghkonmfbpjcabGB
import Derived.Test.YtmghkonmfbpjcabGA
set_option linter.unusedVariables false
set_option linter.unusedSimpArgs false
namespace Go.Proofs.Ytmghkonmfbpjcab
section
open Go.RowKit
set_option maxHeartbeats 1000000
def badRr (regs len : Int) (n : Nd) : Bool := hasD n.op && !inB n.d 0 (regs - 1) || hasA n.op && !inB n.a 0 (regs - 1) || hasB n.op && !inB n.b 0 (regs - 1) || hasT n.op && !inB n.t 1 (len - 1) || hasE n.op && !inB n.e 1 (len - 1)
def badFr (n : Nd) : Bool := !hasD n.op && n.d != 0 || !hasA n.op && n.op != 1 && n.a != 0 || !hasB n.op && n.b != 0 || !hasT n.op && n.t != 0 || !hasE n.op && n.e != 0
def chkr (regs : Int) (l : List Nd) : Int :=
  if inB (l.length : Int) 1 256 = false ∨ inB regs 1 64 = false then 2
  else if (l.any fun n => !inB n.op 0 12) = true then 4
  else if (l.any (badRr regs l.length)) = true then 3
  else if (l.any badFr) = true then 1
  else 0
theorem inB_pred (n hi : Int) : inB n 0 (hi - 1) = (decide (0 ≤ n) && decide (n < hi)) := by
  unfold inB
  have : decide (n ≤ hi - 1) = decide (n < hi) := by
    rw [decide_eq_decide]
    omega
  rw [this]
theorem inB_pred1 (n hi : Int) : inB n 1 (hi - 1) = (decide (1 ≤ n) && decide (n < hi)) := by
  unfold inB
  have : decide (n ≤ hi - 1) = decide (n < hi) := by
    rw [decide_eq_decide]
    omega
  rw [this]
theorem any_congr_mem {α : Type} {p q : α → Bool} : ∀ (l : List α), (∀ x ∈ l, p x = q x) → l.any p = l.any q
  | [], _ => rfl
  | x :: l, h => by
    simp only [List.any_cons]
    rw [h x (List.mem_cons_self ..), any_congr_mem l fun y hy => h y (List.mem_cons_of_mem _ hy)]
theorem chkr_eq (regs : Int) (l : List Nd) : chkr regs l = chk regs l := by
  have e0 : (inB (l.length : Int) 1 256 = false ∨ inB regs 1 64 = false) ↔ ((l.length : Int) < 1 ∨ 256 < (l.length : Int) ∨ regs < 1 ∨ 64 < regs) := by
    unfold inB
    simp only [Bool.and_eq_false_iff, decide_eq_false_iff_not]
    omega
  have e1 : (l.any fun n => !inB n.op 0 12) = (l.any fun n => !opOk n.op) := rfl
  unfold chkr chk
  by_cases h : inB (l.length : Int) 1 256 = false ∨ inB regs 1 64 = false
  · simp only [if_pos h, if_pos (e0.1 h)]
  · have h' := mt e0.2 h
    simp only [if_neg h, if_neg h', e1]
    cases hk : (l.any fun n => !opOk n.op)
    · have hall : ∀ x ∈ l, opOk x.op = true := fun x hx => by
        have := List.any_eq_false.1 hk x hx
        simpa using this
      have e1 : l.any (badRr regs l.length) = l.any (badR regs l.length) := any_congr_mem l fun x hx => by
        have hs : shT x.op = hasT x.op := by simp [shT, hasT, hall x hx]
        simp only [badRr, badR, okR, okN, inB_pred, inB_pred1, hs, Bool.not_or, Bool.not_not]
      have e2 : l.any badFr = l.any badF := any_congr_mem l fun x hx => by
        have hs : shT x.op = hasT x.op := by simp [shT, hasT, hall x hx]
        simp only [badFr, badF, okF, hs, isSet]
        simp
        rfl
      rw [e1, e2]
    · rfl
theorem shapes (op : Int) (h : inB op 0 12 = true) :
    (hasD op = false ∧ hasA op = false ∧ hasB op = false ∧ hasT op = true ∧ hasE op = false ∧ (op == 1) = false) ∨
    (hasD op = true ∧ hasA op = false ∧ hasB op = false ∧ hasT op = true ∧ hasE op = false ∧ (op == 1) = true) ∨
    (hasD op = true ∧ hasA op = false ∧ hasB op = false ∧ hasT op = true ∧ hasE op = false ∧ (op == 1) = false) ∨
    (hasD op = true ∧ hasA op = true ∧ hasB op = false ∧ hasT op = true ∧ hasE op = false ∧ (op == 1) = false) ∨
    (hasD op = true ∧ hasA op = true ∧ hasB op = true ∧ hasT op = true ∧ hasE op = false ∧ (op == 1) = false) ∨
    (hasD op = false ∧ hasA op = true ∧ hasB op = false ∧ hasT op = true ∧ hasE op = false ∧ (op == 1) = false) ∨
    (hasD op = false ∧ hasA op = true ∧ hasB op = false ∧ hasT op = true ∧ hasE op = true ∧ (op == 1) = false) ∨
    (hasD op = false ∧ hasA op = true ∧ hasB op = false ∧ hasT op = false ∧ hasE op = false ∧ (op == 1) = false) := by
  have h' : 0 ≤ op ∧ op ≤ 12 := by simpa [inB] using h
  have : op = 0 ∨ op = 1 ∨ op = 2 ∨ op = 3 ∨ op = 4 ∨ op = 5 ∨ op = 6 ∨ op = 7 ∨ op = 8 ∨ op = 9 ∨ op = 10 ∨ op = 11 ∨ op = 12 := by omega
  rcases this with rfl | rfl | rfl | rfl | rfl | rfl | rfl | rfl | rfl | rfl | rfl | rfl | rfl <;> decide
end
end Go.Proofs.Ytmghkonmfbpjcab
