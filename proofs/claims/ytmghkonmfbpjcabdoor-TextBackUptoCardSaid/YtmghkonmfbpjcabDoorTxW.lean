/- Plain law: a node's text part by part; what a checked program is. -/
import Derived.Test.YtmghkonmfbpjcabDoorTxV
namespace Go.Proofs.YtmghkonmfbpjcabDoor
set_option linter.unusedVariables false
set_option linter.unusedSimpArgs false
open Go.RowKit
open Go.Lib

theorem joinB_flat (c : UInt8) (x : List UInt8) : ∀ (ws : List (List UInt8)), joinB c (x :: ws) = x ++ ws.flatMap fun y => c :: y
  | [] => by simp [joinB]
  | y :: r => by
    show x ++ c :: joinB c (y :: r) = _
    rw [joinB_flat c y r]
    simp
/-- a part's text -/
def partT (n : Nd) (p : List UInt8 × Nat) : List UInt8 := (if p.1 = [] then [] else 32 :: p.1) ++ 32 :: itoa (n.fld p.2)
theorem nodeL_parts (n : Nd) : nodeL n = opW n.op ++ (partsL n.op).flatMap (partT n) := by
  unfold nodeL wordsL
  rw [joinB_flat, List.flatMap_assoc]
  congr 1
  congr 1
  funext p
  unfold partW partT
  split <;> simp
theorem flat_take_len {α : Type} (f : α → List UInt8) (l : List α) (j : Nat) : ((l.take j).flatMap f).length ≤ (l.flatMap f).length := by
  conv => rhs; rw [← List.take_append_drop j l]
  rw [List.flatMap_append, List.length_append]
  omega
theorem flat_take_succ {α : Type} (f : α → List UInt8) {l : List α} {j : Nat} {p : α} (h : l[j]? = some p) : (l.take (j + 1)).flatMap f = (l.take j).flatMap f ++ f p := by
  rw [List.take_add_one, h]
  simp
theorem pairs_get {α : Type} (f g : α → Value) : ∀ (l : List α) (j : Nat) (p : α), l[j]? = some p → (l.flatMap fun p => [f p, g p])[j * 2]? = some (f p) ∧ (l.flatMap fun p => [f p, g p])[j * 2 + 1]? = some (g p)
  | [], j, p, h => by simp at h
  | x :: l, 0, p, h => by
    have : x = p := by simpa using h
    subst this
    simp
  | x :: l, j + 1, p, h => by
    have ih := pairs_get f g l j p (by simpa using h)
    rw [show (j + 1) * 2 = j * 2 + 2 by omega]
    simpa using ih
theorem chk_small {regs : Int} {l : List Nd} (h : chk regs l = 0) : 1 ≤ l.length ∧ l.length ≤ 256 ∧ 1 ≤ regs ∧ regs ≤ 64 ∧ ∀ n ∈ l, 0 ≤ n.op ∧ n.op ≤ 12 := by
  unfold chk at h
  split at h
  · omega
  · rename_i h1
    split at h
    · omega
    · rename_i h2
      refine ⟨by omega, by omega, by omega, by omega, fun n hn => ?_⟩
      have : opOk n.op = true := by
        cases ho : opOk n.op
        · exact absurd (List.any_eq_true.2 ⟨n, hn, by simp [ho]⟩) h2
        · rfl
      simpa [opOk, inB] using this
end Go.Proofs.YtmghkonmfbpjcabDoor
