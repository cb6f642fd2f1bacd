/- Plain law: what a text is read as; the lines of a text. No program in sight. -/
import Derived.Test.YtmghkonmfbpjcabDoorTxN
import Derived.Test.YtmghkonmfbpjcabDoorTxW
namespace Go.Proofs.YtmghkonmfbpjcabDoor
set_option linter.unusedVariables false
set_option linter.unusedSimpArgs false
open Go.Lib

def Fit (l : List Nd) : Prop := ∀ n ∈ l, ∀ i, i < 6 → i64ok (n.fld i)
/-- no right program is shown so -/
def NoText (s : List UInt8) : Prop := ∀ regs l, chk regs l = 0 → Fit l → s ≠ showL regs l
/-- what a text is read as -/
def Got (s : List UInt8) (regs : Int) (l : List Nd) (ok : Bool) : Prop := (ok = true ∧ chk regs l = 0 ∧ Fit l ∧ s = showL regs l) ∨ (ok = false ∧ regs = 0 ∧ l = [] ∧ NoText s)
theorem right_fit {regs : Int} {l : List Nd} (h : chk regs l = 0) (hf : Fit l) : ∀ n ∈ l, Shaped n := fun n hn => right_shaped (right_of_chk h) n hn (hf n hn)
theorem Got.same {s : List UInt8} {r1 r2 : Int} {l1 l2 : List Nd} {k1 k2 : Bool} (h1 : Got s r1 l1 k1) (h2 : Got s r2 l2 k2) : k1 = k2 ∧ r1 = r2 ∧ l1 = l2 := by
  rcases h1 with ⟨a1, b1, c1, d1⟩ | ⟨a1, b1, c1, d1⟩ <;> rcases h2 with ⟨a2, b2, c2, d2⟩ | ⟨a2, b2, c2, d2⟩
  · obtain ⟨e1, e2⟩ := show_inj (right_fit b1 c1) (right_fit b2 c2) (d1.symm.trans d2)
    exact ⟨a1.trans a2.symm, e1, e2⟩
  · exact absurd d1 (d2 _ _ b1 c1)
  · exact absurd d2 (d1 _ _ b2 c2)
  · exact ⟨a1.trans a2.symm, b1.trans b2.symm, c1.trans c2.symm⟩
theorem joinB_lines (x : List UInt8) : ∀ l : List Nd, joinB 10 (x :: (l.map nodeL ++ [[]])) = x ++ 10 :: linesL l := by
  intro l
  induction l generalizing x with
  | nil => rfl
  | cons n r ih =>
    show x ++ 10 :: joinB 10 (nodeL n :: (r.map nodeL ++ [[]])) = _
    rw [ih]
    simp [linesL, lineL]
theorem show_lines {regs : Int} {l : List Nd} (h : ∀ n ∈ l, 0 ≤ n.op ∧ n.op ≤ 12) : splB 10 (showL regs l) = (regsW ++ itoa regs) :: (l.map nodeL ++ [[]]) := by
  have e : showL regs l = joinB 10 ((regsW ++ itoa regs) :: (l.map nodeL ++ [[]])) := by rw [joinB_lines]; rfl
  rw [e]
  refine splB_joinB (by simp) fun x hx => ?_
  rcases List.mem_cons.1 hx with e | e
  · rw [e]
    intro hm
    rcases List.mem_append.1 hm with h1 | h1
    · revert h1; decide
    · exact itoa_clean regs 10 (by decide) h1
  · rcases List.mem_append.1 e with e | e
    · obtain ⟨n, hn, rfl⟩ := List.mem_map.1 e
      exact node_clean (h n hn)
    · rw [List.mem_singleton.1 e]; simp
theorem head_words (regs : Int) : splB 32 (regsW ++ itoa regs) = [[114, 101, 103, 115], itoa regs] := by
  have e : regsW ++ itoa regs = joinB 32 [[114, 101, 103, 115], itoa regs] := by simp [joinB, regsW]
  rw [e]
  refine splB_joinB (by simp) fun x hx => ?_
  rcases List.mem_cons.1 hx with e | e
  · rw [e]; decide
  · rw [List.mem_singleton.1 e]; exact itoa_clean regs 32 (by decide)
/-- what a text's lines are, where it shows a right program -/
theorem text_lines {s : List UInt8} {L : List (List UInt8)} (hL : (splB 10 s).take 259 = L) {regs : Int} {l : List Nd} (hc : chk regs l = 0) (hs : s = showL regs l) :
    L = (regsW ++ itoa regs) :: (l.map nodeL ++ [[]]) ∧ i64ok regs := by
  obtain ⟨h1, h256, hr1, hr64, ho⟩ := chk_small hc
  refine ⟨?_, by constructor <;> omega⟩
  rw [← hL, hs, show_lines ho, List.take_of_length_le]
  simp
  omega
end Go.Proofs.YtmghkonmfbpjcabDoor
