/- Plain law: how many nodes are ahead, counted way by way. No program in sight. -/
import Derived.Test.YtmghkonmfbpjcaaGraphU
import Derived.Test.YtmghkonmfbpjcaaRange
namespace Go.Proofs.Ytmghkonmfbpjcaa
set_option linter.unusedVariables false
set_option linter.unusedSimpArgs false
open Go.RowKit

/-- of the first k nodes, how many lead to m -/
def wcnt (l : List Nd) (k m : Nat) : Nat := (sel (aheadP l m) k).length
theorem wcnt_zero (l : List Nd) (m : Nat) : wcnt l 0 m = 0 := rfl
theorem wcnt_all (l : List Nd) (m : Nat) : wcnt l l.length m = ways l m := by simp [wcnt, ways]
theorem wcnt_le (l : List Nd) (k m : Nat) : wcnt l k m ≤ k := sel_len _ _
/-- the first i ways of a node -/
def wmid (n : Nd) (i m : Nat) : Nat := (if 1 ≤ i ∧ n.t = (m : Int) then 1 else 0) + (if 2 ≤ i ∧ n.e = (m : Int) ∧ n.e ≠ n.t then 1 else 0)
theorem wmid_zero (n : Nd) (m : Nat) : wmid n 0 m = 0 := by simp [wmid]
theorem wcnt_succ {l : List Nd} {k : Nat} {n : Nd} (h : l[k]? = some n) (m : Nat) : wcnt l (k + 1) m = wcnt l k m + wmid n (exitN n.op) m := by
  have hp : aheadP l m k = leadsB n m := aheadP_eq h
  have hw : wmid n (exitN n.op) m = if leadsB n m = true then 1 else 0 := by
    unfold wmid exitN leadsB
    by_cases h12 : n.op = 12
    · simp [h12]
    · by_cases h11 : n.op = 11
      · by_cases ht : n.t = (m : Int)
        · by_cases he : n.e = (m : Int)
          · simp [h11, ht, he]
          · simp [h11, ht, he]
        · by_cases he : n.e = (m : Int)
          · have : n.e ≠ n.t := by omega
            simp [h11, ht, he]
            omega
          · simp [h11, ht, he]
      · by_cases ht : n.t = (m : Int)
        · simp [h12, h11, ht]
        · simp [h12, h11, ht]
  unfold wcnt
  rw [hw]
  cases hl : leadsB n m with
  | true => rw [sel_succ_true (hp.trans hl)]; simp
  | false => rw [sel_succ_false (hp.trans hl)]; simp
/-- the way that was last -/
def lastOf (n : Nd) (i : Nat) : Int := if i = 0 then 0 else if i = 1 then n.t else n.e
theorem wmid_new {n : Nd} {i mm : Nat} (h : (i = 0 ∧ n.t = mm) ∨ (i = 1 ∧ n.e = mm)) (hm : 1 ≤ mm) (hl : (mm : Int) ≠ lastOf n i) (m : Nat) : wmid n (i + 1) m = wmid n i m + (if m = mm then 1 else 0) := by
  rcases h with ⟨rfl, h⟩ | ⟨rfl, h⟩
  · unfold wmid
    rw [h]
    by_cases hmm : m = mm
    · subst hmm; simp
    · have : ¬ ((mm : Int) = (m : Int)) := by omega
      simp [hmm, this]
  · unfold wmid lastOf at *
    simp only [Nat.one_ne_zero, ↓reduceIte] at hl
    rw [h]
    by_cases hmm : m = mm
    · subst hmm
      simp [hl]
    · have : ¬ ((mm : Int) = (m : Int)) := by omega
      simp [hmm, this]
theorem wmid_old {n : Nd} {i mm : Nat} (h : (i = 0 ∧ n.t = mm) ∨ (i = 1 ∧ n.e = mm)) (hm : 1 ≤ mm) (hl : (mm : Int) = lastOf n i) (m : Nat) : wmid n (i + 1) m = wmid n i m := by
  rcases h with ⟨rfl, h⟩ | ⟨rfl, h⟩
  · unfold lastOf at hl
    simp at hl
    omega
  · unfold wmid lastOf at *
    simp only [Nat.one_ne_zero, ↓reduceIte] at hl
    have : n.e = n.t := by omega
    simp [this]
theorem lastOf_succ {n : Nd} {i mm : Nat} (h : (i = 0 ∧ n.t = mm) ∨ (i = 1 ∧ n.e = mm)) : lastOf n (i + 1) = mm := by
  rcases h with ⟨rfl, h⟩ | ⟨rfl, h⟩ <;> simp [lastOf, h]
theorem wmid_le (n : Nd) (i m : Nat) : wmid n i m ≤ 2 := by unfold wmid; split <;> split <;> omega
end Go.Proofs.Ytmghkonmfbpjcaa
