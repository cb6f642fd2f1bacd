/- Plain law: with more fuel a run that ended is the same; one that did not tells what it told, and maybe more. No program in sight. -/
import Derived.Test.YtmghkonmfbpjcaaRunQ
namespace Go.Proofs.Ytmghkonmfbpjcaa
set_option linter.unusedVariables false
set_option linter.unusedSimpArgs false
open Go.RowKit

theorem stepR_out (l : List Nd) (inp : List Int) (s : Rn) : ∃ x, (stepR l inp s).out = s.out ++ x := by
  unfold stepR
  simp only
  split
  · exact ⟨[], by simp⟩
  split
  · exact ⟨[], by simp⟩
  split
  · exact ⟨[], by simp⟩
  split
  · split
    · exact ⟨[], by simp⟩
    · exact ⟨[], by simp⟩
  split
  · exact ⟨_, rfl⟩
  split
  · split
    · exact ⟨[], by simp⟩
    · exact ⟨[], by simp⟩
  split
  · exact ⟨[], by simp⟩
  · exact ⟨[], by simp⟩
theorem goR_add (l : List Nd) (inp : List Int) : ∀ (k m : Nat) (s : Rn), goR l inp (k + m) s = goR l inp m (goR l inp k s)
  | 0, m, s => by rw [Nat.zero_add]; rfl
  | k + 1, m, s => by
    rw [show k + 1 + m = (k + m) + 1 by omega]
    by_cases h : s.ended = true
    · rw [goR_ended h, goR_ended h, goR_ended h]
    · have h : s.ended = false := by simpa using h
      rw [goR_step h, goR_step h]
      exact goR_add l inp k m _
theorem goR_out (l : List Nd) (inp : List Int) : ∀ (k : Nat) (s : Rn), ∃ x, (goR l inp k s).out = s.out ++ x
  | 0, s => ⟨[], by simp [goR]⟩
  | k + 1, s => by
    by_cases h : s.ended = true
    · rw [goR_ended h]; exact ⟨[], by simp⟩
    · have h : s.ended = false := by simpa using h
      rw [goR_step h]
      obtain ⟨x, hx⟩ := goR_out l inp k (stepR l inp s)
      obtain ⟨y, hy⟩ := stepR_out l inp s
      exact ⟨y ++ x, by rw [hx, hy, List.append_assoc]⟩
theorem goR_ge (l : List Nd) (inp : List Int) : ∀ (k : Nat) (s : Rn), s.steps ≤ (goR l inp k s).steps
  | 0, s => Nat.le_refl _
  | k + 1, s => by
    by_cases h : s.ended = true
    · rw [goR_ended h]; exact Nat.le_refl _
    · have h : s.ended = false := by simpa using h
      rw [goR_step h]
      have := goR_ge l inp k (stepR l inp s)
      rw [stepR_steps] at this
      omega
theorem goR_steps (l : List Nd) (inp : List Int) : ∀ (k : Nat) (s : Rn), (goR l inp k s).ended = false → (goR l inp k s).steps = s.steps + k
  | 0, s, _ => rfl
  | k + 1, s, h => by
    by_cases h0 : s.ended = true
    · rw [goR_ended h0, h0] at h; cases h
    · have h0 : s.ended = false := by simpa using h0
      rw [goR_step h0] at h ⊢
      rw [goR_steps l inp k _ h, stepR_steps]
      omega
theorem more_ended {regs : Int} {l : List Nd} {inp : List Int} {n : Nat} (h : (runR regs l inp n).ended = true) (m : Nat) : runR regs l inp (n + m) = runR regs l inp n := by
  unfold runR at *
  rw [goR_add, goR_ended h]
theorem more_not {regs : Int} {l : List Nd} {inp : List Int} {n : Nat} (h : (runR regs l inp n).ended = false) (m : Nat) :
    (runR regs l inp n).steps = n ∧ (∃ x, (runR regs l inp (n + m)).out = (runR regs l inp n).out ++ x) ∧ n ≤ (runR regs l inp (n + m)).steps := by
  unfold runR at *
  have h1 := goR_steps l inp n _ h
  have h2 : (goR l inp n (startR regs)).steps = n := by rw [h1]; show 0 + n = n; omega
  refine ⟨h2, ?_, ?_⟩
  · rw [goR_add]; exact goR_out l inp m _
  · rw [goR_add]
    have := goR_ge l inp m (goR l inp n (startR regs))
    omega
/-- which of n things a raw number speaks of -/
def chV (c n : Int) : Int := (if c < 0 then -(c + 1) else c) % n
theorem chV_in (c : Int) {n : Int} (hn : 0 < n) : 0 ≤ chV c n ∧ chV c n < n := ⟨Int.emod_nonneg _ (by omega), Int.emod_lt_of_pos _ hn⟩
end Go.Proofs.Ytmghkonmfbpjcaa
