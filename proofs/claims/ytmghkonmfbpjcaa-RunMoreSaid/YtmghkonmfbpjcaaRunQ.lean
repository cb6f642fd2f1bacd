/- Plain law: what a program does, step by step. No program in sight. -/
import Derived.Test.YtmghkonmfbpjcaaRunP
namespace Go.Proofs.Ytmghkonmfbpjcaa
set_option linter.unusedVariables false
set_option linter.unusedSimpArgs false
open Go.RowKit

/-- what a term comes to -/
def reckV (op x y : Int) : Int := if op = 3 then wrap64 (x + y) else if op = 4 then wrap64 (x - y) else if op = 5 then wrap64 (x * y) else if op = 6 then bits .and .i64 x y else if op = 7 then bits .xor .i64 x y else if x < y then 1 else 0
/-- a register -/
def rg (r : List Int) (k : Int) : Int := r.getD k.toNat 0
theorem rg_get {r : List Int} {k : Nat} {z : Int} (h : r[k]? = some z) : rg r (k : Int) = z := by simp [rg, List.getD_eq_getElem?_getD, h]
/-- in the midst of a run -/
structure Rn where
  regs : List Int
  read : Nat
  out : List Int
  ret : Int
  ended : Bool
  steps : Nat
  pos : Nat
  ts : List Tm
def stepR (l : List Nd) (inp : List Int) (s : Rn) : Rn :=
  let n := nd l s.pos
  if n.op = 1 then { s with steps := s.steps + 1, pos := n.t.toNat, regs := s.regs.set n.d.toNat n.a }
  else if n.op = 2 then { s with steps := s.steps + 1, pos := n.t.toNat, regs := s.regs.set n.d.toNat (rg s.regs n.a) }
  else if hasB n.op = true then { s with steps := s.steps + 1, pos := n.t.toNat, regs := s.regs.set n.d.toNat (reckV n.op (rg s.regs n.a) (rg s.regs n.b)), ts := s.ts ++ [n.tm] }
  else if n.op = 9 then (if s.read < inp.length then { s with steps := s.steps + 1, pos := n.t.toNat, regs := s.regs.set n.d.toNat (inp.getD s.read 0), read := s.read + 1 } else { s with steps := s.steps + 1, pos := n.t.toNat, regs := s.regs.set n.d.toNat 0 })
  else if n.op = 10 then { s with steps := s.steps + 1, pos := n.t.toNat, out := s.out ++ [rg s.regs n.a] }
  else if n.op = 11 then (if rg s.regs n.a = 0 then { s with steps := s.steps + 1, pos := n.e.toNat } else { s with steps := s.steps + 1, pos := n.t.toNat })
  else if n.op = 12 then { s with steps := s.steps + 1, pos := n.t.toNat, ret := rg s.regs n.a, ended := true }
  else { s with steps := s.steps + 1, pos := n.t.toNat }
theorem stepR_steps (l : List Nd) (inp : List Int) (s : Rn) : (stepR l inp s).steps = s.steps + 1 := by
  unfold stepR
  simp only
  repeat' split
  all_goals rfl
def goR (l : List Nd) (inp : List Int) : Nat → Rn → Rn
  | 0, s => s
  | k + 1, s => if s.ended = true then s else goR l inp k (stepR l inp s)
theorem goR_ended {l : List Nd} {inp : List Int} {s : Rn} (h : s.ended = true) : ∀ k, goR l inp k s = s
  | 0 => rfl
  | k + 1 => by rw [goR, if_pos h]
theorem goR_step {l : List Nd} {inp : List Int} {s : Rn} (h : s.ended = false) (k : Nat) : goR l inp (k + 1) s = goR l inp k (stepR l inp s) := by rw [goR, if_neg (by rw [h]; simp)]
def startR (regs : Int) : Rn := ⟨List.replicate regs.toNat 0, 0, [], 0, false, 0, 0, []⟩
/-- a run -/
def runR (regs : Int) (l : List Nd) (inp : List Int) (fuel : Nat) : Rn := goR l inp fuel (startR regs)
/-- what is so in the midst of a run -/
structure RnOk (regs : Int) (l : List Nd) (inp : List Int) (s : Rn) : Prop where
  regs : s.regs.length = regs.toNat
  pos : s.pos < l.length
  read : s.read ≤ inp.length
  out : s.out.length ≤ s.steps
  ts : s.ts.length ≤ s.steps
  key : ∀ t ∈ s.ts, ∃ n ∈ l, hasB n.op = true ∧ t = n.tm
theorem RnOk.start {regs : Int} {l : List Nd} {inp : List Int} (hR : Right regs l) : RnOk regs l inp (startR regs) :=
  ⟨by simp [startR], hR.lo, Nat.zero_le _, Nat.le_refl _, Nat.le_refl _, fun t ht => by cases ht⟩
theorem Right.pos_ {regs : Int} {l : List Nd} (hR : Right regs l) {n : Nd} (hn : n ∈ l) : n.t.toNat < l.length := by
  by_cases h12 : n.op = 12
  · have h := hR.frm n hn
    have h0 : n.t = 0 := by
      simp only [badF, okF, shT, h12, Bool.or_eq_false_iff, Bool.not_eq_false', Bool.or_eq_true, beq_iff_eq] at h
      rcases h.1.2 with e | e
      · simp at e
      · exact e
    have := hR.lo
    rw [h0]
    show 0 < l.length
    omega
  · have := hR.then_ hn h12
    omega
theorem RnOk.step {regs : Int} {l : List Nd} {inp : List Int} {s : Rn} (hR : Right regs l) (h : RnOk regs l inp s) : RnOk regs l inp (stepR l inp s) := by
  obtain ⟨h1, h2, h3, h4, h5, h6⟩ := h
  have hg : l[s.pos]? = some (nd l s.pos) := by rw [nd, List.getD_eq_getElem?_getD, List.getElem?_eq_getElem h2]; rfl
  have hn := List.mem_of_getElem? hg
  have hp := hR.pos_ hn
  generalize nd l s.pos = n at hg hn hp
  have hnd : nd l s.pos = n := nd_get hg
  unfold stepR
  simp only [hnd]
  split
  · exact ⟨by simpa using h1, hp, h3, Nat.le_succ_of_le h4, Nat.le_succ_of_le h5, h6⟩
  split
  · exact ⟨by simpa using h1, hp, h3, Nat.le_succ_of_le h4, Nat.le_succ_of_le h5, h6⟩
  split
  · rename_i hB
    refine ⟨by simpa using h1, hp, h3, Nat.le_succ_of_le h4, by simp; omega, fun t ht => ?_⟩
    rcases List.mem_append.1 ht with e | e
    · exact h6 t e
    · exact ⟨n, hn, hB, by simpa using e⟩
  split
  · split
    · exact ⟨by simpa using h1, hp, by show s.read + 1 ≤ _; omega, Nat.le_succ_of_le h4, Nat.le_succ_of_le h5, h6⟩
    · exact ⟨by simpa using h1, hp, h3, Nat.le_succ_of_le h4, Nat.le_succ_of_le h5, h6⟩
  split
  · exact ⟨h1, hp, h3, by simp; omega, Nat.le_succ_of_le h5, h6⟩
  split
  · rename_i h11
    split
    · have := hR.else_ hn h11
      exact ⟨h1, by show n.e.toNat < _; omega, h3, Nat.le_succ_of_le h4, Nat.le_succ_of_le h5, h6⟩
    · exact ⟨h1, hp, h3, Nat.le_succ_of_le h4, Nat.le_succ_of_le h5, h6⟩
  split
  · exact ⟨h1, hp, h3, Nat.le_succ_of_le h4, Nat.le_succ_of_le h5, h6⟩
  · exact ⟨h1, hp, h3, Nat.le_succ_of_le h4, Nat.le_succ_of_le h5, h6⟩
end Go.Proofs.Ytmghkonmfbpjcaa
