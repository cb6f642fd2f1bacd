/- Plain law: operations, checked programs, where nodes lead. No program in sight. -/
import Derived.Test.YtmghkonmfbpjcabDoorWords
namespace Go.Proofs.YtmghkonmfbpjcabDoor
set_option linter.unusedVariables false
set_option linter.unusedSimpArgs false
open Go.RowKit

def inB (n lo hi : Int) : Bool := decide (lo ≤ n) && decide (n ≤ hi)
def opOk (op : Int) : Bool := inB op 0 12
def hasD (op : Int) : Bool := inB op 1 9
def hasA (op : Int) : Bool := inB op 2 8 || inB op 10 12
def hasB (op : Int) : Bool := inB op 3 8
def isSet (op : Int) : Bool := op == 1
def hasT (op : Int) : Bool := op != 12
def hasE (op : Int) : Bool := op == 11
def shT (op : Int) : Bool := opOk op && op != 12


/-- where a node goes on -/
def exitsL (n : Nd) : List Int := if n.op = 12 then [] else if n.op = 11 ∧ n.e ≠ n.t then [n.t, n.e] else [n.t]

theorem exitsL_len (n : Nd) : (exitsL n).length ≤ 2 := by
  unfold exitsL
  split
  · simp
  · split <;> simp


def okR (regs n : Int) (has : Bool) : Bool := !has || (decide (0 ≤ n) && decide (n < regs))
def okN (len n : Int) (has : Bool) : Bool := !has || (decide (1 ≤ n) && decide (n < len))
def okF (n : Int) (has : Bool) : Bool := has || n == 0


def badR (regs len : Int) (n : Nd) : Bool := !okR regs n.d (hasD n.op) || !okR regs n.a (hasA n.op) || !okR regs n.b (hasB n.op) || !okN len n.t (shT n.op) || !okN len n.e (hasE n.op)
def badF (n : Nd) : Bool := !okF n.d (hasD n.op) || !okF n.a (hasA n.op || isSet n.op) || !okF n.b (hasB n.op) || !okF n.t (shT n.op) || !okF n.e (hasE n.op)
def chk (regs : Int) (l : List Nd) : Int :=
  if (l.length : Int) < 1 ∨ 256 < (l.length : Int) ∨ regs < 1 ∨ 64 < regs then 2
  else if (l.any fun n => !opOk n.op) = true then 4
  else if (l.any (badR regs l.length)) = true then 3
  else if (l.any badF) = true then 1
  else 0


def leadsB (n : Nd) (m : Int) : Bool := n.op != 12 && n.t == m || n.op == 11 && n.e == m

/-- the numbers below k of which it is so -/
def sel (p : Nat → Bool) (k : Nat) : List Int := ((List.range k).filter p).map Int.ofNat
theorem sel_succ_true {p : Nat → Bool} {k : Nat} (h : p k = true) : sel p (k + 1) = sel p k ++ [(k : Int)] := by
  simp [sel, List.range_succ, List.filter_append, h]
theorem sel_succ_false {p : Nat → Bool} {k : Nat} (h : p k = false) : sel p (k + 1) = sel p k := by
  simp [sel, List.range_succ, List.filter_append, h]
theorem sel_len (p : Nat → Bool) (k : Nat) : (sel p k).length ≤ k := by
  unfold sel
  rw [List.length_map]
  have := List.length_filter_le p (List.range k)
  simpa using this
theorem mem_sel {p : Nat → Bool} {k : Nat} {m : Int} : m ∈ sel p k ↔ ∃ i : Nat, i < k ∧ p i = true ∧ m = i := by
  unfold sel
  simp only [List.mem_map, List.mem_filter, List.mem_range]
  constructor
  · rintro ⟨i, ⟨h1, h2⟩, rfl⟩; exact ⟨i, h1, h2, rfl⟩
  · rintro ⟨i, h1, h2, rfl⟩; exact ⟨i, ⟨h1, h2⟩, rfl⟩

def nextP (l : List Nd) (n : Nat) (m : Nat) : Bool := match l[n]? with | some x => leadsB x m | none => false
def aheadP (l : List Nd) (n : Nat) (m : Nat) : Bool := match l[m]? with | some x => leadsB x n | none => false
theorem nextP_eq {l : List Nd} {n : Nat} {x : Nd} (h : l[n]? = some x) (m : Nat) : nextP l n m = leadsB x m := by simp [nextP, h]
theorem aheadP_eq {l : List Nd} {n m : Nat} {x : Nd} (h : l[m]? = some x) : aheadP l n m = leadsB x n := by simp [aheadP, h]


structure Right (regs : Int) (l : List Nd) : Prop where
  lo : 1 ≤ l.length
  hi : l.length ≤ 256
  rlo : 1 ≤ regs
  rhi : regs ≤ 64
  ok : ∀ n ∈ l, opOk n.op = true
  rng : ∀ n ∈ l, badR regs l.length n = false
  frm : ∀ n ∈ l, badF n = false
theorem right_of_chk {regs : Int} {l : List Nd} (h : chk regs l = 0) : Right regs l := by
  unfold chk at h
  split at h
  · cases h
  · rename_i h1
    split at h
    · cases h
    · rename_i h2
      split at h
      · cases h
      · rename_i h3
        split at h
        · cases h
        · rename_i h4
          refine ⟨by omega, by omega, by omega, by omega, fun n hn => ?_, fun n hn => ?_, fun n hn => ?_⟩
          · have := List.any_eq_false.1 (Bool.not_eq_true _ ▸ h2) n hn
            simpa using this
          · have := List.any_eq_false.1 (Bool.not_eq_true _ ▸ h3) n hn
            simpa using this
          · have := List.any_eq_false.1 (Bool.not_eq_true _ ▸ h4) n hn
            simpa using this
theorem Right.then_ {regs : Int} {l : List Nd} (h : Right regs l) {n : Nd} (hn : n ∈ l) (h12 : n.op ≠ 12) : 1 ≤ n.t ∧ n.t < l.length := by
  have h1 := h.rng n hn
  have h2 := h.ok n hn
  simp only [badR, Bool.or_eq_false_iff, Bool.not_eq_false'] at h1
  have h3 := h1.1.2
  have h4 : shT n.op = true := by simp [shT, h2, h12]
  simpa [okN, h4] using h3
theorem Right.else_ {regs : Int} {l : List Nd} (h : Right regs l) {n : Nd} (hn : n ∈ l) (h11 : n.op = 11) : 1 ≤ n.e ∧ n.e < l.length := by
  have h1 := h.rng n hn
  simp only [badR, Bool.or_eq_false_iff, Bool.not_eq_false'] at h1
  have h3 := h1.2
  have h4 : hasE n.op = true := by simp [hasE, h11]
  simpa [okN, h4] using h3
theorem mem_exitsL {n : Nd} {m : Int} : m ∈ exitsL n ↔ leadsB n m = true := by
  unfold exitsL leadsB
  simp only [Bool.or_eq_true, Bool.and_eq_true, bne_iff_ne, beq_iff_eq, ne_eq]
  split
  · constructor
    · intro h; cases h
    · omega
  · split
    · simp only [List.mem_cons, List.not_mem_nil, or_false]
      omega
    · simp only [List.mem_cons, List.not_mem_nil, or_false]
      omega
theorem Right.exits {regs : Int} {l : List Nd} (h : Right regs l) (k : Nat) (n : Nd) (hk : l[k]? = some n) : ∀ m ∈ exitsL n, 0 ≤ m ∧ m < l.length := by
  have hn := List.mem_of_getElem? hk
  intro m hm
  rw [mem_exitsL] at hm
  simp only [leadsB, Bool.or_eq_true, Bool.and_eq_true, bne_iff_ne, beq_iff_eq, ne_eq] at hm
  rcases hm with ⟨h1, h2⟩ | ⟨h1, h2⟩
  · have := h.then_ hn h1; omega
  · have := h.else_ hn h1; omega


end Go.Proofs.YtmghkonmfbpjcabDoor
