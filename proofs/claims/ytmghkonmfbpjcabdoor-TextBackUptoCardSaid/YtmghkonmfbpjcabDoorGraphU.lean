/- Plain law: what splitting makes. No program in sight. -/
import Derived.Test.YtmghkonmfbpjcabDoorGraphT
import Derived.Test.YtmghkonmfbpjcabDoorNRow
namespace Go.Proofs.YtmghkonmfbpjcabDoor
set_option linter.unusedVariables false
set_option linter.unusedSimpArgs false
open Go.RowKit

def skipN (t : Int) : Nd := ⟨0, 0, 0, 0, t, 0⟩
/-- how many nodes are ahead -/
def ways (l : List Nd) (m : Int) : Nat := (sel (aheadP l m.toNat) l.length).length
def split1 (l : List Nd) (n : Nd) (N : Nat) : Nd := if 2 ≤ ways l n.t then { n with t := N, e := if n.op = 11 ∧ n.e = n.t then (N : Int) else n.e } else n
def skips1 (l : List Nd) (n : Nd) : List Nd := if 2 ≤ ways l n.t then [skipN n.t] else []
def elseB (l : List Nd) (n : Nd) : Bool := n.op == 11 && n.e != n.t && decide (2 ≤ ways l n.e)
def split2 (l : List Nd) (n x : Nd) (N : Nat) : Nd := if elseB l n = true then { x with e := N } else x
def skips2 (l : List Nd) (n : Nd) : List Nd := if elseB l n = true then [skipN n.e] else []
def step1 (l : List Nd) (k : Nat) (n : Nd) (out : List Nd) : List Nd := out.set k (split1 l n out.length) ++ skips1 l n
def step2 (l : List Nd) (k : Nat) (n x : Nd) (out : List Nd) : List Nd := out.set k (split2 l n x out.length) ++ skips2 l n
def splitStep (l : List Nd) (k : Nat) (n : Nd) (out : List Nd) : List Nd := if n.op = 0 ∨ n.op = 12 then out else step2 l k n (split1 l n out.length) (step1 l k n out)
def splitTo (l : List Nd) : Nat → List Nd
  | 0 => l
  | k + 1 => splitStep l k (l.getD k default) (splitTo l k)
def splitL (l : List Nd) : List Nd := splitTo l l.length
theorem splitTo_succ {l : List Nd} {k : Nat} {n : Nd} (hn : l[k]? = some n) : splitTo l (k + 1) = splitStep l k n (splitTo l k) := by
  have : l.getD k default = n := by rw [List.getD_eq_getElem?_getD, hn]; rfl
  rw [splitTo, this]
theorem skips1_len (l : List Nd) (n : Nd) : (skips1 l n).length ≤ 1 := by unfold skips1; split <;> simp
theorem skips2_len (l : List Nd) (n : Nd) : (skips2 l n).length ≤ 1 := by unfold skips2; split <;> simp
theorem step1_len (l : List Nd) (k : Nat) (n : Nd) (out : List Nd) : (step1 l k n out).length = out.length + (skips1 l n).length := by simp [step1]
theorem step2_len (l : List Nd) (k : Nat) (n x : Nd) (out : List Nd) : (step2 l k n x out).length = out.length + (skips2 l n).length := by simp [step2]
theorem splitStep_len (l : List Nd) (k : Nat) (n : Nd) (out : List Nd) : out.length ≤ (splitStep l k n out).length ∧ (splitStep l k n out).length ≤ out.length + 2 := by
  unfold splitStep
  split
  · omega
  · rw [step2_len, step1_len]
    have := skips1_len l n
    have := skips2_len l n
    omega
theorem splitTo_len (l : List Nd) : ∀ k, l.length ≤ (splitTo l k).length ∧ (splitTo l k).length ≤ l.length + 2 * k
  | 0 => by simp [splitTo]
  | k + 1 => by
    have h1 := splitTo_len l k
    have h2 := splitStep_len l k (l.getD k default) (splitTo l k)
    rw [splitTo]
    omega
theorem splitStep_get {l : List Nd} {k j : Nat} {n : Nd} {out : List Nd} (hk : k ≠ j) (hj : j < out.length) : (splitStep l k n out)[j]? = out[j]? := by
  unfold splitStep
  split
  · rfl
  · unfold step2
    rw [List.getElem?_append_left (by rw [List.length_set, step1_len]; omega), List.getElem?_set_ne hk]
    unfold step1
    rw [List.getElem?_append_left (by rw [List.length_set]; omega), List.getElem?_set_ne hk]
theorem splitTo_get (l : List Nd) : ∀ (k j : Nat), k ≤ j → j < l.length → (splitTo l k)[j]? = l[j]?
  | 0, j, _, _ => rfl
  | k + 1, j, hk, hj => by
    rw [splitTo, splitStep_get (by omega) (by have := splitTo_len l k; omega)]
    exact splitTo_get l k j (by omega) hj
/-- the same, as one store and one append -/
theorem splitStep_once {l : List Nd} {k : Nat} {n : Nd} {out : List Nd} (hk : k < out.length) (h0 : n.op ≠ 0) (h12 : n.op ≠ 12) :
    splitStep l k n out = out.set k (split2 l n (split1 l n out.length) (out.length + (skips1 l n).length)) ++ (skips1 l n ++ skips2 l n) := by
  unfold splitStep
  rw [if_neg (by omega)]
  unfold step2
  rw [step1_len]
  unfold step1
  rw [List.set_append_left _ _ (by rw [List.length_set]; exact hk), List.set_set, List.append_assoc]
theorem splitStep_skip {l : List Nd} {k : Nat} {n : Nd} {out : List Nd} (h : n.op = 0 ∨ n.op = 12) : splitStep l k n out = out := by
  unfold splitStep
  rw [if_pos h]
theorem splitStep_two {l : List Nd} {k : Nat} {n : Nd} {out : List Nd} (h : ¬ (n.op = 0 ∨ n.op = 12)) : splitStep l k n out = step2 l k n (split1 l n out.length) (step1 l k n out) := by
  unfold splitStep
  rw [if_neg h]
theorem step1_get {l : List Nd} {k : Nat} {n : Nd} {out : List Nd} (hk : k < out.length) : (step1 l k n out)[k]? = some (split1 l n out.length) := by
  unfold step1
  rw [List.getElem?_append_left (by rw [List.length_set]; exact hk), List.getElem?_set]
  simp [hk]
theorem set_self {α : Type} {l : List α} {k : Nat} {x : α} (h : l[k]? = some x) : l.set k x = l := by
  refine List.ext_getElem? fun i => ?_
  rw [List.getElem?_set]
  split
  · rename_i e
    subst e
    have := (List.getElem?_eq_some_iff.1 h).1
    rw [if_pos this, h]
  · rfl
theorem step1_none {l : List Nd} {k : Nat} {n : Nd} {out : List Nd} (h : ¬ 2 ≤ ways l n.t) (hk : out[k]? = some n) : step1 l k n out = out := by
  unfold step1 split1 skips1
  rw [if_neg h, if_neg h, set_self hk, List.append_nil]
theorem step2_none {l : List Nd} {k : Nat} {n x : Nd} {out : List Nd} (h : elseB l n = false) (hk : out[k]? = some x) : step2 l k n x out = out := by
  unfold step2 split2 skips2
  rw [if_neg (by rw [h]; simp), if_neg (by rw [h]; simp), set_self hk, List.append_nil]
theorem step2_some {l : List Nd} {k : Nat} {n x : Nd} {out : List Nd} (h : elseB l n = true) : step2 l k n x out = out.set k (x.put 5 out.length) ++ [skipN n.e] := by
  unfold step2 split2 skips2
  rw [if_pos h, if_pos h]
  rfl
theorem step1_some {l : List Nd} {k : Nat} {n : Nd} {out : List Nd} (h : 2 ≤ ways l n.t) (he : ¬ (n.op = 11 ∧ n.e = n.t)) : step1 l k n out = out.set k (n.put 4 out.length) ++ [skipN n.t] := by
  unfold step1 split1 skips1
  rw [if_pos h, if_pos h, if_neg he]
  rfl
theorem step1_both {l : List Nd} {k : Nat} {n : Nd} {out : List Nd} (h : 2 ≤ ways l n.t) (he : n.op = 11 ∧ n.e = n.t) : step1 l k n out = out.set k ((n.put 4 out.length).put 5 out.length) ++ [skipN n.t] := by
  unfold step1 split1 skips1
  rw [if_pos h, if_pos h, if_pos he]
  rfl
end Go.Proofs.YtmghkonmfbpjcabDoor
