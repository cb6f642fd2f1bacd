/- Plain law: what trimming leaves. No program in sight. -/
import Derived.Test.YtmghkonmfbpjcabDoorGraphP
namespace Go.Proofs.YtmghkonmfbpjcabDoor
set_option linter.unusedVariables false
set_option linter.unusedSimpArgs false
open Go.RowKit

/-- how many yes lie before -/
def rk (x : List Bool) : Nat → Nat
  | 0 => 0
  | k + 1 => rk x k + (if yn x k = true then 1 else 0)
theorem rk_le (x : List Bool) : ∀ k, rk x k ≤ k
  | 0 => Nat.le_refl _
  | k + 1 => by
    have := rk_le x k
    unfold rk
    split <;> omega
theorem rk_yes {x : List Bool} {k : Nat} (h : yn x k = true) : rk x (k + 1) = rk x k + 1 := by simp [rk, h]
theorem rk_no {x : List Bool} {k : Nat} (h : yn x k = false) : rk x (k + 1) = rk x k := by simp [rk, h]
def trimN (x : List Bool) (n : Nd) : Nd := { n with t := if n.op = 12 then n.t else (rk x n.t.toNat : Nat), e := if n.op = 11 then (rk x n.e.toNat : Nat) else n.e }
def trimTo (x : List Bool) (l : List Nd) : Nat → List Nd
  | 0 => []
  | k + 1 => trimTo x l k ++ (if yn x k = true then [trimN x (l.getD k default)] else [])
theorem trimTo_len (x : List Bool) (l : List Nd) : ∀ k, (trimTo x l k).length = rk x k
  | 0 => rfl
  | k + 1 => by
    unfold trimTo rk
    rw [List.length_append, trimTo_len x l k]
    split <;> simp
theorem trimTo_yes {x : List Bool} {l : List Nd} {k : Nat} {n : Nd} (h : yn x k = true) (hn : l[k]? = some n) : trimTo x l (k + 1) = trimTo x l k ++ [trimN x n] := by
  have : l.getD k default = n := by rw [List.getD_eq_getElem?_getD, hn]; rfl
  rw [trimTo, if_pos h, this]
theorem trimTo_no {x : List Bool} {l : List Nd} {k : Nat} (h : yn x k = false) : trimTo x l (k + 1) = trimTo x l k := by rw [trimTo, if_neg (by rw [h]; simp), List.append_nil]
def trimL (l : List Nd) : List Nd := trimTo (reachL l) l l.length
theorem trimL_len (l : List Nd) : (trimL l).length ≤ l.length := by
  unfold trimL
  rw [trimTo_len]
  exact rk_le _ _
theorem reach_shut {l : List Nd} {k : Nat} {n : Nd} (hk : yn (reachL l) k = true) (hn : l[k]? = some n) {m : Nat} (hm : leadsB n m = true) (hb : ∀ m : Nat, leadsB n m = true → m < l.length) : yn (reachL l) m = true := by
  have hc : Closed (reachS l) l.length (reachL l) := by have h := (leastL_least (reachS_mono l) l.length).1; exact ⟨h.1, fun i hi hs => (h.2 i hi).trans hs⟩
  refine Closed.shut hc hk (fun n2 h2 m hm => ?_) n hn m hm
  rw [hn] at h2
  injection h2 with h2
  subst h2
  exact hb m hm
end Go.Proofs.YtmghkonmfbpjcabDoor
