/- GraphT; GraphU; Ways; SplitP; TrimP; SplitQ: merged texts. -/
import Derived.Test.YtmghkonmfbpjcabJB
import Derived.Test.YtmghkonmfbpjcabNRow
import Derived.Test.YtmghkonmfbpjcabJA
import Derived.Test.YtmghkonmfbpjcabJC
/- Plain law: what trimming leaves. No program in sight. -/
namespace Go.Proofs.Ytmghkonmfbpjcab
set_option linter.unusedVariables false
set_option linter.unusedSimpArgs false
open Go.RowKit

/-- how many yes lie before -/
def rk (x : List Bool) : Nat → Nat
  | 0 => 0
  | k + 1 => rk x k + (if yn x k = true then 1 else 0)
theorem rk_le (x : List Bool) : ∀ k, rk x k ≤ k
  | 0 => Nat.le_refl _
  | k + 1 => by
    have := rk_le x k
    unfold rk
    split <;> omega
theorem rk_yes {x : List Bool} {k : Nat} (h : yn x k = true) : rk x (k + 1) = rk x k + 1 := by simp [rk, h]
theorem rk_no {x : List Bool} {k : Nat} (h : yn x k = false) : rk x (k + 1) = rk x k := by simp [rk, h]
def trimN (x : List Bool) (n : Nd) : Nd := { n with t := if n.op = 12 then n.t else (rk x n.t.toNat : Nat), e := if n.op = 11 then (rk x n.e.toNat : Nat) else n.e }
def trimTo (x : List Bool) (l : List Nd) : Nat → List Nd
  | 0 => []
  | k + 1 => trimTo x l k ++ (if yn x k = true then [trimN x (l.getD k default)] else [])
theorem trimTo_len (x : List Bool) (l : List Nd) : ∀ k, (trimTo x l k).length = rk x k
  | 0 => rfl
  | k + 1 => by
    unfold trimTo rk
    rw [List.length_append, trimTo_len x l k]
    split <;> simp
theorem trimTo_yes {x : List Bool} {l : List Nd} {k : Nat} {n : Nd} (h : yn x k = true) (hn : l[k]? = some n) : trimTo x l (k + 1) = trimTo x l k ++ [trimN x n] := by
  have : l.getD k default = n := by rw [List.getD_eq_getElem?_getD, hn]; rfl
  rw [trimTo, if_pos h, this]
theorem trimTo_no {x : List Bool} {l : List Nd} {k : Nat} (h : yn x k = false) : trimTo x l (k + 1) = trimTo x l k := by rw [trimTo, if_neg (by rw [h]; simp), List.append_nil]
def trimL (l : List Nd) : List Nd := trimTo (reachL l) l l.length
theorem trimL_len (l : List Nd) : (trimL l).length ≤ l.length := by
  unfold trimL
  rw [trimTo_len]
  exact rk_le _ _
theorem reach_shut {l : List Nd} {k : Nat} {n : Nd} (hk : yn (reachL l) k = true) (hn : l[k]? = some n) {m : Nat} (hm : leadsB n m = true) (hb : ∀ m : Nat, leadsB n m = true → m < l.length) : yn (reachL l) m = true := by
  have hc : Closed (reachS l) l.length (reachL l) := by have h := (leastL_least (reachS_mono l) l.length).1; exact ⟨h.1, fun i hi hs => (h.2 i hi).trans hs⟩
  refine Closed.shut hc hk (fun n2 h2 m hm => ?_) n hn m hm
  rw [hn] at h2
  injection h2 with h2
  subst h2
  exact hb m hm
end Go.Proofs.Ytmghkonmfbpjcab

/- Plain law: what splitting makes. No program in sight. -/
namespace Go.Proofs.Ytmghkonmfbpjcab
set_option linter.unusedVariables false
set_option linter.unusedSimpArgs false
open Go.RowKit

def skipN (t : Int) : Nd := ⟨0, 0, 0, 0, t, 0⟩
/-- how many nodes are ahead -/
def ways (l : List Nd) (m : Int) : Nat := (sel (aheadP l m.toNat) l.length).length
def split1 (l : List Nd) (n : Nd) (N : Nat) : Nd := if 2 ≤ ways l n.t then { n with t := N, e := if n.op = 11 ∧ n.e = n.t then (N : Int) else n.e } else n
def skips1 (l : List Nd) (n : Nd) : List Nd := if 2 ≤ ways l n.t then [skipN n.t] else []
def elseB (l : List Nd) (n : Nd) : Bool := n.op == 11 && n.e != n.t && decide (2 ≤ ways l n.e)
def split2 (l : List Nd) (n x : Nd) (N : Nat) : Nd := if elseB l n = true then { x with e := N } else x
def skips2 (l : List Nd) (n : Nd) : List Nd := if elseB l n = true then [skipN n.e] else []
def step1 (l : List Nd) (k : Nat) (n : Nd) (out : List Nd) : List Nd := out.set k (split1 l n out.length) ++ skips1 l n
def step2 (l : List Nd) (k : Nat) (n x : Nd) (out : List Nd) : List Nd := out.set k (split2 l n x out.length) ++ skips2 l n
def splitStep (l : List Nd) (k : Nat) (n : Nd) (out : List Nd) : List Nd := if n.op = 0 ∨ n.op = 12 then out else step2 l k n (split1 l n out.length) (step1 l k n out)
def splitTo (l : List Nd) : Nat → List Nd
  | 0 => l
  | k + 1 => splitStep l k (l.getD k default) (splitTo l k)
def splitL (l : List Nd) : List Nd := splitTo l l.length
theorem splitTo_succ {l : List Nd} {k : Nat} {n : Nd} (hn : l[k]? = some n) : splitTo l (k + 1) = splitStep l k n (splitTo l k) := by
  have : l.getD k default = n := by rw [List.getD_eq_getElem?_getD, hn]; rfl
  rw [splitTo, this]
theorem skips1_len (l : List Nd) (n : Nd) : (skips1 l n).length ≤ 1 := by unfold skips1; split <;> simp
theorem skips2_len (l : List Nd) (n : Nd) : (skips2 l n).length ≤ 1 := by unfold skips2; split <;> simp
theorem step1_len (l : List Nd) (k : Nat) (n : Nd) (out : List Nd) : (step1 l k n out).length = out.length + (skips1 l n).length := by simp [step1]
theorem step2_len (l : List Nd) (k : Nat) (n x : Nd) (out : List Nd) : (step2 l k n x out).length = out.length + (skips2 l n).length := by simp [step2]
theorem splitStep_len (l : List Nd) (k : Nat) (n : Nd) (out : List Nd) : out.length ≤ (splitStep l k n out).length ∧ (splitStep l k n out).length ≤ out.length + 2 := by
  unfold splitStep
  split
  · omega
  · rw [step2_len, step1_len]
    have := skips1_len l n
    have := skips2_len l n
    omega
theorem splitTo_len (l : List Nd) : ∀ k, l.length ≤ (splitTo l k).length ∧ (splitTo l k).length ≤ l.length + 2 * k
  | 0 => by simp [splitTo]
  | k + 1 => by
    have h1 := splitTo_len l k
    have h2 := splitStep_len l k (l.getD k default) (splitTo l k)
    rw [splitTo]
    omega
theorem splitStep_get {l : List Nd} {k j : Nat} {n : Nd} {out : List Nd} (hk : k ≠ j) (hj : j < out.length) : (splitStep l k n out)[j]? = out[j]? := by
  unfold splitStep
  split
  · rfl
  · unfold step2
    rw [List.getElem?_append_left (by rw [List.length_set, step1_len]; omega), List.getElem?_set_ne hk]
    unfold step1
    rw [List.getElem?_append_left (by rw [List.length_set]; omega), List.getElem?_set_ne hk]
theorem splitTo_get (l : List Nd) : ∀ (k j : Nat), k ≤ j → j < l.length → (splitTo l k)[j]? = l[j]?
  | 0, j, _, _ => rfl
  | k + 1, j, hk, hj => by
    rw [splitTo, splitStep_get (by omega) (by have := splitTo_len l k; omega)]
    exact splitTo_get l k j (by omega) hj
/-- the same, as one store and one append -/
theorem splitStep_once {l : List Nd} {k : Nat} {n : Nd} {out : List Nd} (hk : k < out.length) (h0 : n.op ≠ 0) (h12 : n.op ≠ 12) :
    splitStep l k n out = out.set k (split2 l n (split1 l n out.length) (out.length + (skips1 l n).length)) ++ (skips1 l n ++ skips2 l n) := by
  unfold splitStep
  rw [if_neg (by omega)]
  unfold step2
  rw [step1_len]
  unfold step1
  rw [List.set_append_left _ _ (by rw [List.length_set]; exact hk), List.set_set, List.append_assoc]
theorem splitStep_skip {l : List Nd} {k : Nat} {n : Nd} {out : List Nd} (h : n.op = 0 ∨ n.op = 12) : splitStep l k n out = out := by
  unfold splitStep
  rw [if_pos h]
theorem splitStep_two {l : List Nd} {k : Nat} {n : Nd} {out : List Nd} (h : ¬ (n.op = 0 ∨ n.op = 12)) : splitStep l k n out = step2 l k n (split1 l n out.length) (step1 l k n out) := by
  unfold splitStep
  rw [if_neg h]
theorem step1_get {l : List Nd} {k : Nat} {n : Nd} {out : List Nd} (hk : k < out.length) : (step1 l k n out)[k]? = some (split1 l n out.length) := by
  unfold step1
  rw [List.getElem?_append_left (by rw [List.length_set]; exact hk), List.getElem?_set]
  simp [hk]
theorem set_self {α : Type} {l : List α} {k : Nat} {x : α} (h : l[k]? = some x) : l.set k x = l := by
  refine List.ext_getElem? fun i => ?_
  rw [List.getElem?_set]
  split
  · rename_i e
    subst e
    have := (List.getElem?_eq_some_iff.1 h).1
    rw [if_pos this, h]
  · rfl
theorem step1_none {l : List Nd} {k : Nat} {n : Nd} {out : List Nd} (h : ¬ 2 ≤ ways l n.t) (hk : out[k]? = some n) : step1 l k n out = out := by
  unfold step1 split1 skips1
  rw [if_neg h, if_neg h, set_self hk, List.append_nil]
theorem step2_none {l : List Nd} {k : Nat} {n x : Nd} {out : List Nd} (h : elseB l n = false) (hk : out[k]? = some x) : step2 l k n x out = out := by
  unfold step2 split2 skips2
  rw [if_neg (by rw [h]; simp), if_neg (by rw [h]; simp), set_self hk, List.append_nil]
theorem step2_some {l : List Nd} {k : Nat} {n x : Nd} {out : List Nd} (h : elseB l n = true) : step2 l k n x out = out.set k (x.put 5 out.length) ++ [skipN n.e] := by
  unfold step2 split2 skips2
  rw [if_pos h, if_pos h]
  rfl
theorem step1_some {l : List Nd} {k : Nat} {n : Nd} {out : List Nd} (h : 2 ≤ ways l n.t) (he : ¬ (n.op = 11 ∧ n.e = n.t)) : step1 l k n out = out.set k (n.put 4 out.length) ++ [skipN n.t] := by
  unfold step1 split1 skips1
  rw [if_pos h, if_pos h, if_neg he]
  rfl
theorem step1_both {l : List Nd} {k : Nat} {n : Nd} {out : List Nd} (h : 2 ≤ ways l n.t) (he : n.op = 11 ∧ n.e = n.t) : step1 l k n out = out.set k ((n.put 4 out.length).put 5 out.length) ++ [skipN n.t] := by
  unfold step1 split1 skips1
  rw [if_pos h, if_pos h, if_pos he]
  rfl
end Go.Proofs.Ytmghkonmfbpjcab

/- Plain law: how many nodes are ahead, counted way by way. No program in sight. -/
namespace Go.Proofs.Ytmghkonmfbpjcab
set_option linter.unusedVariables false
set_option linter.unusedSimpArgs false
open Go.RowKit

/-- of the first k nodes, how many lead to m -/
def wcnt (l : List Nd) (k m : Nat) : Nat := (sel (aheadP l m) k).length
theorem wcnt_zero (l : List Nd) (m : Nat) : wcnt l 0 m = 0 := rfl
theorem wcnt_all (l : List Nd) (m : Nat) : wcnt l l.length m = ways l m := by simp [wcnt, ways]
theorem wcnt_le (l : List Nd) (k m : Nat) : wcnt l k m ≤ k := sel_len _ _
/-- the first i ways of a node -/
def wmid (n : Nd) (i m : Nat) : Nat := (if 1 ≤ i ∧ n.t = (m : Int) then 1 else 0) + (if 2 ≤ i ∧ n.e = (m : Int) ∧ n.e ≠ n.t then 1 else 0)
theorem wmid_zero (n : Nd) (m : Nat) : wmid n 0 m = 0 := by simp [wmid]
theorem wcnt_succ {l : List Nd} {k : Nat} {n : Nd} (h : l[k]? = some n) (m : Nat) : wcnt l (k + 1) m = wcnt l k m + wmid n (exitN n.op) m := by
  have hp : aheadP l m k = leadsB n m := aheadP_eq h
  have hw : wmid n (exitN n.op) m = if leadsB n m = true then 1 else 0 := by
    unfold wmid exitN leadsB
    by_cases h12 : n.op = 12
    · simp [h12]
    · by_cases h11 : n.op = 11
      · by_cases ht : n.t = (m : Int)
        · by_cases he : n.e = (m : Int)
          · simp [h11, ht, he]
          · simp [h11, ht, he]
        · by_cases he : n.e = (m : Int)
          · have : n.e ≠ n.t := by omega
            simp [h11, ht, he]
            omega
          · simp [h11, ht, he]
      · by_cases ht : n.t = (m : Int)
        · simp [h12, h11, ht]
        · simp [h12, h11, ht]
  unfold wcnt
  rw [hw]
  cases hl : leadsB n m with
  | true => rw [sel_succ_true (hp.trans hl)]; simp
  | false => rw [sel_succ_false (hp.trans hl)]; simp
/-- the way that was last -/
def lastOf (n : Nd) (i : Nat) : Int := if i = 0 then 0 else if i = 1 then n.t else n.e
theorem wmid_new {n : Nd} {i mm : Nat} (h : (i = 0 ∧ n.t = mm) ∨ (i = 1 ∧ n.e = mm)) (hm : 1 ≤ mm) (hl : (mm : Int) ≠ lastOf n i) (m : Nat) : wmid n (i + 1) m = wmid n i m + (if m = mm then 1 else 0) := by
  rcases h with ⟨rfl, h⟩ | ⟨rfl, h⟩
  · unfold wmid
    rw [h]
    by_cases hmm : m = mm
    · subst hmm; simp
    · have : ¬ ((mm : Int) = (m : Int)) := by omega
      simp [hmm, this]
  · unfold wmid lastOf at *
    simp only [Nat.one_ne_zero, ↓reduceIte] at hl
    rw [h]
    by_cases hmm : m = mm
    · subst hmm
      simp [hl]
    · have : ¬ ((mm : Int) = (m : Int)) := by omega
      simp [hmm, this]
theorem wmid_old {n : Nd} {i mm : Nat} (h : (i = 0 ∧ n.t = mm) ∨ (i = 1 ∧ n.e = mm)) (hm : 1 ≤ mm) (hl : (mm : Int) = lastOf n i) (m : Nat) : wmid n (i + 1) m = wmid n i m := by
  rcases h with ⟨rfl, h⟩ | ⟨rfl, h⟩
  · unfold lastOf at hl
    simp at hl
    omega
  · unfold wmid lastOf at *
    simp only [Nat.one_ne_zero, ↓reduceIte] at hl
    have : n.e = n.t := by omega
    simp [this]
theorem lastOf_succ {n : Nd} {i mm : Nat} (h : (i = 0 ∧ n.t = mm) ∨ (i = 1 ∧ n.e = mm)) : lastOf n (i + 1) = mm := by
  rcases h with ⟨rfl, h⟩ | ⟨rfl, h⟩ <;> simp [lastOf, h]
theorem wmid_le (n : Nd) (i m : Nat) : wmid n i m ≤ 2 := by unfold wmid; split <;> split <;> omega
end Go.Proofs.Ytmghkonmfbpjcab

/- Plain law: how graph.Split splits the ways of one node, one way after the other. No program in sight. -/
namespace Go.Proofs.Ytmghkonmfbpjcab
set_option linter.unusedVariables false
set_option linter.unusedSimpArgs false
open Go.RowKit

/-- the node after its first i ways; N: how many nodes there are so far -/
def xmid (l : List Nd) (n : Nd) (N : Nat) : Nat → Nd
  | 0 => n
  | 1 => { n with t := if 2 ≤ ways l n.t then (N : Int) else n.t }
  | _ => { n with t := if 2 ≤ ways l n.t then (N : Int) else n.t, e := if n.e = n.t then (if 2 ≤ ways l n.t then (N : Int) else n.t) else if 2 ≤ ways l n.e then ((N + (skips1 l n).length : Nat) : Int) else n.e }
/-- the skips after the first i ways -/
def smid (l : List Nd) (n : Nd) : Nat → List Nd
  | 0 => []
  | 1 => skips1 l n
  | _ => skips1 l n ++ (if n.e ≠ n.t ∧ 2 ≤ ways l n.e then [skipN n.e] else [])
theorem xmid_op (l : List Nd) (n : Nd) (N i : Nat) : (xmid l n N i).op = n.op := by
  rcases i with _ | _ | i <;> rfl
theorem smid_len (l : List Nd) (n : Nd) (i : Nat) : (smid l n i).length ≤ 2 := by
  have := skips1_len l n
  rcases i with _ | _ | i
  · simp [smid]
  · simp only [smid]; omega
  · simp only [smid, List.length_append]; split <;> simp <;> omega
theorem mid_end {l : List Nd} {n : Nd} {k : Nat} {out : List Nd} (h0 : n.op ≠ 0) (hk : out[k]? = some n) : splitStep l k n out = out.set k (xmid l n out.length (exitN n.op)) ++ smid l n (exitN n.op) := by
  have hko : k < out.length := (List.getElem?_eq_some_iff.1 hk).1
  by_cases h12 : n.op = 12
  · rw [splitStep_skip (.inr h12)]
    simp [exitN, h12, xmid, smid, set_self hk]
  · rw [splitStep_once hko h0 h12]
    by_cases h11 : n.op = 11
    · have he : exitN n.op = 2 := by simp [exitN, h11]
      rw [he]
      by_cases hw : 2 ≤ ways l n.t
      · by_cases het : n.e = n.t
        · simp [xmid, smid, split2, split1, elseB, skips2, hw, het, h11]
        · by_cases hwe : 2 ≤ ways l n.e
          · simp [xmid, smid, split2, split1, elseB, skips2, hw, het, h11, hwe]
          · simp [xmid, smid, split2, split1, elseB, skips2, hw, het, h11, hwe]
      · by_cases het : n.e = n.t
        · rcases n with ⟨op, d, a, b, t, e⟩
          simp only at *
          subst het
          simp [xmid, smid, split2, split1, elseB, skips2, skips1, hw, h11]
        · by_cases hwe : 2 ≤ ways l n.e
          · rcases n with ⟨op, d, a, b, t, e⟩
            simp only at *
            simp [xmid, smid, split2, split1, elseB, skips2, skips1, hw, het, h11, hwe]
          · rcases n with ⟨op, d, a, b, t, e⟩
            simp only at *
            simp [xmid, smid, split2, split1, elseB, skips2, skips1, hw, het, h11, hwe]
    · have he : exitN n.op = 1 := by simp [exitN, h12, h11]
      rw [he]
      by_cases hw : 2 ≤ ways l n.t
      · simp [xmid, smid, split2, split1, elseB, skips2, hw, h11]
      · simp [xmid, smid, split2, split1, elseB, skips2, hw, h11]
/-- the first way, more than one node ahead -/
theorem mid_t_more {l : List Nd} {n : Nd} {N : Nat} (h : 2 ≤ ways l n.t) : xmid l n N 1 = n.put 4 N ∧ smid l n 1 = smid l n 0 ++ [skipN n.t] := by
  simp [xmid, smid, skips1, h, Nd.put]
theorem mid_t_one {l : List Nd} {n : Nd} {N : Nat} (h : ¬ 2 ≤ ways l n.t) : xmid l n N 1 = n ∧ smid l n 1 = smid l n 0 := by
  simp [xmid, smid, skips1, h]
theorem mid_e_same {l : List Nd} {n : Nd} {N : Nat} (h : n.e = n.t) : xmid l n N 2 = (xmid l n N 1).put 5 (xmid l n N 1).t ∧ smid l n 2 = smid l n 1 := by
  simp [xmid, smid, h, Nd.put]
theorem mid_e_more {l : List Nd} {n : Nd} {N : Nat} (he : n.e ≠ n.t) (h : 2 ≤ ways l n.e) : xmid l n N 2 = (xmid l n N 1).put 5 ((N + (smid l n 1).length : Nat) : Int) ∧ smid l n 2 = smid l n 1 ++ [skipN n.e] := by
  simp [xmid, smid, he, h, Nd.put]
theorem mid_e_one {l : List Nd} {n : Nd} {N : Nat} (he : n.e ≠ n.t) (h : ¬ 2 ≤ ways l n.e) : xmid l n N 2 = xmid l n N 1 ∧ smid l n 2 = smid l n 1 := by
  simp [xmid, smid, he, h]
/-- a way with more than one node ahead, whichever it is -/
theorem mid_more {l : List Nd} {n : Nd} {N i mm : Nat} (h : (i = 0 ∧ n.t = (mm : Int)) ∨ (i = 1 ∧ n.e = (mm : Int) ∧ n.e ≠ n.t)) (hw : 2 ≤ ways l mm) :
    xmid l n N (i + 1) = (xmid l n N i).put (4 + i) ((N + (smid l n i).length : Nat) : Int) ∧ smid l n (i + 1) = smid l n i ++ [skipN mm] := by
  rcases h with ⟨rfl, h⟩ | ⟨rfl, h, hne⟩
  · rw [← h] at hw ⊢
    obtain ⟨h1, h2⟩ := mid_t_more (N := N) hw
    exact ⟨h1, h2⟩
  · rw [← h] at hw ⊢
    exact mid_e_more hne hw
theorem mid_one {l : List Nd} {n : Nd} {N i mm : Nat} (h : (i = 0 ∧ n.t = (mm : Int)) ∨ (i = 1 ∧ n.e = (mm : Int) ∧ n.e ≠ n.t)) (hw : ¬ 2 ≤ ways l mm) :
    xmid l n N (i + 1) = xmid l n N i ∧ smid l n (i + 1) = smid l n i := by
  rcases h with ⟨rfl, h⟩ | ⟨rfl, h, hne⟩
  · rw [← h] at hw
    exact mid_t_one hw
  · rw [← h] at hw
    exact mid_e_one hne hw
theorem xmid_t (l : List Nd) (n : Nd) (N : Nat) : (xmid l n N 0).t = n.t := rfl
theorem xmid_e (l : List Nd) (n : Nd) (N : Nat) : (xmid l n N 1).e = n.e := rfl
end Go.Proofs.Ytmghkonmfbpjcab

/- Plain law: what is trimmed does what it did, step by step, and has nothing to trim any more. No program in sight. -/
namespace Go.Proofs.Ytmghkonmfbpjcab
set_option linter.unusedVariables false
set_option linter.unusedSimpArgs false
open Go.RowKit

theorem rk_mono (x : List Bool) {i : Nat} : ∀ {j : Nat}, i ≤ j → rk x i ≤ rk x j
  | 0, h => by rw [show i = 0 by omega]; exact Nat.le_refl _
  | j + 1, h => by
    by_cases e : i = j + 1
    · subst e; exact Nat.le_refl _
    · have := rk_mono x (i := i) (j := j) (by omega)
      rw [rk]
      omega
theorem rk_lt {x : List Bool} {i j : Nat} (h : i < j) (hi : yn x i = true) : rk x i < rk x j := by
  have := rk_mono x (i := i + 1) (j := j) h
  rw [rk_yes hi] at this
  omega
theorem rk_onto (x : List Bool) : ∀ (k : Nat) {j : Nat}, j < rk x k → ∃ i, i < k ∧ yn x i = true ∧ rk x i = j
  | 0, j, h => by simp [rk] at h
  | k + 1, j, h => by
    by_cases hj : j < rk x k
    · obtain ⟨i, h1, h2⟩ := rk_onto x k hj
      exact ⟨i, by omega, h2⟩
    · by_cases hk : yn x k = true
      · rw [rk_yes hk] at h
        exact ⟨k, by omega, hk, by omega⟩
      · rw [rk_no (by simpa using hk)] at h
        omega
theorem trimTo_get {x : List Bool} {l : List Nd} {i : Nat} {n : Nd} (hi : yn x i = true) (hn : l[i]? = some n) : ∀ {k : Nat}, i < k → (trimTo x l k)[rk x i]? = some (trimN x n)
  | 0, h => by omega
  | k + 1, h => by
    by_cases e : i = k
    · subst e
      rw [trimTo_yes hi hn, List.getElem?_append_right (by rw [trimTo_len]; exact Nat.le_refl _), trimTo_len]
      simp
    · have hlt : i < k := by omega
      rw [trimTo, List.getElem?_append_left (by rw [trimTo_len]; exact rk_lt hlt hi)]
      exact trimTo_get hi hn hlt
theorem trimTo_mem {x : List Bool} {l : List Nd} {m : Nd} : ∀ {k : Nat}, k ≤ l.length → m ∈ trimTo x l k → ∃ i n, yn x i = true ∧ l[i]? = some n ∧ m = trimN x n
  | 0, _, h => by cases h
  | k + 1, hk, h => by
    have hn : l[k]? = some l[k] := List.getElem?_eq_getElem hk
    by_cases hy : yn x k = true
    · rw [trimTo_yes hy hn] at h
      rcases List.mem_append.1 h with e | e
      · exact trimTo_mem (by omega) e
      · exact ⟨k, _, hy, hn, by simpa using e⟩
    · rw [trimTo_no (by simpa using hy)] at h
      exact trimTo_mem (by omega) h
theorem reach_zero {l : List Nd} (h : 1 ≤ l.length) : yn (reachL l) 0 = true := by
  have hc := (leastL_least (reachS_mono l) l.length).1.2 0 (by omega)
  unfold reachL
  rw [hc]
  simp [reachS]
/-- where a reachable node of a right program leads -/
theorem Right.reach {regs : Int} {l : List Nd} (hR : Right regs l) {i : Nat} {n : Nd} (hi : yn (reachL l) i = true) (hn : l[i]? = some n) {m : Int} (hm : leadsB n m = true) : 1 ≤ m ∧ m < l.length ∧ yn (reachL l) m.toNat = true := by
  have hmem := List.mem_of_getElem? hn
  have hb : ∀ m : Int, leadsB n m = true → 1 ≤ m ∧ m < l.length := fun m hm => by
    rcases leads_cases hm with ⟨h1, rfl⟩ | ⟨h1, rfl⟩
    · exact hR.then_ hmem h1
    · exact hR.else_ hmem h1
  obtain ⟨h1, h2⟩ := hb m hm
  refine ⟨h1, h2, reach_shut hi hn (by rw [Int.toNat_of_nonneg (by omega)]; exact hm) (fun m hm => by have := hb m hm; omega)⟩
theorem Right.trim {regs : Int} {l : List Nd} (hR : Right regs l) : Right regs (trimL l) := by
  have hlo := hR.lo
  have h0 := reach_zero hlo
  have h1 : rk (reachL l) 1 = 1 := by rw [rk_yes h0]; rfl
  have hlen : (trimL l).length = rk (reachL l) l.length := trimTo_len _ _ _
  have hr1 := rk_mono (reachL l) (i := 1) (j := l.length) hlo
  have hin : ∀ {i : Nat} {n : Nd}, yn (reachL l) i = true → l[i]? = some n → ∀ {m : Int}, leadsB n m = true → 1 ≤ ((rk (reachL l) m.toNat : Nat) : Int) ∧ ((rk (reachL l) m.toNat : Nat) : Int) < ((rk (reachL l) l.length : Nat) : Int) := fun hi hn m hm => by
    obtain ⟨a1, a2, a3⟩ := hR.reach hi hn hm
    have := rk_mono (reachL l) (i := 1) (j := m.toNat) (by omega)
    have := rk_lt (j := l.length) (by omega) a3
    omega
  refine ⟨by omega, by have := trimL_len l; have := hR.hi; omega, hR.rlo, hR.rhi, fun n hn => ?_, fun n hn => ?_, fun n hn => ?_⟩
  · obtain ⟨i, n0, hi, hg, rfl⟩ := trimTo_mem (Nat.le_refl _) hn
    clear hn
    obtain ⟨n, hn⟩ : ∃ n, n = n0 := ⟨_, rfl⟩
    subst hn
    have hn := hg
    exact hR.ok n (List.mem_of_getElem? hn)
  · obtain ⟨i, n0, hi, hg, rfl⟩ := trimTo_mem (Nat.le_refl _) hn
    clear hn
    obtain ⟨n, hn⟩ : ∃ n, n = n0 := ⟨_, rfl⟩
    subst hn
    have hn := hg
    have hr := hR.rng n (List.mem_of_getElem? hn)
    rw [hlen]
    simp only [badR, Bool.or_eq_false_iff, Bool.not_eq_false'] at hr ⊢
    refine ⟨⟨hr.1.1, ?_⟩, ?_⟩
    · show okN _ (if n.op = 12 then n.t else ((rk (reachL l) n.t.toNat : Nat) : Int)) (shT n.op) = true
      by_cases h12 : n.op = 12
      · simp [okN, shT, h12]
      · rw [if_neg h12]
        have := hin hi hn (leads_then h12)
        simp [okN, this.1, this.2]
    · show okN _ (if n.op = 11 then ((rk (reachL l) n.e.toNat : Nat) : Int) else n.e) (hasE n.op) = true
      by_cases h11 : n.op = 11
      · rw [if_pos h11]
        have := hin hi hn (leads_else h11)
        simp [okN, this.1, this.2]
      · simp [okN, hasE, h11]
  · obtain ⟨i, n0, hi, hg, rfl⟩ := trimTo_mem (Nat.le_refl _) hn
    clear hn
    obtain ⟨n, hn⟩ : ∃ n, n = n0 := ⟨_, rfl⟩
    subst hn
    have hn := hg
    have hr := hR.frm n (List.mem_of_getElem? hn)
    have hok := hR.ok n (List.mem_of_getElem? hn)
    simp only [badF, Bool.or_eq_false_iff, Bool.not_eq_false'] at hr ⊢
    refine ⟨⟨hr.1.1, ?_⟩, ?_⟩
    · show okF (if n.op = 12 then n.t else _) (shT n.op) = true
      by_cases h12 : n.op = 12
      · rw [if_pos h12]; exact hr.1.2
      · simp [okF, shT, hok, h12]
    · show okF (if n.op = 11 then _ else n.e) (hasE n.op) = true
      by_cases h11 : n.op = 11
      · simp [okF, hasE, h11]
      · rw [if_neg h11]; exact hr.2
/-- a run of what is trimmed -/
structure Trimmed (l : List Nd) (s t : Rn) : Prop where
  alike : Alike s t
  steps : s.steps = t.steps
  pos : s.ended = false → t.pos = rk (reachL l) s.pos ∧ s.pos < l.length ∧ yn (reachL l) s.pos = true
theorem Trimmed.step {regs : Int} {l : List Nd} {inp : List Int} {s t : Rn} (hR : Right regs l) (h : Trimmed l s t) (he : s.ended = false) : Trimmed l (stepR l inp s) (stepR (trimL l) inp t) := by
  obtain ⟨hp, hl, hy⟩ := h.pos he
  obtain ⟨n, hn⟩ : ∃ n, l[s.pos]? = some n := ⟨_, List.getElem?_eq_getElem hl⟩
  have hm : nd (trimL l) t.pos = trimN (reachL l) n := nd_get (by rw [hp]; exact trimTo_get hy hn hl)
  obtain ⟨h1, h2, h3⟩ := h.alike.step (inp := inp) (nd_get hn) hm rfl rfl rfl rfl
  refine ⟨h1, by rw [stepR_steps, stepR_steps, h.steps], fun hne => ?_⟩
  have h12 := h3 hne
  rcases h2 with ⟨e1, e2⟩ | ⟨h11, e1, e2⟩
  · obtain ⟨a1, a2, a3⟩ := hR.reach hy hn (leads_then h12)
    rw [e1, e2]
    refine ⟨?_, by omega, a3⟩
    show (if n.op = 12 then n.t else _).toNat = _
    rw [if_neg h12]; rfl
  · obtain ⟨a1, a2, a3⟩ := hR.reach hy hn (leads_else h11)
    rw [e1, e2]
    refine ⟨?_, by omega, a3⟩
    show (if n.op = 11 then _ else n.e).toNat = _
    rw [if_pos h11]; rfl
theorem Trimmed.go {regs : Int} {l : List Nd} {inp : List Int} (hR : Right regs l) : ∀ (k : Nat) {s t : Rn}, Trimmed l s t → Trimmed l (goR l inp k s) (goR (trimL l) inp k t)
  | 0, s, t, h => h
  | k + 1, s, t, h => by
    by_cases he : s.ended = true
    · rw [goR_ended he, goR_ended (by rw [← h.alike.ended]; exact he)]
      exact h
    · have he : s.ended = false := by simpa using he
      rw [goR_step he, goR_step (by rw [← h.alike.ended]; exact he)]
      exact Trimmed.go hR k (h.step hR he)
/-- what is trimmed does what it did, step by step -/
theorem run_trim {regs : Int} {l : List Nd} {inp : List Int} (hR : Right regs l) (n : Nat) : Trimmed l (runR regs l inp n) (runR regs (trimL l) inp n) := by
  have hlo := hR.lo
  exact Trimmed.go hR n ⟨⟨rfl, rfl, rfl, rfl, rfl, rfl⟩, rfl, fun _ => ⟨rfl, by show 0 < l.length; omega, reach_zero hlo⟩⟩
/-- all of what is trimmed may be come to -/
theorem trim_reach {regs : Int} {l : List Nd} (hR : Right regs l) {j : Nat} (hj : j < (trimL l).length) : yn (reachL (trimL l)) j = true := by
  have hlo := hR.lo
  have hT := hR.trim
  let z : List Bool := (List.range l.length).map fun i => yn (reachL l) i && yn (reachL (trimL l)) (rk (reachL l) i)
  have hz : ∀ i : Nat, i < l.length → yn z i = (yn (reachL l) i && yn (reachL (trimL l)) (rk (reachL l) i)) := fun i hi => by simp [z, yn, hi]
  have hc : Closed (reachS l) l.length z := by
    refine reach_closed (by simp [z]) ?_ fun i hi hyi n hn m hm => ?_
    · rw [hz 0 (by omega), reach_zero hlo, Bool.true_and]
      exact reach_zero hT.lo
    · rw [hz i hi, Bool.and_eq_true] at hyi
      obtain ⟨a1, a2, a3⟩ := hR.reach hyi.1 hn hm
      rw [hz m (by omega), Bool.and_eq_true]
      refine ⟨by simpa using a3, ?_⟩
      have hl : leadsB (trimN (reachL l) n) ((rk (reachL l) m : Nat) : Int) = true := by
        rcases leads_cases hm with ⟨h1, h2⟩ | ⟨h1, h2⟩
        · have : (trimN (reachL l) n).t = ((rk (reachL l) m : Nat) : Int) := by
            show (if n.op = 12 then n.t else _) = _
            rw [if_neg h1, ← h2]; rfl
          rw [← this]; exact leads_then h1
        · have : (trimN (reachL l) n).e = ((rk (reachL l) m : Nat) : Int) := by
            show (if n.op = 11 then _ else n.e) = _
            rw [if_pos h1, ← h2]; rfl
          rw [← this]; exact leads_else h1
      have := hT.reach hyi.2 (trimTo_get hyi.1 hn hi) hl
      simpa using this.2.2
  have hle := (leastL_least (reachS_mono l) l.length).2.2 z hc
  obtain ⟨i, h1, h2, h3⟩ := rk_onto (reachL l) l.length (j := j) (by rw [← trimTo_len (reachL l) l l.length]; exact hj)
  have := hle i h2
  rw [hz i h1, Bool.and_eq_true] at this
  rw [← h3]; exact this.2
theorem rk_all {x : List Bool} : ∀ {k : Nat}, (∀ j, j < k → yn x j = true) → rk x k = k
  | 0, _ => rfl
  | k + 1, h => by rw [rk_yes (h k (by omega)), rk_all fun j hj => h j (by omega)]
/-- what is trimmed has nothing to trim any more -/
theorem trim_again {regs : Int} {l : List Nd} (hR : Right regs l) : trimL (trimL l) = trimL l := by
  have hT := hR.trim
  have hall := fun j hj => trim_reach hR (j := j) hj
  generalize trimL l = m at *
  have key : ∀ k, k ≤ m.length → trimTo (reachL m) m k = m.take k := by
    intro k
    induction k with
    | zero => intro _; rfl
    | succ k ih =>
      intro hk
      have hn : m[k]? = some m[k] := List.getElem?_eq_getElem hk
      have hmem := List.mem_of_getElem? hn
      rw [trimTo_yes (hall k hk) hn, ih (by omega), List.take_add_one, hn]
      congr 1
      show [trimN _ _] = [m[k]]
      congr 1
      generalize m[k] = n at hn hmem
      have ht : n.op ≠ 12 → ((rk (reachL m) n.t.toNat : Nat) : Int) = n.t := fun h12 => by
        have := hT.then_ hmem h12
        rw [rk_all fun j hj => hall j (by omega)]; omega
      have he : n.op = 11 → ((rk (reachL m) n.e.toNat : Nat) : Int) = n.e := fun h11 => by
        have := hT.else_ hmem h11
        rw [rk_all fun j hj => hall j (by omega)]; omega
      obtain ⟨op, d, a, b, t, e⟩ := n
      unfold trimN
      simp only [Nd.mk.injEq, true_and]
      simp only at ht he
      constructor
      · split
        · rfl
        · rename_i h; exact ht h
      · split
        · rename_i h; exact he h
        · rfl
  have := key m.length (Nat.le_refl _)
  rw [List.take_length] at this
  exact this
end Go.Proofs.Ytmghkonmfbpjcab

/- Plain law: what is split does what it did, and has nothing to split any more. No program in sight. -/
namespace Go.Proofs.Ytmghkonmfbpjcab
set_option linter.unusedVariables false
set_option linter.unusedSimpArgs false
open Go.RowKit

theorem sel_one {p : Nat → Bool} {K : Nat} (h : ∀ i i', i < K → i' < K → p i = true → p i' = true → i = i') : (sel p K).length ≤ 1 := by
  unfold sel
  rw [List.length_map]
  have hnd : ((List.range K).filter p).Nodup := List.nodup_range.filter _
  have hm : ∀ a ∈ (List.range K).filter p, a < K ∧ p a = true := fun a ha => by simpa using ha
  generalize (List.range K).filter p = f at *
  match f, hnd, hm with
  | [], _, _ => simp
  | [_], _, _ => simp
  | a :: b :: r, hnd, hm =>
    have ha := hm a (by simp)
    have hb := hm b (by simp)
    have := h a b ha.1 hb.1 ha.2 hb.2
    subst this
    simp at hnd
theorem sel_two {p : Nat → Bool} {K i i' : Nat} (h : ¬ 2 ≤ (sel p K).length) (h1 : i < K) (h2 : i' < K) (p1 : p i = true) (p2 : p i' = true) : i = i' := by
  unfold sel at h
  rw [List.length_map] at h
  have m1 : i ∈ (List.range K).filter p := by simp [h1, p1]
  have m2 : i' ∈ (List.range K).filter p := by simp [h2, p2]
  generalize (List.range K).filter p = f at *
  match f, h, m1, m2 with
  | [], _, m1, _ => cases m1
  | [a], _, m1, m2 => simp at m1 m2; omega
  | a :: b :: r, h, _, _ => simp at h
/-- a way of a node once it is split -/
def Way (l out : List Nd) (j j' : Int) : Prop := (¬ 2 ≤ ways l j ∧ j' = j) ∨ (2 ≤ ways l j ∧ ∃ N : Nat, j' = N ∧ l.length ≤ N ∧ N < out.length ∧ out[N]? = some (skipN j))
/-- a node once it is split -/
structure SpN (l out : List Nd) (n n' : Nd) : Prop where
  op : n'.op = n.op
  d : n'.d = n.d
  a : n'.a = n.a
  b : n'.b = n.b
  same : n.op = 0 ∨ n.op = 12 → n' = n
  t : ¬ (n.op = 0 ∨ n.op = 12) → Way l out n.t n'.t
  e : n.op = 11 → n.e ≠ n.t → Way l out n.e n'.e
  et : n.op = 11 → n.e = n.t → n'.e = n'.t
  ne : n.op ≠ 11 → n'.e = n.e
theorem Way.later {l out out' : List Nd} {j j' : Int} (h : Way l out j j') (hl : out.length ≤ out'.length) (hg : ∀ N : Nat, l.length ≤ N → N < out.length → out'[N]? = out[N]?) : Way l out' j j' :=
  h.imp id fun ⟨h1, N, h2, h3, h4, h5⟩ => ⟨h1, N, h2, h3, by omega, (hg N h3 h4).trans h5⟩
theorem SpN.later {l out out' : List Nd} {n n' : Nd} (h : SpN l out n n') (hl : out.length ≤ out'.length) (hg : ∀ N : Nat, l.length ≤ N → N < out.length → out'[N]? = out[N]?) : SpN l out' n n' :=
  ⟨h.op, h.d, h.a, h.b, h.same, fun x => (h.t x).later hl hg, fun x y => (h.e x y).later hl hg, h.et, h.ne⟩
/-- where a split node leads -/
theorem SpN.lead {regs : Int} {l out : List Nd} {n n' : Nd} (hR : Right regs l) (hn : n ∈ l) (h : SpN l out n n') {m : Int} (hm : leadsB n' m = true) :
    (1 ≤ m ∧ m < l.length ∧ leadsB n m = true ∧ (n.op ≠ 0 → ¬ 2 ≤ ways l m)) ∨ ∃ N : Nat, m = N ∧ l.length ≤ N ∧ N < out.length ∧ ∃ j, out[N]? = some (skipN j) ∧ leadsB n j = true ∧ 2 ≤ ways l j := by
  have hb : ∀ m : Int, leadsB n m = true → 1 ≤ m ∧ m < l.length := fun m hm => by
    rcases leads_cases hm with ⟨h1, rfl⟩ | ⟨h1, rfl⟩
    · exact hR.then_ hn h1
    · exact hR.else_ hn h1
  have hw : ∀ {j j'}, leadsB n j = true → Way l out j j' → (1 ≤ j' ∧ j' < l.length ∧ leadsB n j' = true ∧ (n.op ≠ 0 → ¬ 2 ≤ ways l j')) ∨ ∃ N : Nat, j' = N ∧ l.length ≤ N ∧ N < out.length ∧ ∃ j, out[N]? = some (skipN j) ∧ leadsB n j = true ∧ 2 ≤ ways l j := by
    rintro j j' hj (⟨h1, rfl⟩ | ⟨h1, N, rfl, h3, h4, h5⟩)
    · exact .inl ⟨(hb _ hj).1, (hb _ hj).2, hj, fun _ => h1⟩
    · exact .inr ⟨N, rfl, h3, h4, j, h5, hj, h1⟩
  by_cases h0 : n.op = 0 ∨ n.op = 12
  · rw [h.same h0] at hm
    have := hb m hm
    refine .inl ⟨this.1, this.2, hm, fun hne => ?_⟩
    have h12 : n.op = 12 := h0.resolve_left hne
    simp [leadsB, h12] at hm
  · rcases leads_cases hm with ⟨h1, h2⟩ | ⟨h1, h2⟩
    · rw [h2]
      exact hw (leads_then (by omega)) (h.t h0)
    · rw [h.op] at h1
      rw [h2]
      by_cases he : n.e = n.t
      · rw [h.et h1 he]
        exact hw (leads_then (by omega)) (h.t h0)
      · exact hw (leads_else h1) (h.e h1 he)
/-- a program split so far -/
structure Spl (l : List Nd) (k : Nat) (out : List Nd) : Prop where
  len : l.length ≤ out.length
  old : ∀ j, k ≤ j → j < l.length → out[j]? = l[j]?
  new : ∀ i, i < k → ∀ n, l[i]? = some n → ∃ n', out[i]? = some n' ∧ SpN l out n n'
  skips : ∀ N, l.length ≤ N → N < out.length → ∃ j : Int, out[N]? = some (skipN j) ∧ 2 ≤ ways l j ∧ 1 ≤ j ∧ j < l.length
  only : ∀ i i' n n' N, i < k → i' < k → out[i]? = some n → out[i']? = some n' → l.length ≤ N → leadsB n (N : Nat) = true → leadsB n' (N : Nat) = true → i = i'
theorem Spl.start (l : List Nd) : Spl l 0 l := ⟨Nat.le_refl _, fun _ _ _ => rfl, fun i hi => absurd hi (by omega), fun N h1 h2 => absurd h1 (by omega), fun i i' n n' N hi => absurd hi (by omega)⟩
theorem Spl.step {regs : Int} {l : List Nd} (hR : Right regs l) {k : Nat} {n : Nd} (hn : l[k]? = some n) {out : List Nd} (h : Spl l k out) : Spl l (k + 1) (splitStep l k n out) := by
  have hk : k < l.length := (List.getElem?_eq_some_iff.1 hn).1
  have hmem := List.mem_of_getElem? hn
  have hlen := h.len
  have hko : k < out.length := by omega
  obtain ⟨n', sk, ho, hG, hsk, hfr⟩ : ∃ n' sk, splitStep l k n out = out.set k n' ++ sk ∧ SpN l (out.set k n' ++ sk) n n' ∧ (∀ x ∈ sk, ∃ j : Int, x = skipN j ∧ 2 ≤ ways l j ∧ 1 ≤ j ∧ j < l.length) ∧ (∀ N : Nat, l.length ≤ N → leadsB n' (N : Nat) = true → out.length ≤ N) := by
    by_cases h0 : n.op = 0 ∨ n.op = 12
    · refine ⟨n, [], by rw [splitStep_skip h0, List.append_nil, set_self (by rw [h.old k (Nat.le_refl _) hk]; exact hn)], ⟨rfl, rfl, rfl, rfl, fun _ => rfl, fun hn => absurd h0 hn, fun h1 => absurd h1 (by omega), fun h1 => absurd h1 (by omega), fun _ => rfl⟩, fun x hx => absurd hx (by simp), fun N hN hl => ?_⟩
      rcases leads_cases hl with ⟨h1, h2⟩ | ⟨h1, h2⟩
      · have := hR.then_ hmem h1; omega
      · have := hR.else_ hmem h1; omega
    · have hT := hR.then_ hmem (fun e => h0 (.inr e))
      have hE := fun h11 => hR.else_ hmem h11
      refine ⟨_, _, splitStep_once hko (fun e => h0 (.inl e)) (fun e => h0 (.inr e)), ?_, ?_, ?_⟩
      · have hlen1 : ∀ (a : Nd) (b : List Nd) (i : Nat), (out.set k a ++ b)[out.length + i]? = b[i]? := fun a b i => by
          rw [List.getElem?_append_right (by simp)]
          simp
        have hl2 : ∀ (a : Nd) (b : List Nd), (out.set k a ++ b).length = out.length + b.length := fun a b => by simp
        refine ⟨?_, ?_, ?_, ?_, fun e => absurd e h0, fun _ => ?_, fun h11 hne => ?_, fun h11 he => ?_, fun hn11 => ?_⟩
        · unfold split2 split1; split <;> split <;> rfl
        · unfold split2 split1; split <;> split <;> rfl
        · unfold split2 split1; split <;> split <;> rfl
        · unfold split2 split1; split <;> split <;> rfl
        · by_cases h2 : 2 ≤ ways l n.t
          · refine .inr ⟨h2, out.length, ?_, hlen, ?_, ?_⟩
            · unfold split2 split1; rw [if_pos h2]; split <;> rfl
            · rw [hl2]; unfold skips1; rw [if_pos h2]; simp
            · have := hlen1 (split2 l n (split1 l n out.length) (out.length + (skips1 l n).length)) (skips1 l n ++ skips2 l n) 0
              rw [Nat.add_zero] at this
              rw [this]; unfold skips1; rw [if_pos h2]; rfl
          · refine .inl ⟨h2, ?_⟩
            unfold split2 split1; rw [if_neg h2]; split <;> rfl
        · by_cases h2 : 2 ≤ ways l n.e
          · have hB : elseB l n = true := by simp [elseB, h11, hne, h2]
            refine .inr ⟨h2, out.length + (skips1 l n).length, ?_, by omega, ?_, ?_⟩
            · unfold split2; rw [if_pos hB]
            · rw [hl2]; unfold skips2; rw [if_pos hB]; simp
            · rw [hlen1, List.getElem?_append_right (Nat.le_refl _)]
              unfold skips2; rw [if_pos hB]; simp
          · have hB : elseB l n = false := by simp [elseB, h2]
            refine .inl ⟨h2, ?_⟩
            unfold split2; rw [if_neg (by rw [hB]; simp)]
            unfold split1; split
            · show (if n.op = 11 ∧ n.e = n.t then _ else n.e) = n.e
              rw [if_neg (fun h => hne h.2)]
            · rfl
        · have hB : elseB l n = false := by simp [elseB, he]
          unfold split2; rw [if_neg (by rw [hB]; simp)]
          unfold split1; split
          · show (if n.op = 11 ∧ n.e = n.t then _ else n.e) = _
            rw [if_pos ⟨h11, he⟩]
          · exact he
        · have hB : elseB l n = false := by simp [elseB, hn11]
          unfold split2; rw [if_neg (by rw [hB]; simp)]
          unfold split1; split
          · show (if n.op = 11 ∧ n.e = n.t then _ else n.e) = _
            rw [if_neg (fun h => hn11 h.1)]
          · rfl
      · intro x hx
        rcases List.mem_append.1 hx with hx | hx
        · unfold skips1 at hx
          split at hx
          · rename_i h2
            rw [List.mem_singleton] at hx
            exact ⟨n.t, hx, h2, hT⟩
          · cases hx
        · unfold skips2 at hx
          split at hx
          · rename_i h2
            rw [List.mem_singleton] at hx
            simp [elseB] at h2
            exact ⟨n.e, hx, h2.2, hE h2.1.1⟩
          · cases hx
      · intro N hN hl
        have h4 : ∀ z : Nat, (split2 l n (split1 l n out.length) z).op = n.op := fun z => by unfold split2 split1; split <;> split <;> rfl
        rcases leads_cases hl with ⟨_, h2⟩ | ⟨h1, h2⟩
        · have h3 : (split2 l n (split1 l n out.length) (out.length + (skips1 l n).length)).t = if 2 ≤ ways l n.t then (out.length : Int) else n.t := by
            unfold split2 split1; split <;> split <;> rfl
          rw [h3] at h2
          split at h2 <;> omega
        · rw [h4] at h1
          have hE := hE h1
          by_cases hB : elseB l n = true
          · have h3 : (split2 l n (split1 l n out.length) (out.length + (skips1 l n).length)).e = ((out.length + (skips1 l n).length : Nat) : Int) := by
              unfold split2; rw [if_pos hB]
            rw [h3] at h2
            omega
          · have h3 : (split2 l n (split1 l n out.length) (out.length + (skips1 l n).length)).e = (split1 l n out.length).e := by
              unfold split2; rw [if_neg hB]
            rw [h3] at h2
            unfold split1 at h2
            split at h2
            · simp only at h2
              split at h2 <;> omega
            · omega
  rw [ho]
  have hlo : (out.set k n' ++ sk).length = out.length + sk.length := by simp
  have hget : ∀ j, j ≠ k → j < out.length → (out.set k n' ++ sk)[j]? = out[j]? := fun j h1 h2 => by
    rw [List.getElem?_append_left (by simpa using h2), List.getElem?_set_ne (Ne.symm h1)]
  have hgk : (out.set k n' ++ sk)[k]? = some n' := by
    rw [List.getElem?_append_left (by simpa using hko), List.getElem?_set]
    simp [hko]
  refine ⟨by omega, fun j h1 h2 => ?_, fun i hi m hm => ?_, fun N h1 h2 => ?_, fun i i' m m' N hi hi' hm hm' hN hl hl' => ?_⟩
  · rw [hget j (by omega) (by omega)]
    exact h.old j (by omega) h2
  · by_cases e : i = k
    · subst e
      rw [hn] at hm
      injection hm with hm
      subst hm
      exact ⟨n', hgk, hG⟩
    · obtain ⟨m', h1, h2⟩ := h.new i (by omega) m hm
      have := (List.getElem?_eq_some_iff.1 h1).1
      exact ⟨m', (hget i e this).trans h1, h2.later (by omega) fun N a b => hget N (by omega) b⟩
  · by_cases h3 : N < out.length
    · obtain ⟨j, h4, h5⟩ := h.skips N h1 h3
      exact ⟨j, (hget N (by omega) h3).trans h4, h5⟩
    · rw [List.getElem?_append_right (by simpa using h3)]
      rw [List.length_set]
      have h6 : N - out.length < sk.length := by omega
      rw [List.getElem?_eq_getElem h6]
      obtain ⟨j, h7, h8⟩ := hsk _ (List.getElem_mem h6)
      exact ⟨j, by rw [h7], h8⟩
  · have hle : ∀ i m, i < k → (out.set k n' ++ sk)[i]? = some m → leadsB m (N : Nat) = true → N < out.length := fun i m hi hm hl => by
      rw [hget i (by omega) (by omega)] at hm
      obtain ⟨m0, hm0⟩ : ∃ m0, l[i]? = some m0 := ⟨_, List.getElem?_eq_getElem (by omega)⟩
      obtain ⟨m1, h1, h2⟩ := h.new i hi m0 hm0
      rw [hm] at h1
      injection h1 with h1
      subst h1
      rcases h2.lead hR (List.mem_of_getElem? hm0) hl with ⟨_, a, _⟩ | ⟨N', a, _, b, _⟩
      · omega
      · omega
    by_cases e : i = k
    · by_cases e' : i' = k
      · omega
      · subst e
        rw [hgk] at hm
        injection hm with hm
        subst hm
        have h1 := hfr N hN hl
        have h2 := hle i' m' (by omega) hm' hl'
        omega
    · by_cases e' : i' = k
      · subst e'
        rw [hgk] at hm'
        injection hm' with hm'
        subst hm'
        have h1 := hfr N hN hl'
        have h2 := hle i m (by omega) hm hl
        omega
      · rw [hget i e (by omega)] at hm
        rw [hget i' e' (by omega)] at hm'
        exact h.only i i' m m' N (by omega) (by omega) hm hm' hN hl hl'
theorem splitTo_spl {regs : Int} {l : List Nd} (hR : Right regs l) : ∀ k, k ≤ l.length → Spl l k (splitTo l k)
  | 0, _ => Spl.start l
  | k + 1, hk => by
    have hn : l[k]? = some l[k] := List.getElem?_eq_getElem hk
    rw [splitTo_succ hn]
    exact (splitTo_spl hR k (by omega)).step hR hn
theorem split_spl {regs : Int} {l : List Nd} (hR : Right regs l) : Spl l l.length (splitL l) := splitTo_spl hR l.length (Nat.le_refl _)
theorem Right.split {regs : Int} {l : List Nd} (hR : Right regs l) (h256 : (splitL l).length ≤ 256) : Right regs (splitL l) := by
  have hS := split_spl hR
  have hlo := hR.lo
  have hlen := hS.len
  have hcase : ∀ m ∈ splitL l, (∃ n ∈ l, SpN l (splitL l) n m) ∨ ∃ j : Int, m = skipN j ∧ 1 ≤ j ∧ j < l.length := fun m hm => by
    obtain ⟨i, hi⟩ := List.mem_iff_getElem?.1 hm
    have hil := (List.getElem?_eq_some_iff.1 hi).1
    by_cases h : i < l.length
    · obtain ⟨n, hn⟩ : ∃ n, l[i]? = some n := ⟨_, List.getElem?_eq_getElem h⟩
      obtain ⟨n', h1, h2⟩ := hS.new i h n hn
      rw [hi] at h1
      injection h1 with h1
      subst h1
      exact .inl ⟨n, List.mem_of_getElem? hn, h2⟩
    · obtain ⟨j, h1, _, h3⟩ := hS.skips i (by omega) hil
      rw [hi] at h1
      injection h1 with h1
      exact .inr ⟨j, h1, h3⟩
  refine ⟨by omega, h256, hR.rlo, hR.rhi, fun m hm => ?_, fun m hm => ?_, fun m hm => ?_⟩
  · rcases hcase m hm with ⟨n, hn, hG⟩ | ⟨j, rfl, _⟩
    · rw [hG.op]; exact hR.ok n hn
    · rfl
  · rcases hcase m hm with ⟨n, hn, hG⟩ | ⟨j, rfl, h1, h2⟩
    · have hr := hR.rng n hn
      simp only [badR, Bool.or_eq_false_iff, Bool.not_eq_false'] at hr ⊢
      rw [hG.op, hG.d, hG.a, hG.b]
      have hin : ∀ j : Int, leadsB m j = true → 1 ≤ j ∧ j < ((splitL l).length : Int) := fun j hj => by
        rcases hG.lead hR hn hj with ⟨a, b, _⟩ | ⟨N, rfl, a, b, _⟩
        · omega
        · omega
      refine ⟨⟨hr.1.1, ?_⟩, ?_⟩
      · by_cases h12 : n.op = 12
        · simp [okN, shT, h12]
        · have := hin m.t (leads_then (by rw [hG.op]; exact h12))
          simp [okN, this.1, this.2]
      · by_cases h11 : n.op = 11
        · have := hin m.e (leads_else (by rw [hG.op]; exact h11))
          simp [okN, this.1, this.2]
        · simp [okN, hasE, h11]
    · have : j < ((splitL l).length : Int) := by omega
      simp [badR, skipN, okR, okN, hasD, hasA, hasB, hasE, shT, opOk, inB, h1, this]
  · rcases hcase m hm with ⟨n, hn, hG⟩ | ⟨j, rfl, h1, h2⟩
    · have hr := hR.frm n hn
      have hok := hR.ok n hn
      simp only [badF, Bool.or_eq_false_iff, Bool.not_eq_false'] at hr ⊢
      rw [hG.op, hG.d, hG.a, hG.b]
      refine ⟨⟨hr.1.1, ?_⟩, ?_⟩
      · by_cases h12 : n.op = 12
        · rw [hG.same (.inr h12)]; exact hr.1.2
        · simp [okF, shT, hok, h12]
      · by_cases h11 : n.op = 11
        · simp [okF, hasE, h11]
        · rw [hG.ne h11]; exact hr.2
    · simp [badF, skipN, okF, hasD, hasA, hasB, hasE, shT, opOk, inB, isSet]
/-- what is split has nothing to split any more -/
theorem split_again {regs : Int} {l : List Nd} (hR : Right regs l) : splitL (splitL l) = splitL l := by
  have hS := split_spl hR
  have hlen := hS.len
  generalize splitL l = m at *
  have hone : ∀ {k : Nat} {n' : Nd}, m[k]? = some n' → n'.op ≠ 0 → ∀ {j : Int}, leadsB n' j = true → ¬ 2 ≤ ways m j := by
    intro k n' hk h0 j hj
    have hkm := (List.getElem?_eq_some_iff.1 hk).1
    have hkl : k < l.length := by
      by_cases h : k < l.length
      · exact h
      · obtain ⟨j', h1, _⟩ := hS.skips k (by omega) hkm
        rw [hk] at h1
        injection h1 with h1
        rw [h1] at h0
        exact absurd rfl h0
    obtain ⟨n, hn⟩ : ∃ n, l[k]? = some n := ⟨_, List.getElem?_eq_getElem hkl⟩
    obtain ⟨n2, h1, hG⟩ := hS.new k hkl n hn
    rw [hk] at h1
    injection h1 with h1
    subst h1
    rw [hG.op] at h0
    have key : ∀ i, i < m.length → aheadP m j.toNat i = true → i = k := by
      intro i him hi
      have hj0 : 0 ≤ j := by
        rcases hG.lead hR (List.mem_of_getElem? hn) hj with ⟨a, _⟩ | ⟨N, rfl, _⟩ <;> omega
      obtain ⟨x, hx⟩ : ∃ x, m[i]? = some x := ⟨_, List.getElem?_eq_getElem him⟩
      rw [aheadP_eq hx, Int.toNat_of_nonneg hj0] at hi
      rcases hG.lead hR (List.mem_of_getElem? hn) hj with ⟨a1, a2, a3, a4⟩ | ⟨N, rfl, a1, a2, a3⟩
      · by_cases hil : i < l.length
        · obtain ⟨y, hy⟩ : ∃ y, l[i]? = some y := ⟨_, List.getElem?_eq_getElem hil⟩
          obtain ⟨x2, h1, hG2⟩ := hS.new i hil y hy
          rw [hx] at h1
          injection h1 with h1
          subst h1
          rcases hG2.lead hR (List.mem_of_getElem? hy) hi with ⟨_, _, b3, _⟩ | ⟨N, rfl, b1, _⟩
          · exact sel_two (a4 h0) hil hkl (by rw [aheadP_eq hy, Int.toNat_of_nonneg hj0]; exact b3) (by rw [aheadP_eq hn, Int.toNat_of_nonneg hj0]; exact a3)
          · omega
        · obtain ⟨j', h1, h2, _⟩ := hS.skips i (by omega) him
          rw [hx] at h1
          injection h1 with h1
          rw [h1] at hi
          simp [leadsB, skipN] at hi
          rw [hi] at h2
          exact absurd h2 (a4 h0)
      · by_cases hil : i < l.length
        · exact hS.only i k x n' N hil hkl hx hk a1 hi hj
        · obtain ⟨j', h1, h2, h3, h4⟩ := hS.skips i (by omega) him
          rw [hx] at h1
          injection h1 with h1
          rw [h1] at hi
          simp [leadsB, skipN] at hi
          omega
    have := sel_one (p := aheadP m j.toNat) (K := m.length) fun i i' hi hi' p1 p2 => by rw [key i hi p1, key i' hi' p2]
    unfold ways
    omega
  have key : ∀ k, k ≤ m.length → splitTo m k = m := by
    intro k
    induction k with
    | zero => intro _; rfl
    | succ k ih =>
      intro hk
      have hn : m[k]? = some m[k] := List.getElem?_eq_getElem hk
      rw [splitTo_succ hn, ih (by omega)]
      by_cases h0 : m[k].op = 0 ∨ m[k].op = 12
      · exact splitStep_skip h0
      · rw [splitStep_two h0]
        have h2 := hone hn (fun e => h0 (.inl e)) (leads_then (fun e => h0 (.inr e)))
        rw [step1_none h2 hn]
        refine step2_none ?_ ?_
        · cases hB : elseB m m[k]
          · rfl
          · simp [elseB] at hB
            exact absurd hB.2 (hone hn (fun e => h0 (.inl e)) (leads_else hB.1.1))
        · unfold split1
          rw [if_neg h2]; exact hn
  exact key m.length (Nat.le_refl _)
/-- a run of what is split -/
structure SplitR (l : List Nd) (s t : Rn) : Prop where
  alike : Alike s t
  pos : s.ended = false → t.pos = s.pos ∧ s.pos < l.length
theorem split_sim {regs : Int} {l : List Nd} (inp : List Int) (hR : Right regs l) : Sim l (splitL l) inp 2 (SplitR l) := by
  have hS := split_spl hR
  refine ⟨by omega, fun h => ⟨h.alike.out, h.alike.ret, h.alike.ended⟩, fun {s t} h he => ?_⟩
  obtain ⟨hp, hl⟩ := h.pos he
  obtain ⟨n, hn⟩ : ∃ n, l[s.pos]? = some n := ⟨_, List.getElem?_eq_getElem hl⟩
  obtain ⟨n', hn', hG⟩ := hS.new s.pos hl n hn
  have hmem := List.mem_of_getElem? hn
  have het : t.ended = false := by rw [← h.alike.ended]; exact he
  obtain ⟨h1, h2, h3⟩ := h.alike.step (inp := inp) (nd_get hn) (nd_get (by rw [hp]; exact hn')) hG.op hG.d hG.a hG.b
  have hone : goR (splitL l) inp 1 t = stepR (splitL l) inp t := by rw [goR_step het]; rfl
  by_cases hend : (stepR l inp s).ended = true
  · refine ⟨1, by omega, by omega, ?_⟩
    rw [hone]
    exact ⟨h1, fun e => by rw [hend] at e; cases e⟩
  · have hend : (stepR l inp s).ended = false := by simpa using hend
    have h12 := h3 hend
    have het2 : (stepR (splitL l) inp t).ended = false := by rw [← h1.ended]; exact hend
    -- one way
    have way : ∀ {j j' : Int}, 1 ≤ j → j < l.length → (j' = j ∨ ∃ N : Nat, j' = N ∧ (splitL l)[N]? = some (skipN j)) → (stepR l inp s).pos = j.toNat → (stepR (splitL l) inp t).pos = j'.toNat → ∃ k, 1 ≤ k ∧ k ≤ 2 ∧ SplitR l (stepR l inp s) (goR (splitL l) inp k t) := by
      intro j j' g1 g2 hw e1 e2
      rcases hw with rfl | ⟨N, rfl, hN⟩
      · exact ⟨1, by omega, by omega, by rw [hone]; exact ⟨h1, fun _ => ⟨by rw [e1, e2], by omega⟩⟩⟩
      · refine ⟨2, by omega, by omega, ?_⟩
        have hsk := stepR_skip (m := splitL l) (inp := inp) (t := stepR (splitL l) inp t) (j := j) (nd_get (by rw [e2, Int.toNat_natCast]; exact hN))
        have : goR (splitL l) inp 2 t = { stepR (splitL l) inp t with steps := (stepR (splitL l) inp t).steps + 1, pos := j.toNat } := by
          rw [goR_step het, goR_step het2, hsk]; rfl
        rw [this]
        exact ⟨⟨h1.regs, h1.read, h1.out, h1.ret, h1.ended, h1.ts⟩, fun _ => ⟨e1.symm, by omega⟩⟩
    have wy : ∀ {j j' : Int}, Way l (splitL l) j j' → j' = j ∨ ∃ N : Nat, j' = N ∧ (splitL l)[N]? = some (skipN j) := fun h => by
      rcases h with ⟨_, h⟩ | ⟨_, N, a, _, _, b⟩
      · exact .inl h
      · exact .inr ⟨N, a, b⟩
    have hT := hR.then_ hmem h12
    have htw : n'.t = n.t ∨ ∃ N : Nat, n'.t = N ∧ (splitL l)[N]? = some (skipN n.t) := by
      by_cases h0 : n.op = 0 ∨ n.op = 12
      · exact .inl (by rw [hG.same h0])
      · exact wy (hG.t h0)
    rcases h2 with ⟨e1, e2⟩ | ⟨h11, e1, e2⟩
    · exact way hT.1 hT.2 htw e1 e2
    · have hE := hR.else_ hmem h11
      by_cases he2 : n.e = n.t
      · rw [he2] at e1
        rw [hG.et h11 he2] at e2
        exact way hT.1 hT.2 htw e1 e2
      · exact way hE.1 hE.2 (wy (hG.e h11 he2)) e1 e2
theorem split_start {regs : Int} {l : List Nd} (hR : Right regs l) : SplitR l (startR regs) (startR regs) :=
  ⟨⟨rfl, rfl, rfl, rfl, rfl, rfl⟩, fun _ => ⟨rfl, by have := hR.lo; show 0 < l.length; omega⟩⟩
end Go.Proofs.Ytmghkonmfbpjcab
