/- Plain law: how graph.Split splits the ways of one node, one way after the other. No program in sight. -/
import Derived.Test.YtmghkonmfbpjcaaWays
namespace Go.Proofs.Ytmghkonmfbpjcaa
set_option linter.unusedVariables false
set_option linter.unusedSimpArgs false
open Go.RowKit

/-- the node after its first i ways; N: how many nodes there are so far -/
def xmid (l : List Nd) (n : Nd) (N : Nat) : Nat → Nd
  | 0 => n
  | 1 => { n with t := if 2 ≤ ways l n.t then (N : Int) else n.t }
  | _ => { n with t := if 2 ≤ ways l n.t then (N : Int) else n.t, e := if n.e = n.t then (if 2 ≤ ways l n.t then (N : Int) else n.t) else if 2 ≤ ways l n.e then ((N + (skips1 l n).length : Nat) : Int) else n.e }
/-- the skips after the first i ways -/
def smid (l : List Nd) (n : Nd) : Nat → List Nd
  | 0 => []
  | 1 => skips1 l n
  | _ => skips1 l n ++ (if n.e ≠ n.t ∧ 2 ≤ ways l n.e then [skipN n.e] else [])
theorem xmid_op (l : List Nd) (n : Nd) (N i : Nat) : (xmid l n N i).op = n.op := by
  rcases i with _ | _ | i <;> rfl
theorem smid_len (l : List Nd) (n : Nd) (i : Nat) : (smid l n i).length ≤ 2 := by
  have := skips1_len l n
  rcases i with _ | _ | i
  · simp [smid]
  · simp only [smid]; omega
  · simp only [smid, List.length_append]; split <;> simp <;> omega
theorem mid_end {l : List Nd} {n : Nd} {k : Nat} {out : List Nd} (h0 : n.op ≠ 0) (hk : out[k]? = some n) : splitStep l k n out = out.set k (xmid l n out.length (exitN n.op)) ++ smid l n (exitN n.op) := by
  have hko : k < out.length := (List.getElem?_eq_some_iff.1 hk).1
  by_cases h12 : n.op = 12
  · rw [splitStep_skip (.inr h12)]
    simp [exitN, h12, xmid, smid, set_self hk]
  · rw [splitStep_once hko h0 h12]
    by_cases h11 : n.op = 11
    · have he : exitN n.op = 2 := by simp [exitN, h11]
      rw [he]
      by_cases hw : 2 ≤ ways l n.t
      · by_cases het : n.e = n.t
        · simp [xmid, smid, split2, split1, elseB, skips2, hw, het, h11]
        · by_cases hwe : 2 ≤ ways l n.e
          · simp [xmid, smid, split2, split1, elseB, skips2, hw, het, h11, hwe]
          · simp [xmid, smid, split2, split1, elseB, skips2, hw, het, h11, hwe]
      · by_cases het : n.e = n.t
        · rcases n with ⟨op, d, a, b, t, e⟩
          simp only at *
          subst het
          simp [xmid, smid, split2, split1, elseB, skips2, skips1, hw, h11]
        · by_cases hwe : 2 ≤ ways l n.e
          · rcases n with ⟨op, d, a, b, t, e⟩
            simp only at *
            simp [xmid, smid, split2, split1, elseB, skips2, skips1, hw, het, h11, hwe]
          · rcases n with ⟨op, d, a, b, t, e⟩
            simp only at *
            simp [xmid, smid, split2, split1, elseB, skips2, skips1, hw, het, h11, hwe]
    · have he : exitN n.op = 1 := by simp [exitN, h12, h11]
      rw [he]
      by_cases hw : 2 ≤ ways l n.t
      · simp [xmid, smid, split2, split1, elseB, skips2, hw, h11]
      · simp [xmid, smid, split2, split1, elseB, skips2, hw, h11]
/-- the first way, more than one node ahead -/
theorem mid_t_more {l : List Nd} {n : Nd} {N : Nat} (h : 2 ≤ ways l n.t) : xmid l n N 1 = n.put 4 N ∧ smid l n 1 = smid l n 0 ++ [skipN n.t] := by
  simp [xmid, smid, skips1, h, Nd.put]
theorem mid_t_one {l : List Nd} {n : Nd} {N : Nat} (h : ¬ 2 ≤ ways l n.t) : xmid l n N 1 = n ∧ smid l n 1 = smid l n 0 := by
  simp [xmid, smid, skips1, h]
theorem mid_e_same {l : List Nd} {n : Nd} {N : Nat} (h : n.e = n.t) : xmid l n N 2 = (xmid l n N 1).put 5 (xmid l n N 1).t ∧ smid l n 2 = smid l n 1 := by
  simp [xmid, smid, h, Nd.put]
theorem mid_e_more {l : List Nd} {n : Nd} {N : Nat} (he : n.e ≠ n.t) (h : 2 ≤ ways l n.e) : xmid l n N 2 = (xmid l n N 1).put 5 ((N + (smid l n 1).length : Nat) : Int) ∧ smid l n 2 = smid l n 1 ++ [skipN n.e] := by
  simp [xmid, smid, he, h, Nd.put]
theorem mid_e_one {l : List Nd} {n : Nd} {N : Nat} (he : n.e ≠ n.t) (h : ¬ 2 ≤ ways l n.e) : xmid l n N 2 = xmid l n N 1 ∧ smid l n 2 = smid l n 1 := by
  simp [xmid, smid, he, h]
/-- a way with more than one node ahead, whichever it is -/
theorem mid_more {l : List Nd} {n : Nd} {N i mm : Nat} (h : (i = 0 ∧ n.t = (mm : Int)) ∨ (i = 1 ∧ n.e = (mm : Int) ∧ n.e ≠ n.t)) (hw : 2 ≤ ways l mm) :
    xmid l n N (i + 1) = (xmid l n N i).put (4 + i) ((N + (smid l n i).length : Nat) : Int) ∧ smid l n (i + 1) = smid l n i ++ [skipN mm] := by
  rcases h with ⟨rfl, h⟩ | ⟨rfl, h, hne⟩
  · rw [← h] at hw ⊢
    obtain ⟨h1, h2⟩ := mid_t_more (N := N) hw
    exact ⟨h1, h2⟩
  · rw [← h] at hw ⊢
    exact mid_e_more hne hw
theorem mid_one {l : List Nd} {n : Nd} {N i mm : Nat} (h : (i = 0 ∧ n.t = (mm : Int)) ∨ (i = 1 ∧ n.e = (mm : Int) ∧ n.e ≠ n.t)) (hw : ¬ 2 ≤ ways l mm) :
    xmid l n N (i + 1) = xmid l n N i ∧ smid l n (i + 1) = smid l n i := by
  rcases h with ⟨rfl, h⟩ | ⟨rfl, h, hne⟩
  · rw [← h] at hw
    exact mid_t_one hw
  · rw [← h] at hw
    exact mid_e_one hne hw
theorem xmid_t (l : List Nd) (n : Nd) (N : Nat) : (xmid l n N 0).t = n.t := rfl
theorem xmid_e (l : List Nd) (n : Nd) (N : Nat) : (xmid l n N 1).e = n.e := rfl
end Go.Proofs.Ytmghkonmfbpjcaa
