/- Plain law: where a node goes on, in order, each once, is the list of the nodes that it leads to; the terms of a program. No program in sight. -/
import Derived.Test.YtmghkonmfbpjcaaPgX
import Derived.Test.YtmghkonmfbpjcaaTRow
namespace Go.Proofs.Ytmghkonmfbpjcaa
set_option linter.unusedVariables false
set_option linter.unusedSimpArgs false
open Go.RowKit

theorem asc_ext : ∀ (xs ys : List Int), xs.Pairwise (· < ·) → ys.Pairwise (· < ·) → (∀ m, m ∈ xs ↔ m ∈ ys) → xs = ys
  | [], [], _, _, _ => rfl
  | [], y :: ys, _, _, h => by have := (h y).2 (by simp); cases this
  | x :: xs, [], _, _, h => by have := (h x).1 (by simp); cases this
  | x :: xs, y :: ys, hx, hy, h => by
    obtain ⟨hx1, hx2⟩ := List.pairwise_cons.1 hx
    obtain ⟨hy1, hy2⟩ := List.pairwise_cons.1 hy
    have hxy : x = y := by
      have a := (h x).1 (by simp)
      have b := (h y).2 (by simp)
      rcases List.mem_cons.1 a with e | a
      · exact e
      · rcases List.mem_cons.1 b with e | b
        · exact e.symm
        · have := hy1 x a
          have := hx1 y b
          omega
    subst hxy
    rw [asc_ext xs ys hx2 hy2 fun m => ?_]
    constructor
    · intro hm
      rcases List.mem_cons.1 ((h m).1 (by simp [hm])) with e | e
      · have := hx1 m hm; omega
      · exact e
    · intro hm
      rcases List.mem_cons.1 ((h m).2 (by simp [hm])) with e | e
      · have := hy1 m hm; omega
      · exact e
theorem sel_asc (p : Nat → Bool) : ∀ k, (sel p k).Pairwise (· < ·)
  | 0 => by simp [sel]
  | k + 1 => by
    cases h : p k with
    | false => rw [sel_succ_false h]; exact sel_asc p k
    | true =>
      rw [sel_succ_true h, List.pairwise_append]
      refine ⟨sel_asc p k, by simp, fun a ha b hb => ?_⟩
      obtain ⟨i, hi, _, rfl⟩ := mem_sel.1 ha
      simp only [List.mem_singleton] at hb
      omega
theorem once2_mem (x y m : Int) : m ∈ once2 x y ↔ m = x ∨ m = y := by
  unfold once2
  split
  · rename_i h; simp [h]
  · simp
theorem once2_asc {x y : Int} (h : x ≤ y) : (once2 x y).Pairwise (· < ·) := by
  unfold once2
  split
  · simp
  · simp; omega
theorem exitsS_mem (n : Nd) (m : Int) : m ∈ exitsS n ↔ leadsB n m = true := by
  unfold exitsS leadsB
  by_cases h12 : n.op = 12
  · simp [h12]
  · by_cases h11 : n.op = 11
    · rw [if_neg h12, if_pos h11]
      simp only [h11]
      split
      · rw [once2_mem]; simp; constructor <;> rintro (h | h) <;> simp [h]
      · rw [once2_mem]; simp; constructor <;> rintro (h | h) <;> simp [h]
    · rw [if_neg h12, if_neg h11]
      have b12 : (n.op != 12) = true := by simpa using h12
      have b11 : (n.op == 11) = false := by simpa using h11
      rw [b12, b11]
      simp only [List.mem_singleton, Bool.true_and, Bool.false_and, Bool.or_false, beq_iff_eq]
      exact eq_comm
theorem exitsS_asc (n : Nd) : (exitsS n).Pairwise (· < ·) := by
  unfold exitsS
  split
  · simp
  · split
    · split
      · exact once2_asc (by omega)
      · exact once2_asc (by omega)
    · simp
theorem exitsS_len (n : Nd) : (exitsS n).length ≤ 2 := by
  unfold exitsS once2
  split
  · simp
  · split
    · split <;> split <;> simp
    · simp
theorem exitsS_has (n : Nd) (m : Int) : (exitsS n).contains m = leadsB n m := by
  rw [Bool.eq_iff_iff, List.contains_iff_mem]
  exact exitsS_mem n m
theorem exitsS_sel {regs : Int} {l : List Nd} (hR : Right regs l) {k : Nat} {n : Nd} (hk : l[k]? = some n) : exitsS n = sel (nextP l k) l.length := by
  refine asc_ext _ _ (exitsS_asc n) (sel_asc _ _) fun m => ?_
  rw [exitsS_mem, mem_sel]
  have hn := List.mem_of_getElem? hk
  constructor
  · intro h
    have hm : 0 ≤ m ∧ m < l.length := by
      unfold leadsB at h
      simp only [Bool.or_eq_true, Bool.and_eq_true, bne_iff_ne, ne_eq, beq_iff_eq] at h
      rcases h with ⟨h1, h2⟩ | ⟨h1, h2⟩
      · have := hR.then_ hn h1; omega
      · have := hR.else_ hn h1; omega
    obtain ⟨i, rfl⟩ := Int.eq_ofNat_of_zero_le hm.1
    exact ⟨i, by omega, by rw [nextP_eq hk]; exact h, rfl⟩
  · rintro ⟨i, hi, hp, rfl⟩
    rw [nextP_eq hk] at hp
    exact hp

/-- the term that a node reckons -/
def Nd.tm (n : Nd) : Tm := ⟨n.op, n.a, n.b⟩
/-- the terms, one after the other, each once -/
def tmsOf (l : List Nd) : Nat → List Tm
  | 0 => []
  | k + 1 => if hasB (nd l k).op && !(tmsOf l k).contains (nd l k).tm then tmsOf l k ++ [(nd l k).tm] else tmsOf l k
theorem tmsOf_yes {l : List Nd} {k : Nat} {n : Nd} (h : l[k]? = some n) (h1 : hasB n.op = true) (h2 : (tmsOf l k).contains n.tm = false) : tmsOf l (k + 1) = tmsOf l k ++ [n.tm] := by
  rw [tmsOf, nd_get h, h1, h2]; rfl
theorem tmsOf_no {l : List Nd} {k : Nat} {n : Nd} (h : l[k]? = some n) (h1 : hasB n.op = false) : tmsOf l (k + 1) = tmsOf l k := by
  rw [tmsOf, nd_get h, h1]; rfl
theorem tmsOf_seen {l : List Nd} {k : Nat} {n : Nd} (h : l[k]? = some n) (h2 : (tmsOf l k).contains n.tm = true) : tmsOf l (k + 1) = tmsOf l k := by
  rw [tmsOf, nd_get h, h2]; simp
theorem tmsOf_len (l : List Nd) : ∀ k, (tmsOf l k).length ≤ k
  | 0 => by simp [tmsOf]
  | k + 1 => by
    have := tmsOf_len l k
    rw [tmsOf]
    split
    · rw [List.length_append]; simp; omega
    · omega
end Go.Proofs.Ytmghkonmfbpjcaa
